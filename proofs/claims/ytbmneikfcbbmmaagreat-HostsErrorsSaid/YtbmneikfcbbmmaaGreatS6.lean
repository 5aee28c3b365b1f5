/- HostsErrors: checks of the start (6). -/
import Derived.Test.YtbmneikfcbbmmaaGreatTA
set_option linter.unusedVariables false
set_option linter.unusedSimpArgs false
set_option linter.unusedSectionVars false
section
open Go Go.Ab Go.Proofs
namespace Go.Proofs.YtbmneikfcbbmmaaGreat.HX
theorem bad_02 : badOk false 2 = true := by kernel_rfl
end Go.Proofs.YtbmneikfcbbmmaaGreat.HX
end

section
open Go Go.Ab Go.Proofs
namespace Go.Proofs.YtbmneikfcbbmmaaGreat.HX
theorem good_02_1 : goodOk false 2 1 = true := by kernel_rfl
theorem good_02_2 : goodOk false 2 2 = true := by kernel_rfl
theorem good_02_4 : goodOk false 2 4 = true := by kernel_rfl
theorem good_02_8 : goodOk false 2 8 = true := by kernel_rfl
theorem good_02_16 : goodOk false 2 16 = true := by kernel_rfl
theorem good_02_32 : goodOk false 2 32 = true := by kernel_rfl
theorem good_02_64 : goodOk false 2 64 = true := by kernel_rfl
theorem good_02_128 : goodOk false 2 128 = true := by kernel_rfl
theorem good_02_256 : goodOk false 2 256 = true := by kernel_rfl
theorem size_02 : factsUpto 14 (sizeFacts false 2) 1025 = true := by kernel_rfl
end Go.Proofs.YtbmneikfcbbmmaaGreat.HX
end
