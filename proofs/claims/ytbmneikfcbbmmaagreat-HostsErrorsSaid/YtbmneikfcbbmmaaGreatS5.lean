/- HostsErrors: checks of the start (5). -/
import Derived.Test.YtbmneikfcbbmmaaGreatTA
set_option linter.unusedVariables false
set_option linter.unusedSimpArgs false
set_option linter.unusedSectionVars false
section
open Go Go.Ab Go.Proofs
namespace Go.Proofs.YtbmneikfcbbmmaaGreat.HX
theorem bad_01 : badOk false 1 = true := by kernel_rfl
end Go.Proofs.YtbmneikfcbbmmaaGreat.HX
end

section
open Go Go.Ab Go.Proofs
namespace Go.Proofs.YtbmneikfcbbmmaaGreat.HX
theorem good_01_8 : goodOk false 1 8 = true := by kernel_rfl
theorem good_01_16 : goodOk false 1 16 = true := by kernel_rfl
theorem good_01_32 : goodOk false 1 32 = true := by kernel_rfl
theorem good_01_64 : goodOk false 1 64 = true := by kernel_rfl
theorem good_01_128 : goodOk false 1 128 = true := by kernel_rfl
theorem good_01_256 : goodOk false 1 256 = true := by kernel_rfl
theorem size_01 : factsUpto 14 (sizeFacts false 1) 65 = true := by kernel_rfl
end Go.Proofs.YtbmneikfcbbmmaaGreat.HX
end
