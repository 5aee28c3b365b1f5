/- HostsErrors: checks of the start (4). -/
import Derived.Test.YtbmneikfcbbmmaaGreatTA
set_option linter.unusedVariables false
set_option linter.unusedSimpArgs false
set_option linter.unusedSectionVars false
section
open Go Go.Ab Go.Proofs
namespace Go.Proofs.YtbmneikfcbbmmaaGreat.HX
theorem bad_00 : badOk false 0 = true := by kernel_rfl
end Go.Proofs.YtbmneikfcbbmmaaGreat.HX
end

section
open Go Go.Ab Go.Proofs
namespace Go.Proofs.YtbmneikfcbbmmaaGreat.HX
theorem good_00_8 : goodOk false 0 8 = true := by kernel_rfl
theorem good_00_16 : goodOk false 0 16 = true := by kernel_rfl
theorem good_00_32 : goodOk false 0 32 = true := by kernel_rfl
theorem good_00_64 : goodOk false 0 64 = true := by kernel_rfl
theorem good_00_128 : goodOk false 0 128 = true := by kernel_rfl
theorem good_00_256 : goodOk false 0 256 = true := by kernel_rfl
theorem size_00 : factsUpto 14 (sizeFacts false 0) 9 = true := by kernel_rfl
end Go.Proofs.YtbmneikfcbbmmaaGreat.HX
end
