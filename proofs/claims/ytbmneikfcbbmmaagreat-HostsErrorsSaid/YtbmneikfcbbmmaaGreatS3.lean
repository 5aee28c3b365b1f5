/- HostsErrors: checks of the start (3). -/
import Derived.Test.YtbmneikfcbbmmaaGreatTA
set_option linter.unusedVariables false
set_option linter.unusedSimpArgs false
set_option linter.unusedSectionVars false
section
open Go Go.Ab Go.Proofs
namespace Go.Proofs.YtbmneikfcbbmmaaGreat.HX
theorem bad_12 : badOk true 2 = true := by kernel_rfl
end Go.Proofs.YtbmneikfcbbmmaaGreat.HX
end

section
open Go Go.Ab Go.Proofs
namespace Go.Proofs.YtbmneikfcbbmmaaGreat.HX
theorem good_12_1 : goodOk true 2 1 = true := by kernel_rfl
theorem good_12_2 : goodOk true 2 2 = true := by kernel_rfl
theorem good_12_4 : goodOk true 2 4 = true := by kernel_rfl
theorem good_12_8 : goodOk true 2 8 = true := by kernel_rfl
theorem good_12_16 : goodOk true 2 16 = true := by kernel_rfl
theorem good_12_32 : goodOk true 2 32 = true := by kernel_rfl
theorem good_12_64 : goodOk true 2 64 = true := by kernel_rfl
theorem good_12_128 : goodOk true 2 128 = true := by kernel_rfl
theorem good_12_256 : goodOk true 2 256 = true := by kernel_rfl
theorem size_12 : factsUpto 14 (sizeFacts true 2) 1025 = true := by kernel_rfl
end Go.Proofs.YtbmneikfcbbmmaaGreat.HX
end
