/- HostsFrames: the checks. -/
import Derived.Test.YtbmneikfcbbmmaaGreatRA
set_option linter.unusedVariables false
set_option linter.unusedSimpArgs false
set_option linter.unusedSectionVars false
open Go Go.Ab Go.Proofs
namespace Go.Proofs.YtbmneikfcbbmmaaGreat.HR
theorem all1_true : all1 = true := by kernel_rfl
theorem all2_true : all2 = true := by kernel_rfl
theorem all3_true : all3 = true := by kernel_rfl
end Go.Proofs.YtbmneikfcbbmmaaGreat.HR
