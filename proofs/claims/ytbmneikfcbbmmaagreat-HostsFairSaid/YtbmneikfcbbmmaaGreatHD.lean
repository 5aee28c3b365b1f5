/- HostsFair: checks of single ticks, seven to eight pipes. -/
import Derived.Test.YtbmneikfcbbmmaaGreatH0
set_option linter.unusedVariables false
set_option linter.unusedSimpArgs false
set_option linter.unusedSectionVars false
open Go Go.Ab Go.Proofs
namespace Go.Proofs.YtbmneikfcbbmmaaGreat.HF
theorem t_6_0 : chkT 6 0 = true := by kernel_rfl
theorem s_7 : chkStart 7 = true := by kernel_rfl
theorem z_7 : chkT0 7 = true := by kernel_rfl
theorem t_7_5 : chkT 7 5 = true := by kernel_rfl
theorem t_7_3 : chkT 7 3 = true := by kernel_rfl
theorem t_7_1 : chkT 7 1 = true := by kernel_rfl
end Go.Proofs.YtbmneikfcbbmmaaGreat.HF
