/- HostsFair: checks of single ticks, nine pipes. -/
import Derived.Test.YtbmneikfcbbmmaaGreatH0
set_option linter.unusedVariables false
set_option linter.unusedSimpArgs false
set_option linter.unusedSectionVars false
open Go Go.Ab Go.Proofs
namespace Go.Proofs.YtbmneikfcbbmmaaGreat.HF
theorem t_7_6 : chkT 7 6 = true := by kernel_rfl
theorem t_7_4 : chkT 7 4 = true := by kernel_rfl
theorem t_7_2 : chkT 7 2 = true := by kernel_rfl
theorem t_7_0 : chkT 7 0 = true := by kernel_rfl
theorem s_8 : chkStart 8 = true := by kernel_rfl
theorem z_8 : chkT0 8 = true := by kernel_rfl
theorem t_8_4 : chkT 8 4 = true := by kernel_rfl
end Go.Proofs.YtbmneikfcbbmmaaGreat.HF
