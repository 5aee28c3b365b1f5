/- HostsFair: checks of single ticks, seven pipes. -/
import Derived.Test.YtbmneikfcbbmmaaGreatH0
set_option linter.unusedVariables false
set_option linter.unusedSimpArgs false
set_option linter.unusedSectionVars false
open Go Go.Ab Go.Proofs
namespace Go.Proofs.YtbmneikfcbbmmaaGreat.HF
theorem t_5_4 : chkT 5 4 = true := by kernel_rfl
theorem t_5_1 : chkT 5 1 = true := by kernel_rfl
theorem t_5_3 : chkT 5 3 = true := by kernel_rfl
theorem t_5_0 : chkT 5 0 = true := by kernel_rfl
theorem s_6 : chkStart 6 = true := by kernel_rfl
theorem z_6 : chkT0 6 = true := by kernel_rfl
end Go.Proofs.YtbmneikfcbbmmaaGreat.HF
