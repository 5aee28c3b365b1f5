/- HostsFair: checks of single ticks, ten pipes. -/
import Derived.Test.YtbmneikfcbbmmaaGreatH0
set_option linter.unusedVariables false
set_option linter.unusedSimpArgs false
set_option linter.unusedSectionVars false
open Go Go.Ab Go.Proofs
namespace Go.Proofs.YtbmneikfcbbmmaaGreat.HF
theorem t_8_0 : chkT 8 0 = true := by kernel_rfl
theorem s_9 : chkStart 9 = true := by kernel_rfl
theorem z_9 : chkT0 9 = true := by kernel_rfl
theorem t_9_3 : chkT 9 3 = true := by kernel_rfl
theorem t_9_6 : chkT 9 6 = true := by kernel_rfl
theorem t_9_0 : chkT 9 0 = true := by kernel_rfl
end Go.Proofs.YtbmneikfcbbmmaaGreat.HF
