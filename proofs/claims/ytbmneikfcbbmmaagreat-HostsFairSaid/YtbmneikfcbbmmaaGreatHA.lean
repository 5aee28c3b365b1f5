/- HostsFair: checks of single ticks, one to four pipes. -/
import Derived.Test.YtbmneikfcbbmmaaGreatH0
set_option linter.unusedVariables false
set_option linter.unusedSimpArgs false
set_option linter.unusedSectionVars false
open Go Go.Ab Go.Proofs
namespace Go.Proofs.YtbmneikfcbbmmaaGreat.HF
theorem s_1 : chkStart 1 = true := by kernel_rfl
theorem z_1 : chkT0 1 = true := by kernel_rfl
theorem t_1_0 : chkT 1 0 = true := by kernel_rfl
theorem s_2 : chkStart 2 = true := by kernel_rfl
theorem z_2 : chkT0 2 = true := by kernel_rfl
theorem t_2_0 : chkT 2 0 = true := by kernel_rfl
theorem s_3 : chkStart 3 = true := by kernel_rfl
theorem z_3 : chkT0 3 = true := by kernel_rfl
end Go.Proofs.YtbmneikfcbbmmaaGreat.HF
