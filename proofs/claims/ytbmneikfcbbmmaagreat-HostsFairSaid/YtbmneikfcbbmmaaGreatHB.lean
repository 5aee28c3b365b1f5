/- HostsFair: checks of single ticks, five and six pipes. -/
import Derived.Test.YtbmneikfcbbmmaaGreatH0
set_option linter.unusedVariables false
set_option linter.unusedSimpArgs false
set_option linter.unusedSectionVars false
open Go Go.Ab Go.Proofs
namespace Go.Proofs.YtbmneikfcbbmmaaGreat.HF
theorem t_3_0 : chkT 3 0 = true := by kernel_rfl
theorem s_4 : chkStart 4 = true := by kernel_rfl
theorem z_4 : chkT0 4 = true := by kernel_rfl
theorem t_4_0 : chkT 4 0 = true := by kernel_rfl
theorem s_5 : chkStart 5 = true := by kernel_rfl
theorem z_5 : chkT0 5 = true := by kernel_rfl
theorem t_5_2 : chkT 5 2 = true := by kernel_rfl
end Go.Proofs.YtbmneikfcbbmmaaGreat.HF
