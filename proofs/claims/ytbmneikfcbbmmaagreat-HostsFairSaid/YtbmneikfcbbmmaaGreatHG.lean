/- HostsFair: checks of single ticks, eleven pipes. -/
import Derived.Test.YtbmneikfcbbmmaaGreatH0
set_option linter.unusedVariables false
set_option linter.unusedSimpArgs false
set_option linter.unusedSectionVars false
open Go Go.Ab Go.Proofs
namespace Go.Proofs.YtbmneikfcbbmmaaGreat.HF
theorem s_10 : chkStart 10 = true := by kernel_rfl
theorem z_10 : chkT0 10 = true := by kernel_rfl
theorem t_10_2 : chkT 10 2 = true := by kernel_rfl
theorem t_10_4 : chkT 10 4 = true := by kernel_rfl
theorem t_10_6 : chkT 10 6 = true := by kernel_rfl
theorem t_10_8 : chkT 10 8 = true := by kernel_rfl
end Go.Proofs.YtbmneikfcbbmmaaGreat.HF
