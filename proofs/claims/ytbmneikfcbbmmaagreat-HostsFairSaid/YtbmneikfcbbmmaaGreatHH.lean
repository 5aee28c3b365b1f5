/- HostsFair: checks of single ticks, eleven pipes. -/
import Derived.Test.YtbmneikfcbbmmaaGreatH0
set_option linter.unusedVariables false
set_option linter.unusedSimpArgs false
set_option linter.unusedSectionVars false
open Go Go.Ab Go.Proofs
namespace Go.Proofs.YtbmneikfcbbmmaaGreat.HF
theorem t_10_0 : chkT 10 0 = true := by kernel_rfl
theorem s_11 : chkStart 11 = true := by kernel_rfl
theorem z_11 : chkT0 11 = true := by kernel_rfl
theorem t_11_1 : chkT 11 1 = true := by kernel_rfl
theorem t_11_2 : chkT 11 2 = true := by kernel_rfl
theorem t_11_3 : chkT 11 3 = true := by kernel_rfl
end Go.Proofs.YtbmneikfcbbmmaaGreat.HF
