/- HostsFair: checks of single ticks, eleven pipes. -/
import Derived.Test.YtbmneikfcbbmmaaGreatH0
set_option linter.unusedVariables false
set_option linter.unusedSimpArgs false
set_option linter.unusedSectionVars false
open Go Go.Ab Go.Proofs
namespace Go.Proofs.YtbmneikfcbbmmaaGreat.HF
theorem t_11_4 : chkT 11 4 = true := by kernel_rfl
theorem t_11_5 : chkT 11 5 = true := by kernel_rfl
theorem t_11_6 : chkT 11 6 = true := by kernel_rfl
theorem t_11_7 : chkT 11 7 = true := by kernel_rfl
theorem t_11_8 : chkT 11 8 = true := by kernel_rfl
end Go.Proofs.YtbmneikfcbbmmaaGreat.HF
