/- HostsFair: checks of single ticks, twelve pipes. -/
import Derived.Test.YtbmneikfcbbmmaaGreatH0
set_option linter.unusedVariables false
set_option linter.unusedSimpArgs false
set_option linter.unusedSectionVars false
open Go Go.Ab Go.Proofs
namespace Go.Proofs.YtbmneikfcbbmmaaGreat.HF
theorem t_11_9 : chkT 11 9 = true := by kernel_rfl
theorem t_11_10 : chkT 11 10 = true := by kernel_rfl
theorem t_11_0 : chkT 11 0 = true := by kernel_rfl
theorem s_12 : chkStart 12 = true := by kernel_rfl
theorem z_12 : chkT0 12 = true := by kernel_rfl
theorem t_12_0 : chkT 12 0 = true := by kernel_rfl
end Go.Proofs.YtbmneikfcbbmmaaGreat.HF
