/- SplitsHost: the checks of kind 1. -/
import Derived.Test.YtjfpofhpcphedaaGreatH0
set_option linter.unusedVariables false
set_option linter.unusedSimpArgs false
set_option linter.unusedSectionVars false
open Go Go.Ab Go.Proofs
namespace Go.Proofs.YtjfpofhpcphedaaGreat.SH
theorem chk_1t : chkAll 1 true = true := by kernel_rfl
theorem chk_1f : chkAll 1 false = true := by kernel_rfl
end Go.Proofs.YtjfpofhpcphedaaGreat.SH
