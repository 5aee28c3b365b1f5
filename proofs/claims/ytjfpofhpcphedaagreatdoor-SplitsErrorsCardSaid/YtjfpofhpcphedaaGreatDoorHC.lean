/- SplitsErrors: the checks of kind 2. -/
import Derived.Test.YtjfpofhpcphedaaGreatDoorH0
set_option linter.unusedVariables false
set_option linter.unusedSimpArgs false
set_option linter.unusedSectionVars false
open Go Go.Ab Go.Proofs
namespace Go.Proofs.YtjfpofhpcphedaaGreatDoor.SE
theorem g2 : chkOr chkA 40 (goods 2) (runG 2) [] = true := by kernel_rfl
theorem nil2 : chkNil 2 = true := by kernel_rfl
theorem n2_0 : chkN 2 0 9 = true := by kernel_rfl
theorem n2_9 : chkN 2 9 17 = true := by kernel_rfl
theorem n2_17 : chkN 2 17 25 = true := by kernel_rfl
theorem n2_25 : chkN 2 25 33 = true := by kernel_rfl
theorem n2_33 : chkN 2 33 41 = true := by kernel_rfl
end Go.Proofs.YtjfpofhpcphedaaGreatDoor.SE
