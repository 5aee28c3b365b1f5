/- SplitsErrors: the checks of kind 3. -/
import Derived.Test.YtjfpofhpcphedaaGreatDoorH0
set_option linter.unusedVariables false
set_option linter.unusedSimpArgs false
set_option linter.unusedSectionVars false
open Go Go.Ab Go.Proofs
namespace Go.Proofs.YtjfpofhpcphedaaGreatDoor.SE
theorem g3 : chkOr chkA 40 (goods 3) (runG 3) [] = true := by kernel_rfl
theorem nil3 : chkNil 3 = true := by kernel_rfl
theorem n3_0 : chkN 3 0 9 = true := by kernel_rfl
theorem n3_9 : chkN 3 9 17 = true := by kernel_rfl
theorem n3_17 : chkN 3 17 25 = true := by kernel_rfl
theorem n3_25 : chkN 3 25 33 = true := by kernel_rfl
theorem n3_33 : chkN 3 33 41 = true := by kernel_rfl
end Go.Proofs.YtjfpofhpcphedaaGreatDoor.SE
