/- SplitsErrors: the checks of kind 1. -/
import Derived.Test.YtjfpofhpcphedaaGreatDoorH0
set_option linter.unusedVariables false
set_option linter.unusedSimpArgs false
set_option linter.unusedSectionVars false
open Go Go.Ab Go.Proofs
namespace Go.Proofs.YtjfpofhpcphedaaGreatDoor.SE
theorem g1 : chkOr chkA 40 (goods 1) (runG 1) [] = true := by kernel_rfl
theorem nil1 : chkNil 1 = true := by kernel_rfl
theorem n1_0 : chkN 1 0 9 = true := by kernel_rfl
theorem n1_9 : chkN 1 9 17 = true := by kernel_rfl
theorem n1_17 : chkN 1 17 25 = true := by kernel_rfl
theorem n1_25 : chkN 1 25 33 = true := by kernel_rfl
theorem n1_33 : chkN 1 33 41 = true := by kernel_rfl
end Go.Proofs.YtjfpofhpcphedaaGreatDoor.SE
