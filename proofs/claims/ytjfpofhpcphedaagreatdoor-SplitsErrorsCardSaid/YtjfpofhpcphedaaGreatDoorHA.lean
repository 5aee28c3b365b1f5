/- SplitsErrors: the checks of kind 0. -/
import Derived.Test.YtjfpofhpcphedaaGreatDoorH0
set_option linter.unusedVariables false
set_option linter.unusedSimpArgs false
set_option linter.unusedSectionVars false
open Go Go.Ab Go.Proofs
namespace Go.Proofs.YtjfpofhpcphedaaGreatDoor.SE
theorem g0 : chkOr chkA 40 (goods 0) (runG 0) [] = true := by kernel_rfl
theorem nil0 : chkNil 0 = true := by kernel_rfl
theorem n0_0 : chkN 0 0 9 = true := by kernel_rfl
theorem n0_9 : chkN 0 9 17 = true := by kernel_rfl
theorem n0_17 : chkN 0 17 25 = true := by kernel_rfl
theorem n0_25 : chkN 0 25 33 = true := by kernel_rfl
theorem n0_33 : chkN 0 33 41 = true := by kernel_rfl
end Go.Proofs.YtjfpofhpcphedaaGreatDoor.SE
