/- SplitsErrors: the closed facts of the row. -/
import Derived.Test.YtjfpofhpcphedaaGreatDoorHU
set_option linter.unusedVariables false
set_option linter.unusedSimpArgs false
set_option linter.unusedSectionVars false
namespace Go.Proofs.YtjfpofhpcphedaaGreatDoor
open Go.ChangeShapes Go.WideShapes Go.ChangeAt Go.RowKit
theorem facts1 : Tryz.pinned.checked.prog.funcNamed Rows.splitsErrorsRow.func = some 3 := by kernel_rfl
theorem facts2 : joinedFacts Tryz.pinned.checked.prog 3 Tryz.f3 Rows.splitsErrorsSpec Rows.splitsErrorsRow = true := by kernel_rfl
end Go.Proofs.YtjfpofhpcphedaaGreatDoor
