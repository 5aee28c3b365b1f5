/- SplitsErrors: the checks of the other kinds, of data that are too long, of the second piece, and the closed call of lives. -/
import Derived.Test.YtjfpofhpcphedaaGreatDoorH0
set_option linter.unusedVariables false
set_option linter.unusedSimpArgs false
set_option linter.unusedSectionVars false
open Go Go.Ab Go.Proofs
namespace Go.Proofs.YtjfpofhpcphedaaGreatDoor.SE
theorem g4 : chkOr chkA 40 (goods 4) (runG 4) [] = true := by kernel_rfl
theorem nil4 : chkNil 4 = true := by kernel_rfl
theorem n4_0 : chkN 4 0 9 = true := by kernel_rfl
theorem n4_9 : chkN 4 9 17 = true := by kernel_rfl
theorem n4_17 : chkN 4 17 25 = true := by kernel_rfl
theorem n4_25 : chkN 4 25 33 = true := by kernel_rfl
theorem n4_33 : chkN 4 33 41 = true := by kernel_rfl
theorem long : runO.all chkO = true := by kernel_rfl
theorem b0 : (runB 0).all chkB = true := by kernel_rfl
theorem b1 : (runB 1).all chkB = true := by kernel_rfl
theorem lives : callA ctx (exec Tryz.prog ctx 1000000 AV) 4 [] ⟨.lf, posOf 600, []⟩ (fun v _ => .ok v) = .ok (.bool true) := by kernel_rfl
end Go.Proofs.YtjfpofhpcphedaaGreatDoor.SE
