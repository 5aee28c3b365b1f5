/- SplitsHost: the closed call of lives, and lists that are too long. -/
import Derived.Test.YtjfpofhpcphedaaGreatH0
set_option linter.unusedVariables false
set_option linter.unusedSimpArgs false
set_option linter.unusedSectionVars false
open Go Go.Ab Go.Proofs
namespace Go.Proofs.YtjfpofhpcphedaaGreat.SH
theorem lives : callA ctx (exec Tryz.prog ctx 1000000 AV) 4 [] ⟨.lf, posOf 600, []⟩ (fun v _ => .ok v) = .ok (.bool true) := by kernel_rfl
theorem long_t : (runLong true).all chkR = true := by kernel_rfl
theorem long_f : (runLong false).all chkR = true := by kernel_rfl
end Go.Proofs.YtjfpofhpcphedaaGreat.SH
