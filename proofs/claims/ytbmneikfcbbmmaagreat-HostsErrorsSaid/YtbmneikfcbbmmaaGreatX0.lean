/- HostsErrors: checks of the first round, of the exit, and of the end; the closed call of lives. -/
import Derived.Test.YtbmneikfcbbmmaaGreatTA
set_option linter.unusedVariables false
set_option linter.unusedSimpArgs false
set_option linter.unusedSectionVars false
section
open Go Go.Ab Go.Proofs
namespace Go.Proofs.YtbmneikfcbbmmaaGreat.HX
theorem a0 : (run1 A (B 1)).all chk1 = true := by kernel_rfl
theorem xB : (run1 (B 256) (B 256)).all chkX = true := by kernel_rfl
theorem xC : (run1 (C 256) (C 256)).all chkX = true := by kernel_rfl
theorem sB : (runS (B 256)).all chkR = true := by kernel_rfl
theorem sC : (runS (C 256)).all chkR = true := by kernel_rfl
end Go.Proofs.YtbmneikfcbbmmaaGreat.HX
end

section
open Go Go.Ab Go.Proofs
namespace Go.Proofs.YtbmneikfcbbmmaaGreat.HF
theorem lives26 : callA (mkCtx Tryz.prog masks fun _ => none) (exec Tryz.prog (mkCtx Tryz.prog masks fun _ => none) 1000000 AV) 13 [] ⟨.lf, posOf 600, []⟩ (fun v _ => .ok v) = .ok (.bool true) := by kernel_rfl
end Go.Proofs.YtbmneikfcbbmmaaGreat.HF
end
