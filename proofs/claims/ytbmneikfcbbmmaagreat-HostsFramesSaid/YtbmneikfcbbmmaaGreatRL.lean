/- HostsFrames: the closed call of lives. -/
import Derived.Test.YtbmneikfcbbmmaaGreatRA
set_option linter.unusedVariables false
set_option linter.unusedSimpArgs false
set_option linter.unusedSectionVars false
open Go Go.Ab Go.Proofs
namespace Go.Proofs.YtbmneikfcbbmmaaGreat.HF
theorem lives26 : callA (mkCtx Tryz.prog masks fun _ => none) (exec Tryz.prog (mkCtx Tryz.prog masks fun _ => none) 1000000 AV) 13 [] ⟨.lf, posOf 600, []⟩ (fun v _ => .ok v) = .ok (.bool true) := by kernel_rfl
end Go.Proofs.YtbmneikfcbbmmaaGreat.HF
