/- HostsErrors: checks of single rounds, the first pipe in the plan (11). -/
import Derived.Test.YtbmneikfcbbmmaaGreatTA
set_option linter.unusedVariables false
set_option linter.unusedSimpArgs false
set_option linter.unusedSectionVars false
open Go Go.Ab Go.Proofs
namespace Go.Proofs.YtbmneikfcbbmmaaGreat.HX
theorem c11 : rounds C 8 205 = true := by kernel_rfl
end Go.Proofs.YtbmneikfcbbmmaaGreat.HX
