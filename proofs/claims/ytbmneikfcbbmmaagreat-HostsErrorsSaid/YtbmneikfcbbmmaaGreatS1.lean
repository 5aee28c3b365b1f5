/- HostsErrors: checks of the start (1). -/
import Derived.Test.YtbmneikfcbbmmaaGreatTA
set_option linter.unusedVariables false
set_option linter.unusedSimpArgs false
set_option linter.unusedSectionVars false
open Go Go.Ab Go.Proofs
namespace Go.Proofs.YtbmneikfcbbmmaaGreat.HX
theorem bad_10 : badOk true 0 = true := by kernel_rfl
end Go.Proofs.YtbmneikfcbbmmaaGreat.HX
