/- HostsErrors: checks of the start, kinds without intervals; isochronous pipes of full speed. -/
import Derived.Test.YtbmneikfcbbmmaaGreatTA
set_option linter.unusedVariables false
set_option linter.unusedSimpArgs false
set_option linter.unusedSectionVars false
section
open Go Go.Ab Go.Proofs
namespace Go.Proofs.YtbmneikfcbbmmaaGreat.HX
theorem plain_ok : plainOk = true := by kernel_rfl
theorem ring0_ok : ringOk 0 = true := by kernel_rfl
theorem ring2_ok : ringOk 2 = true := by kernel_rfl
end Go.Proofs.YtbmneikfcbbmmaaGreat.HX
end

section
open Go Go.Ab Go.Proofs
namespace Go.Proofs.YtbmneikfcbbmmaaGreat.HX
theorem good_11_8 : goodOk true 1 8 = true := by kernel_rfl
theorem good_11_16 : goodOk true 1 16 = true := by kernel_rfl
theorem good_11_32 : goodOk true 1 32 = true := by kernel_rfl
theorem good_11_64 : goodOk true 1 64 = true := by kernel_rfl
theorem good_11_128 : goodOk true 1 128 = true := by kernel_rfl
theorem good_11_256 : goodOk true 1 256 = true := by kernel_rfl
theorem size_11 : factsUpto 14 (sizeFacts true 1) 1024 = true := by kernel_rfl
end Go.Proofs.YtbmneikfcbbmmaaGreat.HX
end
