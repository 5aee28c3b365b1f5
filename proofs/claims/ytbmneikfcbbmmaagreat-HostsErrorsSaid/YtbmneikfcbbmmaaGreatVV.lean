/- HostsErrors: the closed facts of the row. -/
import Derived.Test.YtbmneikfcbbmmaaGreatQD
import Derived.Test.YtbmneikfcbbmmaaGreatRows
set_option linter.unusedVariables false
set_option linter.unusedSimpArgs false
set_option linter.unusedSectionVars false
namespace Go.Proofs.YtbmneikfcbbmmaaGreat
theorem facts1 : Tryz.prog.funcNamed Rows.hostsErrorsRow.func = some 7 := by kernel_rfl
theorem k1 : Rows.hostsErrorsRow.wf (OpenSpec.ofChange Rows.hostsErrorsSpec) = true := by kernel_rfl
theorem k2 : laidOutB Tryz.prog = true := by kernel_rfl
theorem k3 : mapsRowed Tryz.prog = true := by kernel_rfl
theorem k4 : Tryz.f7.params.all (Tryz.prog.readableRec ·) = true := by kernel_rfl
theorem k5 : namedTie Tryz.prog Rows.hostsErrorsRow.named Rows.hostsErrorsSpec.vars = true := by kernel_rfl
theorem k6 : (Rows.hostsErrorsRow.stops == []) = true := by kernel_rfl
theorem k7 : (Tryz.prog.stops == []) = true := by kernel_rfl
theorem k8 : (Rows.hostsErrorsRow.knobs == []) = true := by kernel_rfl
theorem k9 : (Tryz.prog.stopKnobs == []) = true := by kernel_rfl
theorem k10 : (Rows.hostsErrorsRow.inPlace == Tryz.prog.inPlace 7) = true := by kernel_rfl
theorem k11 : (Rows.hostsErrorsRow.unfollowed == Tryz.prog.unfollowed 7) = true := by kernel_rfl
theorem k12 : (Rows.hostsErrorsRow.recurses == Tryz.prog.recurses 7) = true := by kernel_rfl
theorem k13 : (Rows.hostsErrorsRow.named == Tryz.prog.varsNamed 7) = true := by kernel_rfl
theorem k14 : (Rows.hostsErrorsRow.maps == (Tryz.f7.params.toList ++ Rows.hostsErrorsSpec.plain.varTypes Tryz.prog).any (Tryz.prog.mapsRec ·)) = true := by kernel_rfl
theorem k15 : (Rows.hostsErrorsRow.ifaces == (Tryz.f7.params.toList ++ Rows.hostsErrorsSpec.plain.varTypes Tryz.prog).any (Tryz.prog.ifacesRec ·)) = true := by kernel_rfl
theorem k16 : (Rows.hostsErrorsRow.mapsOut == Tryz.prog.mapsAmong Tryz.f7.resultTypes.toList) = true := by kernel_rfl
theorem k17 : (Rows.hostsErrorsRow.loops == (Tryz.f7.params.toList ++ Rows.hostsErrorsSpec.plain.varTypes Tryz.prog).any (Tryz.prog.loopsFrom ·)) = true := by kernel_rfl
theorem k17b : (Rows.hostsErrorsRow.wideKeys == (Tryz.f7.params.toList ++ Rows.hostsErrorsSpec.plain.varTypes Tryz.prog ++ Tryz.f7.resultTypes.toList).any (Tryz.prog.wideKeysFrom ·)) = true := by kernel_rfl
theorem k18 : Rows.hostsErrorsSpec.vars.all (Tryz.prog.varReadable ·) = true := by kernel_rfl
theorem k19 : Tryz.f7.resultTypes.all (fun t => Tryz.prog.readableRec t && decide (t < Tryz.prog.types.size)) = true := by kernel_rfl
theorem k20 : (Rows.hostsErrorsRow.ifacesOut == Tryz.f7.resultTypes.toList.any (Tryz.prog.ifacesRec ·)) = true := by kernel_rfl
theorem k21 : (Rows.hostsErrorsRow.loopsOut == Tryz.f7.resultTypes.toList.any (Tryz.prog.loopsFrom ·)) = true := by kernel_rfl
theorem k22 : (Rows.hostsErrorsRow.plainKeys == Tryz.prog.plainKeys) = true := by kernel_rfl
theorem k23 : Rows.hostsErrorsRow.shortTexts.isNone = true := by kernel_rfl
theorem k23b : Tryz.prog.stopsHeard = true := by kernel_rfl
theorem k24 : Tryz.prog.mayEnter = true := by kernel_rfl
theorem k24b : (Rows.hostsErrorsRow.lifted == Tryz.prog.liftsFinal) = true := by kernel_rfl
theorem k24c : (Tryz.prog.make == some Rows.hostsErrorsRow.make) = true := by kernel_rfl
theorem k25 : (Rows.hostsErrorsRow.kinds == Go.Ab.rowKinds Tryz.prog Tryz.f7 Rows.hostsErrorsRow) = true := by kernel_rfl
theorem k26 : (Rows.hostsErrorsRow.pinned == Rows.hostsErrorsRow.pinnedBy) = true := by kernel_rfl
theorem k27 : (Rows.hostsErrorsRow.veiled == (Tryz.f7.params.toList ++ Rows.hostsErrorsSpec.plain.varTypes Tryz.prog ++ Tryz.f7.resultTypes.toList).any (Tryz.prog.veiledRec ·)) = true := by kernel_rfl
theorem k28 : Rows.hostsErrorsRow.veiledFits Tryz.prog Tryz.f7.params.toList (Tryz.f7.params.toList ++ Rows.hostsErrorsSpec.plain.varTypes Tryz.prog ++ Tryz.f7.resultTypes.toList) = true := by kernel_rfl
theorem facts2 : joinedFacts Tryz.prog 7 Tryz.f7 Rows.hostsErrorsSpec Rows.hostsErrorsRow = true :=
  Go.Ab.joined_split k1 k2 k3 k4 k5 k6 k7 k8 k9 k10 k11 k12 k13 k14 k15 k16 k17 k17b k18 k19 k20 k21 k22 k23 k23b k24 k24b k24c k25 k26 k27 k28
theorem facts3 : Tryz.f7.isInstance Tryz.prog Rows.hostsErrorsRow.origin Rows.hostsErrorsRow.targs := of_decide_eq_true (by kernel_rfl)
theorem facts4 : Tryz.f7.isWrapper Tryz.prog Rows.hostsErrorsRow.wrapper Rows.hostsErrorsRow.mainSum := by unfold Func.isWrapper; first | (rw [if_pos (by decide +kernel)]; kernel_rfl) | (rw [if_neg (by decide +kernel)]; exact ⟨rfl, rfl⟩)
end Go.Proofs.YtbmneikfcbbmmaaGreat
