/- HostsFair: the closed facts of the row. -/
import Derived.Test.YtbmneikfcbbmmaaGreatEI
import Derived.Test.YtbmneikfcbbmmaaGreatRows
set_option linter.unusedVariables false
set_option linter.unusedSimpArgs false
set_option linter.unusedSectionVars false
namespace Go.Proofs.YtbmneikfcbbmmaaGreat
theorem facts1 : Tryz.prog.funcNamed Rows.hostsFairRow.func = some 3 := by kernel_rfl
theorem k1 : Rows.hostsFairRow.wf (OpenSpec.ofChange Rows.hostsFairSpec) = true := by kernel_rfl
theorem k2 : laidOutB Tryz.prog = true := by kernel_rfl
theorem k3 : mapsRowed Tryz.prog = true := by kernel_rfl
theorem k4 : Tryz.f3.params.all (Tryz.prog.readableRec ·) = true := by kernel_rfl
theorem k5 : namedTie Tryz.prog Rows.hostsFairRow.named Rows.hostsFairSpec.vars = true := by kernel_rfl
theorem k6 : (Rows.hostsFairRow.stops == []) = true := by kernel_rfl
theorem k7 : (Tryz.prog.stops == []) = true := by kernel_rfl
theorem k8 : (Rows.hostsFairRow.knobs == []) = true := by kernel_rfl
theorem k9 : (Tryz.prog.stopKnobs == []) = true := by kernel_rfl
theorem k10 : (Rows.hostsFairRow.inPlace == Tryz.prog.inPlace 3) = true := by kernel_rfl
theorem k11 : (Rows.hostsFairRow.unfollowed == Tryz.prog.unfollowed 3) = true := by kernel_rfl
theorem k12 : (Rows.hostsFairRow.recurses == Tryz.prog.recurses 3) = true := by kernel_rfl
theorem k13 : (Rows.hostsFairRow.named == Tryz.prog.varsNamed 3) = true := by kernel_rfl
theorem k14 : (Rows.hostsFairRow.maps == (Tryz.f3.params.toList ++ Rows.hostsFairSpec.plain.varTypes Tryz.prog).any (Tryz.prog.mapsRec ·)) = true := by kernel_rfl
theorem k15 : (Rows.hostsFairRow.ifaces == (Tryz.f3.params.toList ++ Rows.hostsFairSpec.plain.varTypes Tryz.prog).any (Tryz.prog.ifacesRec ·)) = true := by kernel_rfl
theorem k16 : (Rows.hostsFairRow.mapsOut == Tryz.prog.mapsAmong Tryz.f3.resultTypes.toList) = true := by kernel_rfl
theorem k17 : (Rows.hostsFairRow.loops == (Tryz.f3.params.toList ++ Rows.hostsFairSpec.plain.varTypes Tryz.prog).any (Tryz.prog.loopsFrom ·)) = true := by kernel_rfl
theorem k17b : (Rows.hostsFairRow.wideKeys == (Tryz.f3.params.toList ++ Rows.hostsFairSpec.plain.varTypes Tryz.prog ++ Tryz.f3.resultTypes.toList).any (Tryz.prog.wideKeysFrom ·)) = true := by kernel_rfl
theorem k18 : Rows.hostsFairSpec.vars.all (Tryz.prog.varReadable ·) = true := by kernel_rfl
theorem k19 : Tryz.f3.resultTypes.all (fun t => Tryz.prog.readableRec t && decide (t < Tryz.prog.types.size)) = true := by kernel_rfl
theorem k20 : (Rows.hostsFairRow.ifacesOut == Tryz.f3.resultTypes.toList.any (Tryz.prog.ifacesRec ·)) = true := by kernel_rfl
theorem k21 : (Rows.hostsFairRow.loopsOut == Tryz.f3.resultTypes.toList.any (Tryz.prog.loopsFrom ·)) = true := by kernel_rfl
theorem k22 : (Rows.hostsFairRow.plainKeys == Tryz.prog.plainKeys) = true := by kernel_rfl
theorem k23 : Rows.hostsFairRow.shortTexts.isNone = true := by kernel_rfl
theorem k23b : Tryz.prog.stopsHeard = true := by kernel_rfl
theorem k24 : Tryz.prog.mayEnter = true := by kernel_rfl
theorem k24b : (Rows.hostsFairRow.lifted == Tryz.prog.liftsFinal) = true := by kernel_rfl
theorem k24c : (Tryz.prog.make == some Rows.hostsFairRow.make) = true := by kernel_rfl
theorem k25 : (Rows.hostsFairRow.kinds == Go.Ab.rowKinds Tryz.prog Tryz.f3 Rows.hostsFairRow) = true := by kernel_rfl
theorem k26 : (Rows.hostsFairRow.pinned == Rows.hostsFairRow.pinnedBy) = true := by kernel_rfl
theorem k27 : (Rows.hostsFairRow.veiled == (Tryz.f3.params.toList ++ Rows.hostsFairSpec.plain.varTypes Tryz.prog ++ Tryz.f3.resultTypes.toList).any (Tryz.prog.veiledRec ·)) = true := by kernel_rfl
theorem k28 : Rows.hostsFairRow.veiledFits Tryz.prog Tryz.f3.params.toList (Tryz.f3.params.toList ++ Rows.hostsFairSpec.plain.varTypes Tryz.prog ++ Tryz.f3.resultTypes.toList) = true := by kernel_rfl
theorem facts2 : joinedFacts Tryz.prog 3 Tryz.f3 Rows.hostsFairSpec Rows.hostsFairRow = true :=
  Go.Ab.joined_split k1 k2 k3 k4 k5 k6 k7 k8 k9 k10 k11 k12 k13 k14 k15 k16 k17 k17b k18 k19 k20 k21 k22 k23 k23b k24 k24b k24c k25 k26 k27 k28
theorem facts3 : Tryz.f3.isInstance Tryz.prog Rows.hostsFairRow.origin Rows.hostsFairRow.targs := of_decide_eq_true (by kernel_rfl)
theorem facts4 : Tryz.f3.isWrapper Tryz.prog Rows.hostsFairRow.wrapper Rows.hostsFairRow.mainSum := by unfold Func.isWrapper; first | (rw [if_pos (by decide +kernel)]; kernel_rfl) | (rw [if_neg (by decide +kernel)]; exact ⟨rfl, rfl⟩)
end Go.Proofs.YtbmneikfcbbmmaaGreat
