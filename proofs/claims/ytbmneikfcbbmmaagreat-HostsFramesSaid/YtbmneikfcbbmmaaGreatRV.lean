/- HostsFrames: the closed facts of the row. -/
import Derived.Test.YtbmneikfcbbmmaaGreatFI
import Derived.Test.YtbmneikfcbbmmaaGreatRows
set_option linter.unusedVariables false
set_option linter.unusedSimpArgs false
set_option linter.unusedSectionVars false
namespace Go.Proofs.YtbmneikfcbbmmaaGreat
theorem facts1 : Tryz.prog.funcNamed Rows.hostsFramesRow.func = some 4 := by kernel_rfl
theorem k1 : Rows.hostsFramesRow.wf (OpenSpec.ofChange Rows.hostsFramesSpec) = true := by kernel_rfl
theorem k2 : laidOutB Tryz.prog = true := by kernel_rfl
theorem k3 : mapsRowed Tryz.prog = true := by kernel_rfl
theorem k4 : Tryz.f4.params.all (Tryz.prog.readableRec ·) = true := by kernel_rfl
theorem k5 : namedTie Tryz.prog Rows.hostsFramesRow.named Rows.hostsFramesSpec.vars = true := by kernel_rfl
theorem k6 : (Rows.hostsFramesRow.stops == []) = true := by kernel_rfl
theorem k7 : (Tryz.prog.stops == []) = true := by kernel_rfl
theorem k8 : (Rows.hostsFramesRow.knobs == []) = true := by kernel_rfl
theorem k9 : (Tryz.prog.stopKnobs == []) = true := by kernel_rfl
theorem k10 : (Rows.hostsFramesRow.inPlace == Tryz.prog.inPlace 4) = true := by kernel_rfl
theorem k11 : (Rows.hostsFramesRow.unfollowed == Tryz.prog.unfollowed 4) = true := by kernel_rfl
theorem k12 : (Rows.hostsFramesRow.recurses == Tryz.prog.recurses 4) = true := by kernel_rfl
theorem k13 : (Rows.hostsFramesRow.named == Tryz.prog.varsNamed 4) = true := by kernel_rfl
theorem k14 : (Rows.hostsFramesRow.maps == (Tryz.f4.params.toList ++ Rows.hostsFramesSpec.plain.varTypes Tryz.prog).any (Tryz.prog.mapsRec ·)) = true := by kernel_rfl
theorem k15 : (Rows.hostsFramesRow.ifaces == (Tryz.f4.params.toList ++ Rows.hostsFramesSpec.plain.varTypes Tryz.prog).any (Tryz.prog.ifacesRec ·)) = true := by kernel_rfl
theorem k16 : (Rows.hostsFramesRow.mapsOut == Tryz.prog.mapsAmong Tryz.f4.resultTypes.toList) = true := by kernel_rfl
theorem k17 : (Rows.hostsFramesRow.loops == (Tryz.f4.params.toList ++ Rows.hostsFramesSpec.plain.varTypes Tryz.prog).any (Tryz.prog.loopsFrom ·)) = true := by kernel_rfl
theorem k17b : (Rows.hostsFramesRow.wideKeys == (Tryz.f4.params.toList ++ Rows.hostsFramesSpec.plain.varTypes Tryz.prog ++ Tryz.f4.resultTypes.toList).any (Tryz.prog.wideKeysFrom ·)) = true := by kernel_rfl
theorem k18 : Rows.hostsFramesSpec.vars.all (Tryz.prog.varReadable ·) = true := by kernel_rfl
theorem k19 : Tryz.f4.resultTypes.all (fun t => Tryz.prog.readableRec t && decide (t < Tryz.prog.types.size)) = true := by kernel_rfl
theorem k20 : (Rows.hostsFramesRow.ifacesOut == Tryz.f4.resultTypes.toList.any (Tryz.prog.ifacesRec ·)) = true := by kernel_rfl
theorem k21 : (Rows.hostsFramesRow.loopsOut == Tryz.f4.resultTypes.toList.any (Tryz.prog.loopsFrom ·)) = true := by kernel_rfl
theorem k22 : (Rows.hostsFramesRow.plainKeys == Tryz.prog.plainKeys) = true := by kernel_rfl
theorem k23 : Rows.hostsFramesRow.shortTexts.isNone = true := by kernel_rfl
theorem k23b : Tryz.prog.stopsHeard = true := by kernel_rfl
theorem k24 : Tryz.prog.mayEnter = true := by kernel_rfl
theorem k24b : (Rows.hostsFramesRow.lifted == Tryz.prog.liftsFinal) = true := by kernel_rfl
theorem k24c : (Tryz.prog.make == some Rows.hostsFramesRow.make) = true := by kernel_rfl
theorem k25 : (Rows.hostsFramesRow.kinds == Go.Ab.rowKinds Tryz.prog Tryz.f4 Rows.hostsFramesRow) = true := by kernel_rfl
theorem k26 : (Rows.hostsFramesRow.pinned == Rows.hostsFramesRow.pinnedBy) = true := by kernel_rfl
theorem k27 : (Rows.hostsFramesRow.veiled == (Tryz.f4.params.toList ++ Rows.hostsFramesSpec.plain.varTypes Tryz.prog ++ Tryz.f4.resultTypes.toList).any (Tryz.prog.veiledRec ·)) = true := by kernel_rfl
theorem k28 : Rows.hostsFramesRow.veiledFits Tryz.prog Tryz.f4.params.toList (Tryz.f4.params.toList ++ Rows.hostsFramesSpec.plain.varTypes Tryz.prog ++ Tryz.f4.resultTypes.toList) = true := by kernel_rfl
theorem facts2 : joinedFacts Tryz.prog 4 Tryz.f4 Rows.hostsFramesSpec Rows.hostsFramesRow = true :=
  Go.Ab.joined_split k1 k2 k3 k4 k5 k6 k7 k8 k9 k10 k11 k12 k13 k14 k15 k16 k17 k17b k18 k19 k20 k21 k22 k23 k23b k24 k24b k24c k25 k26 k27 k28
theorem facts3 : Tryz.f4.isInstance Tryz.prog Rows.hostsFramesRow.origin Rows.hostsFramesRow.targs := of_decide_eq_true (by kernel_rfl)
theorem facts4 : Tryz.f4.isWrapper Tryz.prog Rows.hostsFramesRow.wrapper Rows.hostsFramesRow.mainSum := by unfold Func.isWrapper; first | (rw [if_pos (by decide +kernel)]; kernel_rfl) | (rw [if_neg (by decide +kernel)]; exact ⟨rfl, rfl⟩)
end Go.Proofs.YtbmneikfcbbmmaaGreat
