/- The statement SplitsHostSaid, for every input. -/
import Derived.Test.YtjfpofhpcphedaaGreatHM
import Derived.Test.YtjfpofhpcphedaaGreatRows
import Derived.ProofKit
import Derived.OpenShut
import Derived.Deep.Slices
set_option linter.unusedVariables false
set_option linter.unusedSimpArgs false
set_option linter.unusedSectionVars false
section
namespace Go.Proofs.YtjfpofhpcphedaaGreat
open Go.ChangeShapes Go.WideShapes Go.ChangeAt Go.RowKit
open Go.Ab (add_addr)
set_option linter.unusedVariables false
theorem cells40 : Tryz.prog.cellsOf 40 = 2 := by kernel_rfl
theorem cells5 : Tryz.prog.cellsOf 5 = 1 := by kernel_rfl
theorem list_two {α : Type} {l : List α} {n : Nat} {x y : α} (hx : l[n]? = some x) (hy : l[n + 1]? = some y) : l = l.take n ++ [x, y] ++ l.drop (n + 2) ∧ (l.take n).length = n := by
  have h1 : n + 1 < l.length := (List.getElem?_eq_some_iff.1 hy).1
  have hx' : l[n] = x := (List.getElem?_eq_some_iff.1 hx).2
  have hy' : l[n + 1] = y := (List.getElem?_eq_some_iff.1 hy).2
  refine ⟨?_, by simp; omega⟩
  have e1 : l.drop n = x :: l.drop (n + 1) := by rw [List.drop_eq_getElem_cons (by omega), hx']
  have e2 : l.drop (n + 1) = y :: l.drop (n + 2) := by rw [List.drop_eq_getElem_cons (by omega), hy']
  calc l = l.take n ++ l.drop n := (List.take_append_drop n l).symm
    _ = l.take n ++ [x, y] ++ l.drop (n + 2) := by rw [e1, e2]; simp
theorem cell_row {W : World} {a : Addr} {v : Value} (h : W.cell? a = some v) : ∃ arr t fz, W.heap[a.block]? = some (.cells arr t fz) ∧ a.spot = none ∧ arr[a.off]? = some v := by
  unfold World.cell? at h
  split at h
  · next c t fz hc =>
    cases hs : a.spot with
    | some _ => rw [hs] at h; cases h
    | none => rw [hs] at h; exact ⟨c, t, fz, hc, rfl, h⟩
  · cases h
theorem data_of {H : Type} {enc : TypeId × Value → H} {W : World} {fuel : Nat} {sa : Option Addr} {len cap : Nat} {x : DataW H × List MemPlace} {spare : Nat → Bool} {held : Bool}
    (hf : DataW.trod enc Tryz.prog W 0 spare held fuel 22 [.slice sa len cap] = some x) (h40 : len ≤ 40) : ∃ D : SH.Data, D.n = len ∧ D.sv = (sa, cap) ∧ SH.DataOk D W := by
  rcases Go.Deep.open_slice Tryz.underlying22 hf with ⟨hcs, _⟩ | ⟨a, len', cap', m, n, D, Pl, hcs, _, hl, _, hm, _, hel⟩
  · simp only [List.cons.injEq, Value.slice.injEq, and_true] at hcs
    obtain ⟨rfl, rfl, rfl⟩ := hcs
    exact ⟨⟨0, fun _ => 0, fun _ => 0, (none, 0), .cells #[] 0 (0, 0)⟩, rfl, rfl, by simp, fun i hi => absurd hi (Nat.not_lt_zero _)⟩
  · simp only [List.cons.injEq, Value.slice.injEq, and_true] at hcs
    obtain ⟨rfl, rfl, rfl⟩ := hcs
    have hle : len ≤ m := by rw [hm]; split <;> omega
    have each : ∀ i, ∃ xy : Int × Int, i < len → 0 ≤ xy.2 ∧ xy.2 ≤ 255 ∧ W.cell? (a.add (i * 2)) = some (.int .u8 xy.1) ∧ W.cell? ((a.add (i * 2)).add 1) = some (.int .u8 xy.2) := by
      intro i
      by_cases hi : i < len
      · obtain ⟨cs', hc, htr⟩ := hel i (by omega)
        rw [cells40] at hc
        obtain ⟨_, hlen, hcell⟩ := World.cells?_some hc
        obtain ⟨xs, k, _, _, hlen2, hxs, hpart⟩ := DataW.trod_array Tryz.underlying40 htr
        have get : ∀ j, j < 2 → ∃ z, cs'[j]? = some (.int .u8 z) ∧ (Lit.int .u8 z).wf = true := by
          intro j hj
          have h1 := hpart j hj
          rw [cells5, Nat.mul_one, List.getElem?_eq_getElem (by omega)] at h1
          obtain ⟨z, hz, _, hw⟩ := DataW.trod_int Tryz.underlying5 h1
          refine ⟨z, ?_, hw⟩
          have : (cs'.drop j)[0]? = some (.int .u8 z) := by
            have h2 : ((cs'.drop j).take 1)[0]? = some (.int .u8 z) := by rw [hz]; rfl
            simpa using h2
          simpa using this
        obtain ⟨z0, g0, w0⟩ := get 0 (by omega)
        obtain ⟨z1, g1, w1⟩ := get 1 (by omega)
        refine ⟨(z0, z1), fun _ => ?_⟩
        have hx : 0 ≤ z1 ∧ z1 ≤ 255 := by simpa [Lit.wf, IntKind.min, IntKind.max, IntKind.signed, IntKind.bits] using w1
        have c0 := hcell 0 (by omega)
        have c1 := hcell 1 (by omega)
        rw [g0] at c0
        rw [g1] at c1
        exact ⟨hx.1, hx.2, c0, c1⟩
      · exact ⟨(0, 0), fun h => absurd h hi⟩
    obtain ⟨f, hf⟩ := Classical.axiomOfChoice each
    refine ⟨⟨len, fun i => (f i).1, fun i => (f i).2, (some a, cap), (W.heap[a.block]?).getD (.cells #[] 0 (0, 0))⟩, rfl, rfl, h40, fun i hi => ?_⟩
    have hi : i < len := hi
    obtain ⟨ab, ao, asp⟩ := a
    have hs : asp = none := by
      obtain ⟨_, _, c0, _⟩ := hf 0 (by omega)
      obtain ⟨_, _, _, _, hs, _⟩ := cell_row c0
      simpa [Addr.add] using hs
    subst hs
    obtain ⟨b0, b1, c0, c1⟩ := hf i hi
    rw [add_addr] at c0 c1
    rw [add_addr] at c1
    obtain ⟨arr, t, fz, hh, _, h0⟩ := cell_row c0
    obtain ⟨arr', t', fz', hh', _, h1⟩ := cell_row c1
    have hh : W.heap[ab]? = some (.cells arr t fz) := hh
    have hh' : W.heap[ab]? = some (.cells arr' t' fz') := hh'
    rw [hh] at hh'
    simp only [Option.some.injEq, Obj.cells.injEq] at hh'
    obtain ⟨rfl, rfl, rfl⟩ := hh'
    have e0 : arr.toList[ao + i * 2]? = some (.int .u8 (f i).1) := by simpa using h0
    have e1 : arr.toList[ao + i * 2 + 1]? = some (.int .u8 (f i).2) := by simpa using h1
    obtain ⟨g1, g2⟩ := list_two e0 e1
    have g3 : W.heap[ab]? = some (.cells (arr.toList.take (ao + i * 2) ++ [Value.int .u8 (f i).1, Value.int .u8 (f i).2] ++ arr.toList.drop (ao + i * 2 + 2)).toArray t fz) := by
      rw [← g1]
      simpa using hh
    exact ⟨b0, b1, ab, ao, arr.toList.take (ao + i * 2), arr.toList.drop (ao + i * 2 + 2), t, fz, rfl, g3, by rw [g2, Nat.mul_comm], by rw [hh]; rfl⟩
end Go.Proofs.YtjfpofhpcphedaaGreat
end

section
namespace Go.Proofs.YtjfpofhpcphedaaGreat
open Go.ChangeShapes Go.WideShapes Go.ChangeAt Go.RowKit
set_option linter.unusedVariables false

theorem own : ownKnob Tryz.prog.godebug = none := by kernel_rfl
theorem laidOut : laidOutB Tryz.prog = true := by kernel_rfl

set_option maxRecDepth 100000 in
theorem host_lifted (os : Os) (started : os.Started) (H : Type) (enc : TypeId × Value → H) :
    ReturnsInHanded {} Tryz.checked os 3 .any (Rows.splitsHostSpec.pre6 enc Tryz.prog Tryz.f3 Rows.splitsHostRow.domain false) (Rows.splitsHostSpec.post enc Tryz.prog Tryz.f3 false true false false) := by
  refine returnsInHanded_of_change (C := Tryz.checked) own started (by kernel_rfl) Tryz.func3
    (ChangeSpec.witness6 (enc := enc) (C := Tryz.checked) false ⟨#[], #[.int .u8 0, .bool false, .slice none 0 0], []⟩ 8 (by kernel_rfl) (by kernel_rfl) (by kernel_rfl) (by kernel_rfl)) ?_
  intro W base args ds gs before hval0 hW hcnd _
  have hval : ∀ (j : Nat) t v, Tryz.f3.params[j]? = some t → args[j]? = some v → Value.okWide Tryz.prog W .any base t v := hval0
  have hW' := hW
  obtain ⟨p, q, hA0, hV, rfl, hfz, hnd⟩ := hW
  have hA : DataW.TrodAll enc Tryz.prog W 0 (fun _ => true) true Tryz.f3.params.toList args.toList ds p := hA0
  rw [Tryz.params3] at hA hval
  obtain ⟨v0, vs0, d0, ds0, p0, q0, hargs0, rfl, rfl, h0, r0⟩ := trodAll_cons hA
  obtain ⟨v1, vs1, d1, ds1, p1, q1, rfl, rfl, rfl, h1, r1⟩ := trodAll_cons r0
  obtain ⟨v2, vs2, d2, ds2, p2, q2, rfl, rfl, rfl, h2, r2⟩ := trodAll_cons r1
  obtain ⟨rfl, rfl, rfl⟩ := trodAll_nil r2
  obtain rfl : args = #[v0, v1, v2] := by cases args; simp_all
  obtain ⟨rfl, rfl⟩ := trodVars_none hV
  obtain ⟨a0, rfl, rfl, rfl, w0⟩ := open_int Tryz.underlying5 (hval 0 5 v0 rfl rfl) h0
  obtain ⟨inn, rfl, rfl, rfl⟩ := open_bool Tryz.underlying4 (hval 1 4 v1 rfl rfl) h1
  have h2k := h2
  obtain ⟨fuel, hf⟩ := h2
  obtain ⟨sa, len, cap, rfl⟩ := okWide_slice Tryz.underlying22 (hval 2 22 v2 rfl rfl)
  clear hA0 hval0
  simp only [List.append_nil, List.nil_append] at hW'
  have hlt : ∀ x ∈ p2, x.block < W.heap.size := fun x hx => by simpa using hW'.lt x hx
  have hargs : ∀ (W' : World), Below W.heap.size W W' → DataW.Trod enc Tryz.prog W' 0 (fun b => decide (b < W.heap.size)) true 22 (.slice sa len cap) d2 p2 :=
    fun W' hn => Below.trod laidOut (by kernel_rfl) (of_decide_eq_true (by kernel_rfl)) h2k hn hlt
  have hx : 0 ≤ a0 ∧ a0 ≤ 255 := by simpa [Lit.wf, IntKind.min, IntKind.max, IntKind.signed, IntKind.bits] using w0
  have hD : len ≤ 40 → ∃ D : SH.Data, D.n = len ∧ D.sv = (sa, cap) ∧ SH.DataOk D W := fun h => data_of hf h
  refine (SH.main hx.1 hx.2 inn len (sa, cap) hD).mono fun e W' ⟨he, hb⟩ => ?_
  subst he
  exact ⟨_, rfl, ⟨_, _, _, [], _, [], hW', trodAll_cons_mk (shut_bool Tryz.underlying4 _) trodAll_mk0, trodAll_cons_mk (shut_int Tryz.underlying5 w0) (trodAll_cons_mk (shut_bool Tryz.underlying4 _) (trodAll_cons_mk (hargs W' hb) trodAll_mk0)), rfl, hb.frame _, fun h => by cases h⟩⟩

theorem host_holds : Rows.SplitsHostSaid :=
  OpenClaim.holds_of_wide 3 Tryz.f3 rfl rfl rfl rfl rfl rfl rfl ⟨rfl, rfl, rfl, rfl, rfl⟩ rfl rfl rfl rfl rfl (by kernel_rfl) Tryz.func3 (by kernel_rfl)
    (of_decide_eq_true (by kernel_rfl)) (by unfold Func.isWrapper; first | (rw [if_pos (by decide +kernel)]; kernel_rfl) | (rw [if_neg (by decide +kernel)]; exact ⟨rfl, rfl⟩))
    (fun os started H enc _ => host_lifted os started H enc)
end Go.Proofs.YtjfpofhpcphedaaGreat
end
