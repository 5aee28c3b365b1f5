/- SplitsErrors' row, lifted: the job is read out of the arguments. -/
import Derived.Test.YtjfpofhpcphedaaGreatDoorHM
import Derived.Test.YtjfpofhpcphedaaGreatDoorTie
import Derived.Test.YtjfpofhpcphedaaGreatDoorCards
import Derived.ProofKit
import Derived.OpenShut
import Derived.Deep.Slices
import Derived.LaidMore
import Derived.Lay
import Derived.SevenTiedAt
import Derived.Stop.Joined
set_option linter.unusedVariables false
set_option linter.unusedSimpArgs false
set_option linter.unusedSectionVars false
section
namespace Go.Proofs.YtjfpofhpcphedaaGreatDoor
open Go.ChangeShapes Go.WideShapes Go.ChangeAt Go.RowKit
theorem cells28 : Tryz.prog.cellsOf 28 = 11 := by kernel_rfl
theorem cells26 : Tryz.prog.cellsOf 26 = 7 := by kernel_rfl
theorem cells24 : Tryz.prog.cellsOf 24 = 1 := by kernel_rfl
theorem cells23 : Tryz.prog.cellsOf 23 = 1 := by kernel_rfl
theorem cells22 : Tryz.prog.cellsOf 22 = 1 := by kernel_rfl
theorem cells5 : Tryz.prog.cellsOf 5 = 1 := by kernel_rfl
theorem cells4 : Tryz.prog.cellsOf 4 = 1 := by kernel_rfl
theorem cells3 : Tryz.prog.cellsOf 3 = 1 := by kernel_rfl
theorem types28 : Tryz.prog.cellTypes Tryz.prog.depth 28 = some [5, 5, 4, 22, 5, 5, 23, 4, 4, 3, 24] := by kernel_rfl

theorem row_le {P : Program} {fits : TypeId → Bool} : ∀ {d : Nat} {e : TypeId} {count off n : Nat}, rowAt P fits d e count off n = true → off ≤ count * P.cellsOf e
  | 0, _, _, _, _, h => by cases h
  | d + 1, e, count, off, n, h => by
    unfold rowAt at h
    simp only at h
    split at h
    · cases h
    · next hs =>
      have hpos : 0 < P.cellsOf e := by omega
      have hdm := Nat.div_add_mod off (P.cellsOf e)
      have hmod := Nat.mod_lt off hpos
      simp only [Bool.or_eq_true, Bool.and_eq_true, beq_iff_eq, decide_eq_true_eq] at h
      rcases h with ⟨⟨h1, h2⟩, _⟩ | ⟨h1, _⟩
      · have : off / P.cellsOf e ≤ count := by omega
        have h3 : P.cellsOf e * (off / P.cellsOf e) ≤ P.cellsOf e * count := Nat.mul_le_mul_left _ this
        rw [Nat.mul_comm count]; omega
      · have h3 : P.cellsOf e * (off / P.cellsOf e + 1) ≤ P.cellsOf e * count := Nat.mul_le_mul_left _ h1
        rw [Nat.mul_add, Nat.mul_one] at h3
        rw [Nat.mul_comm count]; omega
theorem lies_le {P : Program} {e : TypeId} {count off n : Nat} {u : TypeId} {k : IntKind} (hu : P.underlying u = some (.int k)) : ∀ {d : Nat}, liesAt P d e count off u n = true → off ≤ count * P.cellsOf e
  | 0, h => by cases h
  | d + 1, h => by
    unfold liesAt at h
    rw [hu] at h
    simp only [Bool.or_false] at h
    exact row_le h
theorem has_block {W : World} {base : Nat} {a : Addr} {n : Nat} (h : W.has Tryz.prog .any base a 5 n) : a.spot = none ∧ ∃ arr t fz, W.heap[a.block]? = some (.cells arr t fz) ∧ a.off ≤ arr.size := by
  obtain ⟨_, hs, row, cells, hsh, hl⟩ := h
  refine ⟨hs, ?_⟩
  unfold World.shape? at hsh
  split at hsh
  · next c el fz hc =>
    cases hsh
    refine ⟨c, _, fz, hc, ?_⟩
    have h1 := lies_le Tryz.underlying5 hl
    exact Nat.le_trans h1 (Nat.div_mul_le_self _ _)
  · cases hsh
theorem take1 {α : Type} {l : List α} {n : Nat} {v : α} (h : (l.drop n).take 1 = [v]) : l[n]? = some v := by
  have : ((l.drop n).take 1)[0]? = some v := by rw [h]; rfl
  simpa using this
/-- a slice's bytes, as they lie -/
theorem bytes_of {W : World} {a : Addr} {len : Nat} {D : Nat → Int} {arr : Array Value} {t : TypeId} {fz : Nat × Nat} (hb : W.heap[a.block]? = some (.cells arr t fz)) (ho : a.off ≤ arr.size) (hs : a.spot = none)
    (h : ∀ i, i < len → W.cell? (a.add i) = some (.int .u8 (D i))) :
    ∃ pre rest, W.heap[a.block]? = some (.cells (pre ++ (List.range len).map (fun i => Value.int .u8 (D i)) ++ rest).toArray t fz) ∧ pre.length = a.off := by
  obtain ⟨ab, ao, asp⟩ := a
  have hs : asp = none := hs
  subst hs
  have cell : ∀ i, i < len → arr[ao + i]? = some (.int .u8 (D i)) := by
    intro i hi
    have h1 := h i hi
    rw [Go.Ab.add_addr] at h1
    unfold World.cell? at h1
    have hb : W.heap[ab]? = some (.cells arr t fz) := hb
    simp only [hb, Option.isSome_none, Bool.false_eq_true, if_false] at h1
    exact h1
  have ho : ao ≤ arr.size := ho
  refine ⟨arr.toList.take ao, arr.toList.drop (ao + len), ?_, by simp; omega⟩
  have hmid : (List.range len).map (fun i => Value.int .u8 (D i)) = (arr.toList.drop ao).take len := by
    apply List.ext_getElem?
    intro i
    by_cases hi : i < len
    · have c1 : arr.toList[ao + i]? = some (.int .u8 (D i)) := by rw [Array.getElem?_toList]; exact cell i hi
      rw [List.getElem?_take, if_pos hi, List.getElem?_drop, c1]
      simp [hi]
    · rw [List.getElem?_take, if_neg hi]
      simp [hi]
  rw [hmid]
  have e1 : arr.toList.take ao ++ (arr.toList.drop ao).take len ++ arr.toList.drop (ao + len) = arr.toList := by
    rw [List.append_assoc, ← List.drop_drop, List.take_append_drop, List.take_append_drop]
  rw [e1]
  simpa using hb
theorem wf_u8 {n : Int} (w : (Lit.int .u8 n).wf = true) : 0 ≤ n ∧ n ≤ 255 := by simpa [Lit.wf, IntKind.min, IntKind.max, IntKind.signed, IntKind.bits] using w
theorem row_of {P : Program} {W : World} {base : Nat} {t : TypeId} {fs : Array Field} {cs : Array Value} (ht : P.underlying t = some (.struct fs)) (h : Value.okWide P W .any base t (.agg cs)) : Row.okWide P W .any base t cs := by
  simp only [Value.okWide, ht] at h
  obtain ⟨cs', hcs', _, hr⟩ := h
  cases hcs'
  exact hr
theorem has_of {P : Program} {W : World} {base : Nat} {t e : TypeId} {a : Addr} {len cap : Nat} (ht : P.underlying t = some (.slice e)) (h : Cell.okWide P W .any base t (.slice (some a) len cap)) : W.has P .any base a e cap := by
  simp only [Cell.okWide, Cell.ok, ht] at h
  exact h.2.2
set_option maxRecDepth 100000 in
theorem job_of {H : Type} {enc : TypeId × Value → H} {W : World} {base : Nat} {v : Value} {d : DataW H} {p : List MemPlace} (hok : ∀ t, t = 28 → Value.okWide Tryz.prog W .any base t v) (h0 : DataW.Trod enc Tryz.prog W 0 (fun _ => true) true 28 v d p) :
    ∃ j : SE.Job, v = j.val ∧ SE.Bytes j ∧ (j.len ≤ 40 → SE.DataOk j W) := by
  obtain ⟨cs, rfl, hsz⟩ := okWide_struct Tryz.underlying28 (hok 28 rfl)
  obtain ⟨fuel, hf⟩ := h0
  obtain ⟨l⟩ := cs
  rw [cells28] at hsz
  have hlen : l.length = 11 := by simpa using hsz
  match l, hlen with
  | [a0, a1, a2, a3, a4, a5, a6, a7, a8, a9, a10], _ =>
    have hf : DataW.trod enc Tryz.prog W 0 (fun _ => true) true fuel 28 [a0, a1, a2, a3, a4, a5, a6, a7, a8, a9, a10] = some (d, p) := hf
    obtain ⟨xs, n, _, _, _, hxl, hel⟩ := DataW.trod_struct Tryz.underlying28 hf
    have hxl : xs.length = 5 := hxl
    have f0 := hel 0 ⟨ "Hub", 5, 0, false, "", "", 0⟩ rfl
    have f1 := hel 1 ⟨ "Port", 5, 1, false, "", "", 1⟩ rfl
    have f2 := hel 2 ⟨ "Low", 4, 2, false, "", "", 2⟩ rfl
    have f3 := hel 3 ⟨ "Kind", 22, 3, false, "", "", 3⟩ rfl
    have f4 := hel 4 ⟨ "Try", 26, 4, false, "", "", 8⟩ rfl
    rw [List.getElem?_eq_getElem (by omega)] at f0 f1 f2 f3 f4
    simp only [cells5, cells4, cells22, cells26, List.drop, List.take] at f0 f1 f2 f3 f4
    obtain ⟨hub, e0, _, w0⟩ := DataW.trod_int Tryz.underlying5 f0
    obtain ⟨port, e1, _, w1⟩ := DataW.trod_int Tryz.underlying5 f1
    obtain ⟨low, e2, _⟩ := DataW.trod_bool Tryz.underlying4 f2
    obtain ⟨kind, e3, _, w3⟩ := DataW.trod_int Tryz.underlying22 f3
    obtain ⟨ys, m, _, _, _, hyl, hey⟩ := DataW.trod_struct Tryz.underlying26 f4
    have hyl : ys.length = 7 := hyl
    have g0 := hey 0 ⟨ "Addr", 5, 0, false, "", "", 0⟩ rfl
    have g1 := hey 1 ⟨ "Endp", 5, 1, false, "", "", 1⟩ rfl
    have g2 := hey 2 ⟨ "What", 23, 2, false, "", "", 2⟩ rfl
    have g3 := hey 3 ⟨ "Toggle", 4, 3, false, "", "", 3⟩ rfl
    have g4 := hey 4 ⟨ "Iso", 4, 4, false, "", "", 4⟩ rfl
    have g5 := hey 5 ⟨ "Max", 3, 5, false, "", "", 8⟩ rfl
    have g6 := hey 6 ⟨ "Data", 24, 6, false, "", "", 16⟩ rfl
    rw [List.getElem?_eq_getElem (by omega)] at g0 g1 g2 g3 g4 g5 g6
    simp only [cells5, cells4, cells23, cells3, cells24, List.drop, List.take] at g0 g1 g2 g3 g4 g5 g6
    obtain ⟨addr, e4, _, w4⟩ := DataW.trod_int Tryz.underlying5 g0
    obtain ⟨endp, e5, _, w5⟩ := DataW.trod_int Tryz.underlying5 g1
    obtain ⟨what, e6, _, w6⟩ := DataW.trod_int Tryz.underlying23 g2
    obtain ⟨toggle, e7, _⟩ := DataW.trod_bool Tryz.underlying4 g3
    obtain ⟨iso, e8, _⟩ := DataW.trod_bool Tryz.underlying4 g4
    obtain ⟨max, e9, _, _⟩ := DataW.trod_int Tryz.underlying3 g5
    simp only [List.cons.injEq, and_true] at e0 e1 e2 e3 e4 e5 e6 e7 e8 e9
    subst e0 e1 e2 e3 e4 e5 e6 e7 e8 e9
    have fin : ∀ sa len cap, a10 = .slice sa len cap → (len ≤ 40 → SE.DataOk ⟨hub, port, low, kind, addr, endp, what, toggle, iso, max, sa, len, cap⟩ W) →
        ∃ j : SE.Job, Value.agg ⟨[.int .u8 hub, .int .u8 port, .bool low, .int .u8 kind, .int .u8 addr, .int .u8 endp, .int .u8 what, .bool toggle, .bool iso, .int .i64 max, a10]⟩ = j.val ∧ SE.Bytes j ∧ (j.len ≤ 40 → SE.DataOk j W) := by
      intro sa len cap ha hd
      subst ha
      exact ⟨⟨hub, port, low, kind, addr, endp, what, toggle, iso, max, sa, len, cap⟩, rfl, ⟨wf_u8 w0, wf_u8 w1, wf_u8 w3, wf_u8 w4, wf_u8 w5, wf_u8 w6⟩, hd⟩
    rcases open_ints Tryz.underlying24 Tryz.underlying5 cells5 g6 with ⟨hcs, _⟩ | ⟨a, len, cap, zs, hcs, _, hle, _, hz, _, hcell, _⟩
    · simp only [List.cons.injEq, and_true] at hcs
      exact fin none 0 0 hcs (fun _ => .inl ⟨rfl, rfl, rfl⟩)
    · simp only [List.cons.injEq, and_true] at hcs
      subst hcs
      refine fin (some a) len cap rfl fun _ => ?_
      have hrow : Row.okWide Tryz.prog W .any base 28 ⟨[.int .u8 hub, .int .u8 port, .bool low, .int .u8 kind, .int .u8 addr, .int .u8 endp, .int .u8 what, .bool toggle, .bool iso, .int .i64 max, .slice (some a) len cap]⟩ := by
        exact row_of Tryz.underlying28 (hok 28 rfl)
      obtain ⟨ts, hts, _, hall⟩ := hrow
      rw [types28] at hts
      cases hts
      obtain ⟨u, hu, hcell10⟩ := hall 10 (.slice (some a) len cap) rfl
      have hu24 : u = 24 := by
        have : ([5, 5, 4, 22, 5, 5, 23, 4, 4, 3, 24] : List Nat)[10 % 11]? = some u := hu
        simpa using this.symm
      subst hu24
      have hhas : W.has Tryz.prog .any base a 5 cap := by
        exact has_of Tryz.underlying24 hcell10
      obtain ⟨hs, arr, t, fz, hb, ho⟩ := has_block hhas
      have hzl : len ≤ zs.length := by rw [hz]; split <;> omega
      obtain ⟨pre, rest, hp1, hp2⟩ := bytes_of (len := len) (D := fun i => zs.getD i 0) hb ho hs (fun i hi => hcell i (by omega))
      obtain ⟨ab, ao, asp⟩ := a
      have hs : asp = none := hs
      subst hs
      exact .inr ⟨ab, ao, pre, rest, t, fz, fun i => zs.getD i 0, rfl, hle, hp1, hp2⟩
end Go.Proofs.YtjfpofhpcphedaaGreatDoor
end

section
namespace Go.Proofs.YtjfpofhpcphedaaGreatDoor
open Go.ChangeShapes Go.WideShapes Go.ChangeAt Go.RowKit
theorem own : ownKnob Tryz.prog.godebug = none := by kernel_rfl
theorem laidOut : laidOutB Tryz.prog = true := by kernel_rfl
def laidL : List (String × DataW Unit) := [("unicode/utf8.acceptRanges", Rows.laid_unicode_utf8_acceptRanges), ("unicode/utf8.first", Rows.laid_unicode_utf8_first)]

set_option maxRecDepth 100000 in
theorem errors_lifted (os : Os) (started : os.Started) (H : Type) (enc : TypeId × Value → H) :
    ReturnsInHanded {} Tryz.checked os 3 .any (fun w args => (Rows.splitsErrorsSpec.pre enc Tryz.prog Tryz.f3 Rows.splitsErrorsRow.domain false w args ∧ laidMetH Tryz.prog laidL w) ∧ sizedMet enc Tryz.prog Tryz.f3 (OpenSpec.ofChange Rows.splitsErrorsSpec) false w args)
      (Rows.splitsErrorsSpec.post enc Tryz.prog Tryz.f3 false true false false) := by
  refine returnsInHanded_of_change_and (C := Tryz.checked) (X := fun w _ => laidMetH Tryz.prog laidL w) (fun _ _ _ hh h => h.of_heap hh) own started (by kernel_rfl) Tryz.func3
    (ChangeSpec.witness_shaped (enc := enc) (C := Tryz.checked) (os := os) (X := fun w _ => laidMetH Tryz.prog laidL w) false (World.laidAll Tryz.prog os laidL)
      #[.agg #[.int .u8 0, .int .u8 0, .bool false, .int .u8 0, .int .u8 0, .int .u8 0, .int .u8 0, .bool false, .bool false, .int .i64 0, .slice none 0 0], .int .u8 0] 8 (World.laidAll_os _ _ _)
      (World.shaped_of_ZipB (by kernel_rfl) (by kernel_rfl)) (by kernel_rfl) (by kernel_rfl) (by kernel_rfl)
      (by rw [MakeChecks.laidMetH_plain _ _ _ (by kernel_rfl)]; exact laidMet_laidAll _ (by kernel_rfl) (by kernel_rfl))) ?_
  intro W base args ds gs before hval0 hW hc _ hL _
  have hval : ∀ (j : Nat) t v, Tryz.f3.params[j]? = some t → args[j]? = some v → Value.okWide Tryz.prog W .any base t v := hval0
  have hW' := hW
  obtain ⟨p, q, hA0, hV, rfl, _, _⟩ := hW
  have hA : DataW.TrodAll enc Tryz.prog W 0 (fun _ => true) true Tryz.f3.params.toList args.toList ds p := hA0
  rw [Tryz.params3] at hA hval
  obtain ⟨v0, v1, d0, d1, p0, p1, rfl, rfl, rfl, h0, h1⟩ := trodAll_two hA
  obtain ⟨rfl, rfl⟩ := trodVars_none hV
  obtain ⟨speed, rfl, rfl, rfl, w1⟩ := open_int Tryz.underlying5 (hval 1 5 v1 rfl rfl) h1
  have h0k := h0
  obtain ⟨j, rfl, hb, hD⟩ := job_of (base := base) (fun t ht => by subst ht; exact hval 0 28 v0 rfl rfl) h0
  clear hA0 hval0
  simp only [List.append_nil] at hW'
  have hlt : ∀ x ∈ p0, x.block < W.heap.size := fun x hx => by simpa using hW'.lt x hx
  have hargs : ∀ (W' : World), Below W.heap.size W W' → DataW.Trod enc Tryz.prog W' 0 (fun b => decide (b < W.heap.size)) true 28 j.val d0 p0 :=
    fun W' hn => Below.trod laidOut (by kernel_rfl) (of_decide_eq_true (by kernel_rfl)) h0k hn hlt
  have hx := wf_u8 w1
  refine (SE.main hb hx.1 hx.2 hD).mono fun e W' ⟨he, hbelow⟩ => ?_
  subst he
  exact ⟨_, rfl, ⟨_, _, _, [], _, [], hW', trodAll_mk1 (shut_bool Tryz.underlying4 _), trodAll_mk2 (hargs W' hbelow) (shut_int Tryz.underlying5 w1), rfl, hbelow.frame _, fun h => by cases h⟩⟩

end Go.Proofs.YtjfpofhpcphedaaGreatDoor
end
