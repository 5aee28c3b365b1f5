/- SplitsHost's contract: for every kind, direction and list of pairs of bytes the call returns true, and the memory that was there stays as it was. -/
import Derived.Test.YtjfpofhpcphedaaGreatHA
import Derived.Test.YtjfpofhpcphedaaGreatHB
import Derived.Test.YtjfpofhpcphedaaGreatHC
import Derived.Test.YtjfpofhpcphedaaGreatHD
import Derived.Test.YtjfpofhpcphedaaGreatHL
set_option linter.unusedVariables false
set_option linter.unusedSimpArgs false
set_option linter.unusedSectionVars false
open Go Go.Ab Go.Proofs
open Go.RowKit (Below)
namespace Go.Proofs.YtjfpofhpcphedaaGreat.SH
theorem hm : Tryz.prog.follows .mixedOrders = true := by kernel_rfl
theorem ctx_ok : CtxOk Tryz.prog ctx := mkCtx_ok (fun _ _ h => by cases h)
/-! ### lives() -/
noncomputable def i4 : FnInfo := match fnInfo Tryz.prog masks 4 with | some i => i | none => ⟨0, 0, .skip, []⟩
theorem some4 : (fnInfo Tryz.prog masks 4).isSome = true := by kernel_rfl
theorem eq4 : fnInfo Tryz.prog masks 4 = some i4 := by
  have h := some4
  unfold i4
  cases hh : fnInfo Tryz.prog masks 4 with
  | none => rw [hh] at h; cases h
  | some i => rfl
theorem enter4 (xs : Array Value) (w' : World) : (callFunc 4 xs).run Tryz.prog w' = .ok (.enter 4 xs) w' := by
  obtain ⟨fn, c, hi⟩ := fnInfo_ok eq4
  exact hi.enter xs
def ρz : Val := ⟨fun _ => 0, fun _ => false, fun _ => (none, 0), fun _ => .cells #[] 0 (0, 0)⟩
theorem calls4 (w : World) : Calls Tryz.prog 4 #[] w fun e w' => e = .returned (.bool true) ∧ w.heap.size ≤ w'.heap.size ∧ (∀ i, i < w.heap.size → w'.heap[i]? = w.heap[i]?) ∧ w'.os = w.os ∧ w'.output = w.output ∧ w'.tape = w.tape := by
  have := calls_closed hm ctx_ok 1000000 (us := []) (u := .bool true) ρz lives (by simp [cvs]) (by simp [cv]) w
  exact this
theorem sum4 : ∀ β : Type, SumOk Tryz.prog 4 (sumLives β) := by
  intro β
  have h := sumOk_of (P := Tryz.prog) (f := 4) (v := .bool true) (u := .bool true) enter4 (fun ρ E => by simp [cv]) calls4 β
  exact h
theorem ctx3_ok : CtxOk Tryz.prog ctx3 := mkCtx_ok (fun f g h => by
  cases hb : Nat.beq f 4 with
  | false => rw [hb] at h; cases h
  | true =>
    rw [hb] at h
    cases h
    have : f = 4 := by simpa using hb
    subst this
    exact sum4)
theorem hX : ExOk Tryz.prog X3 := exec_ok ctx3_ok (drawSound hm) 1000000 Leaf
/-! ### the function -/
noncomputable def i3 : FnInfo := match fnInfo Tryz.prog masks 3 with | some i => i | none => ⟨0, 0, .skip, []⟩
theorem some3 : (fnInfo Tryz.prog masks 3).isSome = true := by kernel_rfl
theorem eq3 : fnInfo Tryz.prog masks 3 = some i3 := by
  have h := some3
  unfold i3
  cases hh : fnInfo Tryz.prog masks 3 with
  | none => rw [hh] at h; cases h
  | some i => rfl
theorem nt3 : i3.ntmps = 258 := by kernel_rfl
theorem mk3 : i3.mask = mask3 := by kernel_rfl
theorem fin3 : finish i3 tplR.fr (tplR.st none []) (fun v _ => .ok v) = .ok (.bool true) := by kernel_rfl
def isBL : List Code → Bool | .block 0 (.loop _) :: _ => true | _ => false
theorem isBL_eq {l : List Code} (h : isBL l = true) : l = .block 0 (.loop (loopOf l)) :: dropC 1 l := by
  unfold isBL at h
  split at h
  · next c r => cases r <;> rfl
  · cases h
theorem split_at : ∀ (n : Nat) (l : List Code), l = takeC n l ++ dropC n l
  | 0, l => rfl
  | n + 1, [] => rfl
  | n + 1, c :: l => by
    show c :: l = c :: (takeC n l ++ dropC n l)
    rw [← split_at n l]
theorem dropC_succ : ∀ (n : Nat) (l : List Code), dropC 1 (dropC n l) = dropC (n + 1) l
  | 0, l => rfl
  | n + 1, [] => by cases n <;> rfl
  | n + 1, c :: l => by
    show dropC 1 (dropC n l) = dropC (n + 1) l
    exact dropC_succ n l
theorem bl14 : isBL (dropC 14 sp3) = true := by kernel_rfl
theorem sp3_eq : sp3 = pre3 ++ (.block 0 (.loop body3) :: suf3) := by
  have h1 := split_at 14 sp3
  have h2 := isBL_eq bl14
  rw [dropC_succ] at h2
  unfold pre3 suf3 body3
  rw [← h2]
  exact h1
theorem code_eq {fn : Func} {c : Code} (hi : InfoOk Tryz.prog 3 i3 fn c) : c = code3 := by
  unfold code3
  cases hf : funcA Tryz.prog 3 with
  | none =>
    have h := some3
    unfold fnInfo at h
    rw [hf] at h; cases h
  | some fn' =>
    have h1 := funcA_eq hf
    rw [hi.func] at h1
    cases h1
    simp [hi.body]

/-! ### data -/
structure Data where
  n : Nat
  X : Nat → Int
  Y : Nat → Int
  sv : Option Addr × Nat
  obj : Obj
structure DataOk (D : Data) (w0 : World) : Prop where
  n40 : D.n ≤ 40
  row : ∀ i, i < D.n → 0 ≤ D.Y i ∧ D.Y i ≤ 255 ∧ ∃ c o pre rest t fz, D.sv.1 = some ⟨c, o, none⟩ ∧ w0.heap[c]? = some (.cells (pre ++ [.int .u8 (D.X i), .int .u8 (D.Y i)] ++ rest).toArray t fz) ∧ pre.length = o + 2 * i ∧ w0.heap[c]? = some D.obj
structure Inv (D : Data) (ρ : Val) : Prop where
  sv : ρ.sv 0 = D.sv
  obj : ρ.obj 0 = D.obj
  n : ρ.iv 0 = D.n
  i0 : 0 ≤ ρ.iv 1
  i1 : ρ.iv 1 ≤ D.n
  t0 : 0 ≤ ρ.iv 2
  t1 : ρ.iv 2 ≤ 3 * ρ.iv 1
  a0 : 0 ≤ ρ.iv 3
  a1 : ρ.iv 3 ≤ ρ.iv 2
  x : ρ.iv 20 = D.X (ρ.iv 1).toNat
  y : ρ.iv 21 = D.Y (ρ.iv 1).toNat
def μ (D : Data) (ρ : Val) : Nat := D.n - (ρ.iv 1).toNat
theorem den_add {ρ : Val} {a : IE} {n : Int} (h : -10000000 ≤ a.den ρ + n ∧ a.den ρ + n ≤ 10000000) : (IE.bin .add .i64 a (.c n)).den ρ = a.den ρ + n := by
  show wrapF .i64 (a.den ρ + n) = _
  exact wrap_small h
theorem tick_den {ρ : Val} (h0 : 0 ≤ ρ.iv 2) (h1 : ρ.iv 2 ≤ 1000) (h2 : 0 ≤ ρ.iv 21) (h3 : ρ.iv 21 ≤ 255) : tick.den ρ = ρ.iv 2 + ρ.iv 21 % 4 := by
  have e1 : IntKind.wrap .i64 (ρ.iv 21) = ρ.iv 21 := by
    rw [← wrapF_eq]; exact wrap_small (by omega)
  have e2 : (IE.bin .rem .i64 (.cv .i64 (.v 21)) (.c 4)).den ρ = ρ.iv 21 % 4 := by
    show binDen .rem .i64 (IntKind.wrap .i64 (ρ.iv 21)) 4 = _
    rw [e1]
    show (ρ.iv 21).tmod 4 = _
    exact Int.tmod_eq_emod_of_nonneg h2
  show wrapF .i64 (ρ.iv 2 + (IE.bin .rem .i64 (.cv .i64 (.v 21)) (.c 4)).den ρ) = _
  rw [e2]
  exact wrap_small (by omega)
theorem isI_eq {x : Nat} {e : IE} {hs : List Hole} (h : isI x e hs = true) : lookI x hs = some e := ite_true h
theorem noI_eq {x : Nat} {hs : List Hole} (h : noI x hs = true) : lookI x hs = none := ite_true h
theorem lookI_none {x : Nat} : ∀ {hs : List Hole}, lookI x hs = none → ∀ e, Hole.i x e ∉ hs
  | [], _, e, hm => by cases hm
  | y :: l, h, e, hm => by
    cases y with
    | i z e' =>
      simp only [lookI] at h
      by_cases hz : z = x
      · rw [if_pos hz] at h; cases h
      · rw [if_neg hz] at h
        rcases List.mem_cons.1 hm with hh | hm
        · cases hh; exact hz rfl
        · exact lookI_none h e hm
    | b z e' =>
      simp only [lookI] at h
      rcases List.mem_cons.1 hm with hh | hm
      · cases hh
      · exact lookI_none h e hm
/-- the values at the next round -/
noncomputable def next (D : Data) (ρ : Val) (hs : List Hole) : Val :=
  { subst ρ hs with iv := fun x => if x = 20 then D.X ((ρ.iv 1).toNat + 1) else if x = 21 then D.Y ((ρ.iv 1).toNat + 1) else (subst ρ hs).iv x }
theorem asm_ok {D : Data} {ρ : Val} (hI : Inv D ρ) (hn : D.n ≤ 40) (hlt : ρ.iv 1 < D.n) (hy0 : 0 ≤ D.Y (ρ.iv 1).toNat) (hy1 : D.Y (ρ.iv 1).toNat ≤ 255) : ∃ v, v < 3 ∧ AsmOk ρ (asmB2 v) := by
  have hI0 := hI
  obtain ⟨_, _, n, i0, i1, t0, t1, a0, a1, _, y⟩ := hI
  have ht := tick_den (ρ := ρ) t0 (by omega) (by omega) (by omega)
  have e3 : (IE.v 3).den ρ = ρ.iv 3 := rfl
  have c2 := den_add (ρ := ρ) (a := .v 3) (n := 2) (by rw [e3]; omega)
  have c4 := den_add (ρ := ρ) (a := .v 3) (n := 4) (by rw [e3]; omega)
  have hsub : (IE.bin .sub .i64 (.c (-1)) tick).den ρ = -1 - tick.den ρ := by
    show wrapF .i64 (-1 - tick.den ρ) = _
    exact wrap_small (by omega)
  have hbase : AsmOk ρ asmB := by
    intro c b hm
    simp only [asmB, List.mem_cons, List.mem_nil_iff, or_false, Prod.mk.injEq] at hm
    have hz : (IE.c 0).den ρ = 0 := rfl
    have hmil : (IE.c 1000000).den ρ = 1000000 := rfl
    have hv0 : (IE.v 0).den ρ = ρ.iv 0 := rfl
    have hv1 : (IE.v 1).den ρ = ρ.iv 1 := rfl
    rcases hm with ⟨rfl, rfl⟩ | ⟨rfl, rfl⟩ | ⟨rfl, rfl⟩ | ⟨rfl, rfl⟩ | ⟨rfl, rfl⟩ | ⟨rfl, rfl⟩ | ⟨rfl, rfl⟩ <;> rw [leq_den]
    · rw [hv0, hv1]; exact decide_eq_false (by omega)
    · rw [hz, ht]; exact decide_eq_true (by omega)
    · rw [hmil, ht]; exact decide_eq_true (by omega)
    · rw [hz, e3]; exact decide_eq_true (by omega)
    · rw [hmil, e3]; exact decide_eq_true (by omega)
    · rw [ht, e3]; exact decide_eq_true (by omega)
    · rw [hz, hsub, ht]; exact decide_eq_false (by omega)
  have add : ∀ l : List (BE × Bool), AsmOk ρ l → AsmOk ρ (l ++ asmB) := by
    intro l hl c b hm
    rcases List.mem_append.1 hm with h | h
    · exact hl c b h
    · exact hbase c b h
  by_cases h2 : tick.den ρ < 2
  · refine ⟨0, by omega, add _ ?_⟩
    intro c b hm
    simp only [List.mem_cons, List.mem_nil_iff, or_false, Prod.mk.injEq] at hm
    rcases hm with ⟨rfl, rfl⟩ | ⟨rfl, rfl⟩ | ⟨rfl, rfl⟩
    · unfold ge2; rw [leq_den]; exact decide_eq_false (by show ¬ (2 : Int) ≤ _; omega)
    · unfold at2; rw [leq_den, c2, e3]; exact decide_eq_false (by omega)
    · unfold at4; rw [leq_den, c4, e3]; exact decide_eq_false (by omega)
  · by_cases h4 : tick.den ρ < 4
    · refine ⟨1, by omega, add _ ?_⟩
      intro c b hm
      simp only [List.mem_cons, List.mem_nil_iff, or_false, Prod.mk.injEq] at hm
      rcases hm with ⟨rfl, rfl⟩ | ⟨rfl, rfl⟩ | ⟨rfl, rfl⟩
      · unfold ge2; rw [leq_den]; exact decide_eq_true (by show (2 : Int) ≤ _; omega)
      · unfold ge4; rw [leq_den]; exact decide_eq_false (by show ¬ (4 : Int) ≤ _; omega)
      · unfold at4; rw [leq_den, c4, e3]; exact decide_eq_false (by omega)
    · refine ⟨2, by omega, add _ ?_⟩
      intro c b hm
      simp only [List.mem_cons, List.mem_nil_iff, or_false, Prod.mk.injEq] at hm
      obtain ⟨rfl, rfl⟩ := hm
      unfold ge4; rw [leq_den]; exact decide_eq_true (by show (4 : Int) ≤ _; omega)
theorem win_ok {D : Data} {w0 : World} {ρ : Val} (hD : DataOk D w0) (hI : Inv D ρ) (hlt : ρ.iv 1 < D.n) : WinOk ρ win w0 := by
  obtain ⟨_, _, c, o, pre, rest, t, fz, h1, h2, h3, h4⟩ := hD.row (ρ.iv 1).toNat (by have := hI.i0; omega)
  refine ⟨c, o, [.int .u8 (D.X (ρ.iv 1).toNat), .int .u8 (D.Y (ρ.iv 1).toNat)], pre, rest, t, fz, ?_, hI.i0, ?_, ?_, h2, h3, ?_⟩
  · show (ρ.sv 0).1 = _
    rw [hI.sv]; exact h1
  · show ρ.iv 1 < ρ.iv 0
    rw [hI.n]; exact hlt
  · show cvs ρ E0w [.sint .u8 (.v 20), .sint .u8 (.v 21)] = _
    simp [cvs, cv, IE.den, hI.x, hI.y]
  · show ρ.obj 0 = _
    rw [hI.obj]
    rw [h2] at h4
    exact (Option.some.inj h4).symm
theorem next_holes {D : Data} {ρ : Val} {hs : List Hole} (hok : hs.all (holeOk hs) = true) (h20 : lookI 20 hs = none) (h21 : lookI 21 hs = none) : ∀ y ∈ hs, HoleIs ρ (next D ρ hs) y := by
  intro y hy
  have h := holes_ok (ρ := ρ) hok y hy
  cases y with
  | i x e =>
    have n1 : x ≠ 20 := fun hh => lookI_none h20 e (hh ▸ hy)
    have n2 : x ≠ 21 := fun hh => lookI_none h21 e (hh ▸ hy)
    show (next D ρ hs).iv x = _
    simp only [next, if_neg n1, if_neg n2]
    exact h
  | b x e => exact h
theorem idHole_ok {ρ : Val} {y : Hole} (h : idHole y = true) : HoleIs ρ ρ y := by
  cases y with
  | i x e => cases e <;> simp [idHole] at h; subst h; rfl
  | b x e => cases e <;> simp [idHole] at h; subst h; rfl
/-- one round -/
theorem round {k : Int} {inn : Bool} (hall : (tpls k inn).all (chkT k inn) = true) {D : Data} {w0 : World} (hD : DataOk D w0) {ρ : Val} {T : Tpl} {a : Act} {w : World} (hT : T ∈ tpls k inn) (hI : Inv D ρ) (hat : AtT 258 mask3 w0 T ρ a w) :
    body3.wp Tryz.prog (fun e a' w' => (e = .normal ∧ ∃ T' ρ', T' ∈ tpls k inn ∧ Inv D ρ' ∧ μ D ρ' < μ D ρ ∧ AtT 258 mask3 w0 T' ρ' a' w') ∨ (e = .exit 0 ∧ ∃ T' ρ', T' ∈ tpls k inn ∧ Inv D ρ' ∧ AtT 258 mask3 w0 T' ρ' a' w')) a w := by
  have hc := List.all_eq_true.1 hall T hT
  simp only [chkT, Bool.and_eq_true] at hc
  obtain ⟨⟨⟨⟨⟨⟨hb0, hb1⟩, hb2⟩, hE⟩, hS⟩, hw1⟩, hw2⟩ := hc
  by_cases hlt : ρ.iv 1 < D.n
  · obtain ⟨hy0, hy1, _⟩ := hD.row (ρ.iv 1).toNat (by have := hI.i0; omega)
    obtain ⟨v, hv, hasm⟩ := asm_ok hI hD.n40 hlt hy0 hy1
    have hrun : (runB k inn v T).all chkB = true := by
      rcases v with _ | _ | _ | v
      · exact hb0
      · exact hb1
      · exact hb2
      · omega
    refine wp_mono (wp_one (run_tpl_all hX (by omega) hat (fun W' hW => by cases hW; exact win_ok hD hI hlt) hw1 hasm hrun)) fun e a' w' h => ?_
    obtain ⟨leaf, hp, he, hok, T', hT', hat'⟩ := h
    simp only [chkB, Bool.and_eq_true] at hp
    obtain ⟨⟨⟨⟨⟨⟨p1, p2⟩, p3⟩, p4⟩, p5⟩, p6⟩, p7⟩ := hp
    have n20 := noI_eq p6
    have n21 := noI_eq p7
    refine .inl ⟨?_, T', next D ρ leaf.hs, List.mem_of_getElem? hT', ?_, ?_, hat' _ (next_holes hok n20 n21) rfl⟩
    · rw [he]
      cases hh : leaf.how <;> rw [hh] at p1 <;> first | rfl | cases p1
    · have v0 : (next D ρ leaf.hs).iv 0 = ρ.iv 0 := by simp [next, subst, isI_eq p2, IE.den]
      have v1 : (next D ρ leaf.hs).iv 1 = ρ.iv 1 + 1 := by
        simp only [next, subst, isI_eq p3]
        have := hI.i0; have := hI.i1; have := hD.n40
        exact den_add (a := .v 1) (by show -10000000 ≤ ρ.iv 1 + 1 ∧ _; constructor; omega; show ρ.iv 1 + 1 ≤ _; omega)
      have hy0' : 0 ≤ ρ.iv 21 := by rw [hI.y]; exact hy0
      have hy1' : ρ.iv 21 ≤ 255 := by rw [hI.y]; exact hy1
      have ht := tick_den (ρ := ρ) hI.t0 (by have := hI.t1; have := hI.i1; have := hD.n40; omega) hy0' hy1'
      have v2 : (next D ρ leaf.hs).iv 2 = ρ.iv 2 + ρ.iv 21 % 4 := by simp only [next, subst, isI_eq p4]; exact ht
      have v3 : (next D ρ leaf.hs).iv 3 = ρ.iv 3 ∨ (next D ρ leaf.hs).iv 3 = ρ.iv 2 + ρ.iv 21 % 4 ∨ (next D ρ leaf.hs).iv 3 = 0 := by
        simp only [Bool.or_eq_true] at p5
        rcases p5 with ((p5 | p5) | p5) | p5
        · left; simp [next, subst, noI_eq p5]
        · left; simp [next, subst, isI_eq p5, IE.den]
        · right; left; simp only [next, subst, isI_eq p5]; exact ht
        · right; right; simp [next, subst, isI_eq p5, IE.den]
      have hi := hI.i0
      have htn : ((next D ρ leaf.hs).iv 1).toNat = (ρ.iv 1).toNat + 1 := by rw [v1]; omega
      refine ⟨hI.sv, hI.obj, by rw [v0]; exact hI.n, by rw [v1]; omega, by rw [v1]; omega, by rw [v2]; have := hI.t0; omega, by rw [v1, v2]; have := hI.t1; omega, ?_, ?_, ?_, ?_⟩
      · have := hI.t0; have := hI.a0
        rcases v3 with v3 | v3 | v3 <;> rw [v3] <;> omega
      · rw [v2]
        have := hI.t0; have := hI.a1
        rcases v3 with v3 | v3 | v3 <;> rw [v3] <;> omega
      · rw [htn]; simp [next]
      · rw [htn]; simp [next]
    · have v1 : (next D ρ leaf.hs).iv 1 = ρ.iv 1 + 1 := by
        simp only [next, subst, isI_eq p3]
        have := hI.i0; have := hI.i1; have := hD.n40
        exact den_add (a := .v 1) (by show -10000000 ≤ ρ.iv 1 + 1 ∧ _; constructor; omega; show ρ.iv 1 + 1 ≤ _; omega)
      unfold μ
      rw [v1]
      have := hI.i0
      omega
  · have hasm : AsmOk ρ asmE := by
      intro c b hm
      simp only [asmE, List.mem_cons, List.mem_nil_iff, or_false, Prod.mk.injEq] at hm
      obtain ⟨rfl, rfl⟩ := hm
      rw [leq_den]
      simp only [IE.den, hI.n, decide_eq_true_eq]
      omega
    refine wp_mono (wp_one (run_tpl_all hX (by omega) hat (fun W' hW => by cases hW) hw2 hasm hE)) fun e a' w' h => ?_
    obtain ⟨leaf, hp, he, hok, T', hT', hat'⟩ := h
    simp only [chkE, Bool.and_eq_true] at hp
    refine .inr ⟨?_, T', ρ, List.mem_of_getElem? hT', hI, hat' ρ (fun y hy => idHole_ok (List.all_eq_true.1 hp.2 y hy)) rfl⟩
    rw [he]
    have p1 := hp.1
    cases hh : leaf.how with
    | exit id =>
      rw [hh] at p1
      cases id with
      | zero => rfl
      | succ n => cases p1
    | _ => rw [hh] at p1; cases p1
theorem chk_all {k : Int} (hk : k = 0 ∨ k = 1 ∨ k = 2 ∨ k = 3) (inn : Bool) : chkAll k inn = true := by
  rcases hk with rfl | rfl | rfl | rfl <;> cases inn
  · exact chk_0f
  · exact chk_0t
  · exact chk_1f
  · exact chk_1t
  · exact chk_2f
  · exact chk_2t
  · exact chk_3f
  · exact chk_3t
theorem fitA (inn : Bool) : (tplA inn).fits ⟨initT mask3 [.sint .u8 (.v 10), .bool inn, .opq 0] 0 .lf, []⟩ ⟨.lf, posOf 600, []⟩ = some [.i 10 (.v 10), .i 0 (.v 0)] := by
  cases inn <;> kernel_rfl
theorem freeA (inn : Bool) : winFree none (tplA inn) = true := rfl
/-- the end of the call -/
theorem leave {fn : Func} {c : Code} (hi : InfoOk Tryz.prog 3 i3 fn c) {w0 : World} {ρ : Val} {leaf : Leaf} {e : Exit} {a : Act} {w : World} (hp : chkR leaf = true) (h : LeafPost 258 mask3 w0 [tplR] ρ leaf e a w) :
    Fin Tryz.prog fn (fun e w' => e = .returned (.bool true) ∧ Below w0.heap.size w0 w') e a w := by
  obtain ⟨he, _, T', hT', hat⟩ := h
  simp only [chkR, Bool.and_eq_true] at hp
  obtain ⟨⟨p1, p2⟩, p3⟩ := hp
  have hj : leaf.j = 0 := by simpa using p2
  rw [hj] at hT'
  cases hT'
  have hhs : leaf.hs = [] := by simpa using p3
  have hat := hat ρ (fun y hy => by rw [hhs] at hy; cases hy) rfl
  rw [← nt3, ← mk3] at hat
  obtain ⟨h1, u, h2, h3, E, h4⟩ := at_results hi hat fin3
  simp only [cv, Option.some.injEq] at h4
  subst h4
  refine ⟨.inr ?_, h1, _, h2, rfl, h3⟩
  rw [he]
  cases hh : leaf.how <;> rw [hh] at p1 <;> first | rfl | cases p1
def ρ0 (kind : Int) (n : Int) (x y : Int) (sv : Option Addr × Nat) (obj : Obj) : Val :=
  ⟨fun v => if v = 0 then n else if v = 10 then kind else if v = 20 then x else if v = 21 then y else 0, fun _ => false, fun _ => sv, fun _ => obj⟩
theorem runP_eq (k : Int) (inn : Bool) (h : (runP k inn).all chkP = true) : (runL X3 Tryz.prog 258 mask3 pre3 (tplA inn).fr ((tplA inn).st none (asmP k)) (leafK [tpl0 k inn] none)).all chkP = true := by
  unfold runP at h; exact h
theorem runLong_eq (inn : Bool) (h : (runLong inn).all chkR = true) : (runL X3 Tryz.prog 258 mask3 pre3 (tplA inn).fr ((tplA inn).st none asmL) (leafK [tplR] none)).all chkR = true := by
  unfold runLong at h; exact h
theorem runS_eq (T : Tpl) (h : (runS T).all chkR = true) : (runL X3 Tryz.prog 258 mask3 suf3 T.fr (T.st none []) (leafK [tplR] none)).all chkR = true := by
  unfold runS at h; exact h
theorem main {kind : Int} (h0 : 0 ≤ kind) (h1 : kind ≤ 255) (inn : Bool) (n : Nat) (sv : Option Addr × Nat) {w : World} (hD : n ≤ 40 → ∃ D : Data, D.n = n ∧ D.sv = sv ∧ DataOk D w) :
    Calls Tryz.prog 3 #[.int .u8 kind, .bool inn, .slice sv.1 n sv.2] w fun e w' => e = .returned (.bool true) ∧ Below w.heap.size w w' := by
  obtain ⟨fn, c, hi⟩ := fnInfo_ok eq3
  have hcode : spine c = pre3 ++ (.block 0 (.loop body3) :: suf3) := by
    rw [code_eq hi, ← sp3_eq]
    unfold sp3
    rfl
  have hcv : ∀ x y obj, cvs (ρ0 kind n x y sv obj) E0w [.sint .u8 (.v 10), .bool inn, .opq 0] = some [.int .u8 kind, .bool inn, .slice sv.1 n sv.2] := by
    intro x y obj
    simp [cvs, cv, IE.den, ρ0]
  have hat : ∀ x y obj, AtT 258 mask3 w (tplA inn) (ρ0 kind n x y sv obj) { tmps := [Value.int .u8 kind, .bool inn, .slice sv.1 n sv.2].toArray ++ Array.replicate (i3.ntmps - [Value.int .u8 kind, .bool inn, .slice sv.1 n sv.2].toArray.size) undef, defers := [] } w := by
    intro x y obj
    have h := at_args (w := w) (nt := i3.ntmps) (hcv x y obj) (by rw [nt3]; simp) (fitA inn) (fun y hy => by
      simp only [List.mem_cons, List.mem_nil_iff, or_false] at hy
      rcases hy with rfl | rfl <;> rfl)
    have hgen : ∀ (a : Act) (m : Nat), m = 258 → AtT m mask3 w (tplA inn) (ρ0 kind n x y sv obj) a w → AtT 258 mask3 w (tplA inn) (ρ0 kind n x y sv obj) a w := by
      intro a m hm h; rw [← hm]; exact h
    exact hgen _ _ nt3 h
  by_cases hn : n ≤ 40
  · obtain ⟨D, rfl, rfl, hD1⟩ := hD hn
    obtain ⟨k, hk, hkk⟩ : ∃ k : Int, (k = 0 ∨ k = 1 ∨ k = 2 ∨ k = 3) ∧ kind % 4 = k := ⟨kind % 4, by omega, rfl⟩
    have hall := chk_all hk inn
    simp only [chkAll, Bool.and_eq_true] at hall
    have hasm : AsmOk (ρ0 kind D.n (D.X 0) (D.Y 0) D.sv D.obj) (asmP k) := by
      intro c b hm
      simp only [asmP, List.mem_cons, List.mem_nil_iff, or_false, Prod.mk.injEq] at hm
      rcases hm with ⟨rfl, rfl⟩ | ⟨rfl, rfl⟩
      · rw [leq_den]; simp [IE.den, ρ0]; omega
      · have e1 : kindE.den (ρ0 kind D.n (D.X 0) (D.Y 0) D.sv D.obj) = k := by
          show kind.tmod 4 = k
          rw [Int.tmod_eq_emod_of_nonneg h0]; exact hkk
        simp only [BE.den, cmpF, eqlF, IE.den, e1, ieq_self]
    refine calls_loop (nt := 258) (mask := mask3) (ρ := ρ0 kind D.n (D.X 0) (D.Y 0) D.sv D.obj) (us := [.int .u8 kind, .bool inn, .slice D.sv.1 D.n D.sv.2]) (X := X3) (pre := pre3) (suf := suf3) (b := body3) (id := 0) (TA := tplA inn) (TsP := [tpl0 k inn]) (asm0 := asmP k) (pP := chkP) (Ts := tpls k inn) (TsS := [tplR]) (pS := chkR) (Inv := Inv D) (μ := μ D) (w := w)
      hi hX nt3 (by omega) hcode (hat _ _ _) (freeA inn) hasm (runP_eq k inn hall.2) ?_ (fun ρ T a w hT hI hat => round hall.1 hD1 hT hI hat) ?_ (fun ρ leaf e a' w' hI hp hl => leave hi hp hl)
    · intro leaf e a' w' hp hl
      obtain ⟨he, hok, T', hT', hat'⟩ := hl
      simp only [chkP, Bool.and_eq_true] at hp
      obtain ⟨⟨p1, p2⟩, p3⟩ := hp
      have hj : leaf.j = 0 := by simpa using p2
      rw [hj] at hT'
      cases hT'
      refine .inl ⟨?_, tpl0 k inn, ρ0 kind D.n (D.X 0) (D.Y 0) D.sv D.obj, List.mem_cons_self .., ?_, hat' _ (fun y hy => ?_) rfl⟩
      · rw [he]
        cases hh : leaf.how <;> rw [hh] at p1 <;> first | rfl | cases p1
      · exact ⟨rfl, rfl, rfl, Int.le_refl _, Int.natCast_nonneg _, Int.le_refl _, Int.le_refl _, Int.le_refl _, Int.le_refl _, rfl, rfl⟩
      · have h := List.all_eq_true.1 p3 y hy
        unfold startHole at h
        split at h <;> first | rfl | cases h
    · intro T hT
      have hc := List.all_eq_true.1 hall.1 T hT
      simp only [chkT, Bool.and_eq_true] at hc
      exact ⟨hc.2, runS_eq T hc.1.1.2⟩
  · have hasm : AsmOk (ρ0 kind n 0 0 sv (.cells #[] 0 (0, 0))) asmL := by
      intro c b hm
      simp only [asmL, List.mem_cons, List.mem_nil_iff, or_false, Prod.mk.injEq] at hm
      obtain ⟨rfl, rfl⟩ := hm
      rw [leq_den]; simp [IE.den, ρ0]; omega
    have hrun : (runLong inn).all chkR = true := by
      cases inn
      · exact long_f
      · exact long_t
    refine calls_loop (nt := 258) (mask := mask3) (ρ := ρ0 kind n 0 0 sv (.cells #[] 0 (0, 0))) (us := [.int .u8 kind, .bool inn, .slice sv.1 n sv.2]) (X := X3) (pre := pre3) (suf := suf3) (b := body3) (id := 0) (TA := tplA inn) (TsP := [tplR]) (asm0 := asmL) (pP := chkR) (Ts := []) (TsS := []) (pS := fun _ => false) (Inv := fun _ => False) (μ := fun _ => 0) (w := w)
      hi hX nt3 (by omega) hcode (hat _ _ _) (freeA inn) hasm (runLong_eq inn hrun) ?_ (fun ρ T a w hT => by cases hT) (fun T hT => by cases hT) (fun ρ leaf e a' w' hI => hI.elim)
    intro leaf e a' w' hp hl
    refine .inr ⟨?_, leave hi hp hl⟩
    rw [hl.1]
    simp only [chkR, Bool.and_eq_true] at hp
    have p1 := hp.1.1
    cases hh : leaf.how <;> rw [hh] at p1 <;> first | (intro hc; cases hc; done) | cases p1
end Go.Proofs.YtjfpofhpcphedaaGreat.SH
