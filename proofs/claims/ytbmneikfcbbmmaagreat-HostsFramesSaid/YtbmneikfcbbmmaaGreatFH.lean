/- Templates of states, and loops by templates. -/
import Derived.Test.YtbmneikfcbbmmaaGreatFG
import Derived.Below
set_option linter.unusedVariables false
set_option linter.unusedSimpArgs false
set_option linter.unusedSectionVars false
section
/-! TEMPLATES: states with holes; a run of code from a template to templates; a loop by templates. -/
namespace Go.Ab
open Go.RowKit (Below)

noncomputable section
/-! ### definitions -/
def tofC {α : Type} (x : Nat × α) (_ : List (Nat × α)) (ih : Trie α) : Trie α := ih.put (posOf x.1) (some x.2)
def tof {α : Type} (l : List (Nat × α)) : Trie α := List.rec (motive := fun _ => Trie α) .lf tofC l
inductive Hole | i (x : Nat) (e : IE) | b (x : Nat) (e : BE) | q (x : Nat) (e : IE) | ql (x n : Nat)
  deriving DecidableEq, Inhabited
def hB (x : Nat) : AV → Option (List Hole)
  | .bool b => some [.b x (.cmp .eql (.c 0) (.c (if b then 0 else 1)))]
  | .sbool e => some [.b x e]
  | _ => none
mutual
/-- a value without holes, whose blocks are known -/
def plainV (dom : Pos → Bool) : AV → Bool
  | .bool _ => true
  | .int _ _ => true
  | .str _ => true
  | .nilp => true
  | .nils => true
  | .nilm => true
  | .nilf => true
  | .nili => true
  | .ptr p _ => dom p
  | .slc p _ _ _ => dom p
  | .map p => dom p
  | .func _ a c => plainL dom a && plainL dom c
  | .iface _ v => plainV dom v
  | .agg l => plainL dom l
  | .tup l => plainL dom l
  | _ => false
def plainL (dom : Pos → Bool) : List AV → Bool
  | [] => true
  | v :: l => plainV dom v && plainL dom l
end
def joinH (a b : Option (List Hole)) : Option (List Hole) := match a, b with | some x, some y => some (x ++ y) | _, _ => none
mutual
/-- a template's value against another: what stands in the holes -/
def matchV (dom : Pos → Bool) (asm : List (BE × Bool)) : AV → AV → Option (List Hole)
  | .sint k (.v x), a => match a.asIE with | some y => bif kEq k y.k then some [.i x y.e] else none | none => none
  | .sbool (.v x), a => hB x a
  | .int k n, .sint j e => bif kEq k j && isYes (decideM (.cmp .eql e (.c n)) asm) true then some [] else none
  | .bool b, .sbool c => bif isYes (decideM (c.nrm true).c asm) (b == (c.nrm true).p) then some [] else none
  | .agg l, .agg m => matchL dom asm l m
  | .tup l, .tup m => matchL dom asm l m
  | .opq x, .opq y => bif Nat.beq x y then some [.i x (.v x)] else none
  | t, a => bif AV.same t a && plainV dom t then some [] else none
def matchL (dom : Pos → Bool) (asm : List (BE × Bool)) : List AV → List AV → Option (List Hole)
  | [], [] => some []
  | t :: l, a :: m => joinH (matchV dom asm t a) (matchL dom asm l m)
  | _, _ => none
end
def matchB (dom : Pos → Bool) (asm : List (BE × Bool)) : Blk → Blk → Option (List Hole)
  | .cells cs q, .cells ds r => bif q == r then matchL dom asm cs ds else none
  | .grow cs z, .grow ds y => bif Nat.beq z y then matchL dom asm cs ds else none
  | _, _ => none
def lookI (x : Nat) : List Hole → Option IE
  | [] => none
  | .i y e :: l => if y = x then some e else lookI x l
  | _ :: l => lookI x l
def lookB (x : Nat) : List Hole → Option BE
  | [] => none
  | .b y e :: l => if y = x then some e else lookB x l
  | _ :: l => lookB x l
def lookQ (x : Nat) : List Hole → Option IE
  | [] => none
  | .q y e :: l => if y = x then some e else lookQ x l
  | _ :: l => lookQ x l
/-- the length of a sequence of known numbers -/
def litLen : IE → Option Nat
  | .sl l => some l.length
  | .one _ => some 1
  | .app a b => (litLen a).bind fun x => (litLen b).map fun y => x + y
  | _ => none
def holeOk (hs : List Hole) : Hole → Bool
  | .q x e => if lookQ x hs = some e then true else false
  | .ql x n => match lookQ x hs with | some e => (match litLen e with | some m => Nat.beq m n | none => false) | none => false
  | .i x e => if lookI x hs = some e then true else false
  | .b x e => if lookB x hs = some e then true else false
structure Tpl where
  tmps : List (Nat × AV)
  heap : List (Nat × Blk)
  next : Nat
def Tpl.dom (T : Tpl) (p : Pos) : Bool := ((tof T.heap).get p).isSome
def matchTmps (dom : Pos → Bool) (asm : List (BE × Bool)) (fr : Fr) : List (Nat × AV) → Option (List Hole)
  | [] => some []
  | (t, v) :: l => match fr.tmps.get (posOf t) with
    | some a => joinH (matchV dom asm v a) (matchTmps dom asm fr l)
    | none => none
def matchHeap (dom : Pos → Bool) (asm : List (BE × Bool)) (h : Trie Blk) : List (Nat × Blk) → Option (List Hole)
  | [] => some []
  | (t, v) :: l => match h.get (posOf t) with
    | some a => joinH (matchB dom asm v a) (matchHeap dom asm h l)
    | none => none
def Tpl.below (T : Tpl) : Bool := T.heap.all fun x => Nat.blt x.1 T.next
def Tpl.fits (T : Tpl) (fr : Fr) (s : St) : Option (List Hole) :=
  match joinH (matchTmps T.dom s.asm fr T.tmps) (matchHeap T.dom s.asm s.heap T.heap) with
  | some hs => bif hs.all (holeOk hs) && noDefs fr && T.below then some hs else none
  | none => none
/-- a way that code comes to an end: how, in which template, with what in its holes -/
structure Leaf where
  how : AExit
  j : Nat
  hs : List Hole
def firstFit (ae : AExit) (fr : Fr) (s : St) : List Tpl → Nat → Tree Leaf
  | [], _ => .bad 400
  | T :: l, j => match T.fits fr s with
    | some hs => .ok ⟨ae, j, hs⟩
    | none => firstFit ae fr s l (j + 1)
/-- the window, if there is one, must still be there -/
structure Win1 where
  x : Nat
  sz : Nat
  cs : List AV
def winThere (W : Option Win1) (s : St) : Bool :=
  match W with
  | none => true
  | some W => match s.winAt (posOf W.x) with | some b => Nat.beq b.x W.x | none => false
def leafK (Ts : List Tpl) (W : Option Win1) : Kx Leaf := fun ae fr s => guardB (winThere W s) 401 (firstFit ae fr s Ts 0)
def Tree.all {β : Type} (p : β → Bool) : Tree β → Bool
  | .ok a => p a
  | .bad _ => false
  | .br _ t e => t.all p && e.all p
def withWin (W : Option Win1) (h : Trie Blk) : Trie Blk := match W with | none => h | some W => h.put (posOf W.x) (some (.win W.x W.sz W.cs))
def Tpl.fr (T : Tpl) : Fr := ⟨tof T.tmps, []⟩
def Tpl.st (T : Tpl) (W : Option Win1) (asm : List (BE × Bool)) : St := ⟨withWin W (tof T.heap), posOf T.next, asm⟩
end

/-! ### tries from lists -/
theorem get_tof {α : Type} : ∀ (l : List (Nat × α)) (n : Nat), (tof l).get (posOf n) = (l.find? fun x => x.1 == n).map (·.2)
  | [], n => Trie.get_lf _
  | x :: l, n => by
    show ((tof l).put (posOf x.1) (some x.2)).get (posOf n) = _
    rw [Trie.get_put]
    by_cases h : posOf n = posOf x.1
    · rw [if_pos h]
      have := posOf_inj h
      simp [this]
    · rw [if_neg h, get_tof l n]
      have : (x.1 == n) = false := by simp; intro e; exact h (by rw [e])
      simp [this]
theorem posOf_surj (p : Pos) : ∃ n, p = posOf n := by
  have : 1 ≤ p.toNat := by
    induction p with
    | xH => simp [Pos.toNat]
    | xO p ih => simp [Pos.toNat]; omega
    | xI p ih => simp [Pos.toNat]
  exact ⟨p.toNat - 1, Pos.toNat_inj (by rw [posOf_toNat]; omega)⟩
theorem mem_of_tof {α : Type} {l : List (Nat × α)} {p : Pos} {a : α} (h : (tof l).get p = some a) : ∃ n, p = posOf n ∧ (n, a) ∈ l := by
  obtain ⟨n, rfl⟩ := posOf_surj p
  rw [get_tof] at h
  obtain ⟨x, hx, rfl⟩ := Option.map_eq_some_iff.1 h
  have h1 := List.find?_some hx
  have h2 := List.mem_of_find?_eq_some hx
  refine ⟨n, rfl, ?_⟩
  have : x.1 = n := by simpa using h1
  rw [← this]; exact h2

/-! ### holes -/
variable {ρ ρ' : Val} {E E' : Mem} {P : Program} {β : Type} {s : St} {w : World} {fr : Fr} {a : Act} {nt mask : Nat}
/-- what a step may not change -/
structure SameV (ρ ρ' : Val) : Prop where
  sv : ρ'.sv = ρ.sv
  obj : ρ'.obj = ρ.obj
def HoleIs (ρ ρ' : Val) : Hole → Prop
  | .q x e => ρ'.qv x = e.sden ρ
  | .ql x n => (ρ'.qv x).length = n
  | .i x e => ρ'.iv x = e.den ρ
  | .b x e => ρ'.bv x = e.den ρ
structure Same (dom : Pos → Bool) (E E' : Mem) : Prop where
  blk : ∀ p, dom p = true → E'.blk p = E.blk p
  cap : ∀ p, dom p = true → E'.cap p = E.cap p
mutual
theorem plainV_ok {dom : Pos → Bool} (hS : Same dom E E') : ∀ {v : AV} {u : Value}, plainV dom v = true → cv ρ E v = some u → cv ρ' E' v = some u
  | .bool _, _, _, hu | .int _ _, _, _, hu | .str _, _, _, hu | .nilp, _, _, hu | .nils, _, _, hu | .nilm, _, _, hu | .nilf, _, _, hu | .nili, _, _, hu => by simpa [cv] using hu
  | .bad, _, h, _ | .sint _ _, _, h, _ | .sbool _, _, h, _ | .opq _, _, h, _ => by cases h
  | .ptr p o, u, h, hu => by
    simp only [cv] at hu ⊢
    rw [hS.blk p h]; exact hu
  | .slc p off len cap, u, h, hu => by
    simp only [cv] at hu ⊢
    rw [hS.blk p h]
    have : capOf E' p len cap = capOf E p len cap := by cases cap <;> simp [capOf, hS.cap p h]
    rw [this]; exact hu
  | .map p, u, h, hu => by
    simp only [cv] at hu ⊢
    rw [hS.blk p h]; exact hu
  | .func fn x c, u, h, hu => by
    simp only [plainV, Bool.and_eq_true] at h
    simp only [cv, Option.bind_eq_some_iff, Option.map_eq_some_iff] at hu ⊢
    obtain ⟨x, hx, y, hy, e⟩ := hu
    exact ⟨x, plainL_ok hS h.1 hx, y, plainL_ok hS h.2 hy, e⟩
  | .iface t v, u, h, hu => by
    simp only [cv, Option.map_eq_some_iff] at hu ⊢
    obtain ⟨x, hx, e⟩ := hu
    exact ⟨x, plainV_ok hS h hx, e⟩
  | .agg cs, u, h, hu => by
    simp only [cv, Option.map_eq_some_iff] at hu ⊢
    obtain ⟨x, hx, e⟩ := hu
    exact ⟨x, plainL_ok hS h hx, e⟩
  | .tup cs, u, h, hu => by
    simp only [cv, Option.map_eq_some_iff] at hu ⊢
    obtain ⟨x, hx, e⟩ := hu
    exact ⟨x, plainL_ok hS h hx, e⟩
theorem plainL_ok {dom : Pos → Bool} (hS : Same dom E E') : ∀ {l : List AV} {us : List Value}, plainL dom l = true → cvs ρ E l = some us → cvs ρ' E' l = some us
  | [], _, _, hu => by simpa [cvs] using hu
  | v :: l, us, h, hu => by
    simp only [plainL, Bool.and_eq_true] at h
    simp only [cvs, Option.bind_eq_some_iff, Option.map_eq_some_iff] at hu ⊢
    obtain ⟨x, hx, y, hy, e⟩ := hu
    exact ⟨x, plainV_ok hS h.1 hx, y, plainL_ok hS h.2 hy, e⟩
end
theorem joinH_eq {a b : Option (List Hole)} {hs : List Hole} (h : joinH a b = some hs) : ∃ x y, a = some x ∧ b = some y ∧ hs = x ++ y := by
  unfold joinH at h
  split at h
  · next x y => cases h; exact ⟨x, y, rfl, rfl, rfl⟩
  · cases h
theorem hB_ok {x : Nat} {v : AV} {hs : List Hole} {u : Value} (h : hB x v = some hs) (hh : ∀ y ∈ hs, HoleIs ρ ρ' y) (hu : cv ρ E v = some u) : cv ρ' E' (.sbool (.v x)) = some u := by
  cases v with
  | bool b =>
    cases h
    have := hh _ (List.mem_cons_self ..)
    simp only [HoleIs] at this
    simp [cv] at hu; subst hu
    simp only [cv, BE.den, this]
    cases b <;> rfl
  | sbool e =>
    cases h
    have := hh _ (List.mem_cons_self ..)
    simp only [HoleIs] at this
    simp [cv] at hu; subst hu
    simp only [cv, BE.den, this]
  | _ => cases h
mutual
theorem matchV_ok {dom : Pos → Bool} {asm : List (BE × Bool)} (hasm : AsmOk ρ asm) (hS : Same dom E E') (hsv : ρ'.sv = ρ.sv) : ∀ (t v : AV) (hs : List Hole) (u : Value), matchV dom asm t v = some hs → (∀ y ∈ hs, HoleIs ρ ρ' y) → cv ρ E v = some u → cv ρ' E' t = some u := by
  intro t v hs u h hh hu
  have plain : (bif AV.same t v && plainV dom t then some [] else none) = some hs → cv ρ' E' t = some u := by
    intro h
    cases hb : AV.same t v && plainV dom t with
    | false => rw [hb] at h; cases h
    | true =>
      rw [Bool.and_eq_true] at hb
      have := same_eq _ _ hb.1
      subst this
      exact plainV_ok hS hb.2 hu
  unfold matchV at h
  split at h
  · rename_i k x
    split at h
    · next y hy =>
      cases hk : kEq k y.k with
      | false => rw [hk] at h; cases h
      | true =>
        rw [hk] at h; cases h
        have := hh _ (List.mem_cons_self ..)
        simp only [HoleIs] at this
        rw [asIE_cv hy] at hu; cases hu
        simp only [cv, IE.den, this]
        have : k = y.k := (kEq_iff _ _).1 hk
        rw [this]
    · cases h
  · exact hB_ok h hh hu
  · next k n j e =>
    cases hb : kEq k j && isYes (decideM (.cmp .eql e (.c n)) asm) true with
    | false => rw [hb] at h; cases h
    | true =>
      rw [Bool.and_eq_true] at hb
      have hk := (kEq_iff _ _).1 hb.1
      have hd := decideM_ok hasm (isYes_eq hb.2)
      simp only [BE.den, cmpF, eqlF, IE.den, ieq_iff] at hd
      simp only [cv, hd, hk] at hu ⊢
      exact hu
  · next b c =>
    cases hb : isYes (decideM (c.nrm true).c asm) (b == (c.nrm true).p) with
    | false => rw [hb] at h; cases h
    | true =>
      have hd := decideM_ok hasm (isYes_eq hb)
      have hn := nrm_ok (ρ := ρ) c true
      rw [hd] at hn
      simp only [cv] at hu ⊢
      rw [← hu]
      congr 2
      revert hn
      cases b <;> cases (c.nrm true).p <;> cases c.den ρ <;> simp
  · next l m =>
    simp only [cv, Option.map_eq_some_iff] at hu ⊢
    obtain ⟨x, hx, e⟩ := hu
    exact ⟨x, matchL_ok hasm hS hsv l m hs x h hh hx, e⟩
  · next l m =>
    simp only [cv, Option.map_eq_some_iff] at hu ⊢
    obtain ⟨x, hx, e⟩ := hu
    exact ⟨x, matchL_ok hasm hS hsv l m hs x h hh hx, e⟩
  · next x y =>
    cases hb : Nat.beq x y with
    | false => rw [hb] at h; cases h
    | true =>
      rw [hb] at h; cases h
      have e : x = y := by simpa using hb
      subst e
      have := hh _ (List.mem_cons_self ..)
      simp only [HoleIs, IE.den] at this
      simp only [cv, this, hsv] at hu ⊢
      exact hu
  · exact plain h
theorem matchL_ok {dom : Pos → Bool} {asm : List (BE × Bool)} (hasm : AsmOk ρ asm) (hS : Same dom E E') (hsv : ρ'.sv = ρ.sv) : ∀ (t v : List AV) (hs : List Hole) (us : List Value), matchL dom asm t v = some hs → (∀ y ∈ hs, HoleIs ρ ρ' y) → cvs ρ E v = some us → cvs ρ' E' t = some us := by
  intro t v hs us h hh hu
  unfold matchL at h
  split at h
  · simpa [cvs] using hu
  · next t l a m =>
    obtain ⟨x, y, h1, h2, rfl⟩ := joinH_eq h
    simp only [cvs, Option.bind_eq_some_iff, Option.map_eq_some_iff] at hu ⊢
    obtain ⟨u, hu1, z, hz, e⟩ := hu
    exact ⟨u, matchV_ok hasm hS hsv t a x u h1 (fun q hq => hh q (List.mem_append_left _ hq)) hu1, z, matchL_ok hasm hS hsv l m y z h2 (fun q hq => hh q (List.mem_append_right _ hq)) hz, e⟩
  · cases h
end
end Go.Ab
end

section
namespace Go.Ab
open Go.RowKit (Below)
variable {ρ ρ' : Val} {E E' : Mem} {P : Program} {β : Type} {s : St} {w w0 : World} {fr : Fr} {a : Act} {nt mask : Nat}

noncomputable def subst (ρ : Val) (hs : List Hole) : Val where
  iv := fun x => match lookI x hs with | some e => e.den ρ | none => ρ.iv x
  bv := fun x => match lookB x hs with | some e => e.den ρ | none => ρ.bv x
  sv := ρ.sv
  obj := ρ.obj
  qv := fun x => match lookQ x hs with | some e => e.sden ρ | none => ρ.qv x
theorem litLen_ok : ∀ {e : IE} {n : Nat}, litLen e = some n → (e.sden ρ).length = n := by
  intro e
  induction e with
  | sl l => intro n h; cases h; simp [IE.sden]
  | one e _ => intro n h; cases h; simp [IE.sden]
  | app a b iha ihb =>
    intro n h
    simp only [litLen, Option.bind_eq_some_iff, Option.map_eq_some_iff] at h
    obtain ⟨x, hx, y, hy, rfl⟩ := h
    simp [IE.sden, iha hx, ihb hy]
  | _ => intro n h; cases h
theorem holes_ok {hs : List Hole} (h : hs.all (holeOk hs) = true) : ∀ y ∈ hs, HoleIs ρ (subst ρ hs) y := by
  intro y hy
  have h1 := List.all_eq_true.1 h y hy
  cases y with
  | i x e =>
    have h2 : lookI x hs = some e := ite_true h1
    simp only [HoleIs, subst, h2]
  | b x e =>
    have h2 : lookB x hs = some e := ite_true h1
    simp only [HoleIs, subst, h2]
  | q x e =>
    have h2 : lookQ x hs = some e := ite_true h1
    simp only [HoleIs, subst, h2]
  | ql x n =>
    simp only [holeOk] at h1
    split at h1
    · next e he =>
      split at h1
      · next m hm =>
        have : m = n := by simpa using h1
        subst this
        simp only [HoleIs, subst, he]
        exact litLen_ok hm
      · cases h1
    · cases h1
theorem subst_qv {hs : List Hole} {x : Nat} {e : IE} (h : lookQ x hs = some e) : (subst ρ hs).qv x = e.sden ρ := by simp [subst, h]
theorem subst_qv_none {hs : List Hole} {x : Nat} (h : lookQ x hs = none) : (subst ρ hs).qv x = ρ.qv x := by simp [subst, h]
theorem subst_iv {hs : List Hole} {x : Nat} {e : IE} (h : lookI x hs = some e) : (subst ρ hs).iv x = e.den ρ := by simp [subst, h]
theorem subst_iv_none {hs : List Hole} {x : Nat} (h : lookI x hs = none) : (subst ρ hs).iv x = ρ.iv x := by simp [subst, h]

/-! ### what a fit says -/
theorem matchTmps_mem {dom : Pos → Bool} {asm : List (BE × Bool)} : ∀ {l : List (Nat × AV)} {hs : List Hole}, matchTmps dom asm fr l = some hs → ∀ t v, (t, v) ∈ l → ∃ x hs', fr.tmps.get (posOf t) = some x ∧ matchV dom asm v x = some hs' ∧ ∀ y ∈ hs', y ∈ hs
  | [], _, _, t, v, hm => by cases hm
  | (t0, v0) :: l, hs, h, t, v, hm => by
    unfold matchTmps at h
    split at h
    · next x hx =>
      obtain ⟨h1, h2, e1, e2, rfl⟩ := joinH_eq h
      rcases List.mem_cons.1 hm with e | hm
      · cases e; exact ⟨x, h1, hx, e1, fun y hy => List.mem_append_left _ hy⟩
      · obtain ⟨x', hs', g1, g2, g3⟩ := matchTmps_mem e2 t v hm
        exact ⟨x', hs', g1, g2, fun y hy => List.mem_append_right _ (g3 y hy)⟩
    · cases h
theorem matchHeap_mem {dom : Pos → Bool} {asm : List (BE × Bool)} {hp : Trie Blk} : ∀ {l : List (Nat × Blk)} {hs : List Hole}, matchHeap dom asm hp l = some hs → ∀ t v, (t, v) ∈ l → ∃ x hs', hp.get (posOf t) = some x ∧ matchB dom asm v x = some hs' ∧ ∀ y ∈ hs', y ∈ hs
  | [], _, _, t, v, hm => by cases hm
  | (t0, v0) :: l, hs, h, t, v, hm => by
    unfold matchHeap at h
    split at h
    · next x hx =>
      obtain ⟨h1, h2, e1, e2, rfl⟩ := joinH_eq h
      rcases List.mem_cons.1 hm with e | hm
      · cases e; exact ⟨x, h1, hx, e1, fun y hy => List.mem_append_left _ hy⟩
      · obtain ⟨x', hs', g1, g2, g3⟩ := matchHeap_mem e2 t v hm
        exact ⟨x', hs', g1, g2, fun y hy => List.mem_append_right _ (g3 y hy)⟩
    · cases h
structure Fit (T : Tpl) (fr : Fr) (s : St) (hs : List Hole) : Prop where
  tmps : ∀ t v, (t, v) ∈ T.tmps → ∃ x hs', fr.tmps.get (posOf t) = some x ∧ matchV T.dom s.asm v x = some hs' ∧ ∀ y ∈ hs', y ∈ hs
  heap : ∀ t v, (t, v) ∈ T.heap → ∃ x hs', s.heap.get (posOf t) = some x ∧ matchB T.dom s.asm v x = some hs' ∧ ∀ y ∈ hs', y ∈ hs
  ok : hs.all (holeOk hs) = true
  defs : fr.defs = []
  below : T.below = true
theorem fits_ok {T : Tpl} {hs : List Hole} (h : T.fits fr s = some hs) : Fit T fr s hs := by
  unfold Tpl.fits at h
  split at h
  · next hs' hj =>
    obtain ⟨h1, h2, e1, e2, rfl⟩ := joinH_eq hj
    cases hb : (h1 ++ h2).all (holeOk (h1 ++ h2)) && noDefs fr && T.below with
    | false => rw [hb] at h; cases h
    | true =>
      rw [hb] at h; cases h
      simp only [Bool.and_eq_true] at hb
      refine ⟨fun t v hm => ?_, fun t v hm => ?_, hb.1.1, ?_, hb.2⟩
      · obtain ⟨x, hs', g1, g2, g3⟩ := matchTmps_mem e1 t v hm
        exact ⟨x, hs', g1, g2, fun y hy => List.mem_append_left _ (g3 y hy)⟩
      · obtain ⟨x, hs', g1, g2, g3⟩ := matchHeap_mem e2 t v hm
        exact ⟨x, hs', g1, g2, fun y hy => List.mem_append_right _ (g3 y hy)⟩
      · have := hb.1.2
        cases hd : fr.defs with
        | nil => rfl
        | cons _ _ => simp [noDefs, hd] at this
  · cases h
theorem firstFit_ok {ae : AExit} {leaf : Leaf} : ∀ {Ts : List Tpl} {j : Nat}, (firstFit ae fr s Ts j).run ρ = some leaf → ∃ i T, j + i = leaf.j ∧ Ts[i]? = some T ∧ T.fits fr s = some leaf.hs ∧ leaf.how = ae
  | [], j, h => by cases h
  | T :: l, j, h => by
    unfold firstFit at h
    split at h
    · next hs hf =>
      cases h
      exact ⟨0, T, rfl, rfl, hf, rfl⟩
    · obtain ⟨i, T', h1, h2, h3, h4⟩ := firstFit_ok h
      exact ⟨i + 1, T', by omega, by simpa using h2, h3, h4⟩

/-! ### a state at a template -/
structure Keep (ρ : Val) (w0 : World) (E : Mem) (h : Trie Blk) (w : World) : Prop where
  below : Below w0.heap.size w0 w
  own : ∀ p b k o, h.get p = some b → Live b → E.blk p = some (k, o) → w0.heap.size ≤ k ∨ ∃ x kd t, b = .ro x kd t ∧ w0.heap[k]? = some (ρ.obj x)
def AtT (nt mask : Nat) (w0 : World) (T : Tpl) (ρ : Val) (a : Act) (w : World) : Prop :=
  ∃ E, HRel ρ E ⟨tof T.heap, posOf T.next, []⟩ w ∧ FrRel ρ nt mask E ⟨tof T.tmps, []⟩ a ∧ Keep ρ w0 E (tof T.heap) w ∧ ∀ p, T.dom p = false → E.blk p = none
def E0w : Mem := ⟨fun _ => none, fun _ => 0⟩
def WinOk (ρ : Val) (W : Win1) (w0 : World) : Prop :=
  ∃ c o us pre rest t fz, (ρ.sv W.x).1 = some ⟨c, o, none⟩ ∧ 0 ≤ ρ.iv (W.x + 1) ∧ ρ.iv (W.x + 1) < ρ.iv W.x ∧ cvs ρ E0w W.cs = some us ∧ w0.heap[c]? = some (.cells (pre ++ us ++ rest).toArray t fz) ∧
    pre.length = o + W.sz * (ρ.iv (W.x + 1)).toNat ∧ ρ.obj W.x = .cells (pre ++ us ++ rest).toArray t fz
noncomputable def winFree (W : Option Win1) (T : Tpl) : Bool := match W with | none => true | some W => !T.dom (posOf W.x) && Nat.blt W.x T.next && T.heap.all (fun x => !x.2.isRo)
theorem E0w_le (E : Mem) : Mem.Le E0w E := ⟨fun _ _ h => (by cases h), fun _ _ h => (by cases h)⟩
theorem dom_none {T : Tpl} {p : Pos} (h : T.dom p = false) : (tof T.heap).get p = none := by
  unfold Tpl.dom at h
  cases hg : (tof T.heap).get p with
  | none => rfl
  | some _ => rw [hg] at h; cases h
theorem dom_some {T : Tpl} {p : Pos} {b : Blk} (h : (tof T.heap).get p = some b) : T.dom p = true := by unfold Tpl.dom; rw [h]; rfl

/-- a live block of the start: of the run's own, the window, or one that is only read -/
def OwnK (w0 : World) (ρ : Val) (W : Option Win1) (p : Pos) (b : Blk) (k : Nat) : Prop :=
  w0.heap.size ≤ k ∨ (∃ W', W = some W' ∧ p = posOf W'.x) ∨ ∃ x kd t, b = .ro x kd t ∧ w0.heap[k]? = some (ρ.obj x)
/-- the start: a template with its window -/
theorem start_tpl {T : Tpl} {W : Option Win1} {asm : List (BE × Bool)} (hat : AtT nt mask w0 T ρ a w) (hW : ∀ W', W = some W' → WinOk ρ W' w0) (hfree : winFree W T = true) (hasm : AsmOk ρ asm) :
    ∃ E, HRel ρ E (T.st W asm) w ∧ FrRel ρ nt mask E T.fr a ∧ Below w0.heap.size w0 w ∧
      (∀ p b k o, (T.st W asm).heap.get p = some b → Live b → E.blk p = some (k, o) → OwnK w0 ρ W p b k) ∧
      (∀ W', W = some W' → ∃ c o, E.blk (posOf W'.x) = some (c, o) ∧ c < w0.heap.size ∧ w0.heap[c]? = some (ρ.obj W'.x)) := by
  obtain ⟨E, hr, hf, hk, hn⟩ := hat
  cases W with
  | none =>
    refine ⟨E, ⟨hr.blks, hr.inj, hr.dom, hr.free, hasm⟩, hf, hk.below, fun p b k o h1 h2 h3 => (hk.own p b k o h1 h2 h3).imp id .inr, fun W' h => by cases h⟩
  | some W =>
    obtain ⟨c, o, us, pre, rest, t, fz, h1, h2, h3, h4, h5, h6, h7⟩ := hW W rfl
    simp only [winFree, Bool.and_eq_true, Bool.not_eq_true', Nat.blt_eq] at hfree
    obtain ⟨⟨hf1, hf2⟩, hf3⟩ := hfree
    have hown : ∀ p b k o, (tof T.heap).get p = some b → Live b → E.blk p = some (k, o) → w0.heap.size ≤ k := by
      intro p b k o g1 g2 g3
      rcases hk.own p b k o g1 g2 g3 with h | ⟨x, kd, t, rfl, _⟩
      · exact h
      · obtain ⟨n, _, hm⟩ := mem_of_tof g1
        have := List.all_eq_true.1 hf3 _ hm
        simp [Blk.isRo] at this
    have hnone := hn _ hf1
    have hle : Mem.Le E (E.addAt (posOf W.x) c (o + W.sz * (ρ.iv (W.x + 1)).toNat) 0) := Mem.le_addAt hnone
    have hold : ∀ q, q ≠ posOf W.x → (E.addAt (posOf W.x) c (o + W.sz * (ρ.iv (W.x + 1)).toNat) 0).blk q = E.blk q := fun q hq => by simp [Mem.addAt, hq]
    have hnew : (E.addAt (posOf W.x) c (o + W.sz * (ρ.iv (W.x + 1)).toNat) 0).blk (posOf W.x) = some (c, o + W.sz * (ρ.iv (W.x + 1)).toNat) := by simp [Mem.addAt]
    have hc : c < w0.heap.size := (Array.getElem?_eq_some_iff.1 h5).1
    have hcell : w.heap[c]? = some (.cells (pre ++ us ++ rest).toArray t fz) := by rw [hk.below.block c hc]; exact h5
    have hget : ∀ q, ((tof T.heap).put (posOf W.x) (some (.win W.x W.sz W.cs))).get q = if q = posOf W.x then some (.win W.x W.sz W.cs) else (tof T.heap).get q := fun q => by rw [Trie.get_put]
    have hnat : (posOf W.x).toNat < (posOf T.next).toNat := by rw [posOf_toNat, posOf_toNat]; omega
    refine ⟨E.addAt (posOf W.x) c (o + W.sz * (ρ.iv (W.x + 1)).toNat) 0, ⟨?_, ?_, ?_, ?_, hasm⟩, hf.mono hle, hk.below, ?_, fun W' h => ?_⟩
    · intro p b hp
      have hp : ((tof T.heap).put (posOf W.x) (some (.win W.x W.sz W.cs))).get p = some b := hp
      rw [hget] at hp
      by_cases e : p = posOf W.x
      · rw [if_pos e] at hp; cases hp
        subst e
        exact ⟨c, o, us, pre, rest, t, fz, hnew, cvs_mono (E0w_le _) h4, hcell, h6, h1, h2, h3, h7⟩
      · rw [if_neg e] at hp
        exact (hr.blks p b hp).congr hle fun _ _ _ _ => rfl
    · intro p q b b' k o1 o2 hp hq hl hl' he he'
      have hp : ((tof T.heap).put (posOf W.x) (some (.win W.x W.sz W.cs))).get p = some b := hp
      have hq : ((tof T.heap).put (posOf W.x) (some (.win W.x W.sz W.cs))).get q = some b' := hq
      rw [hget] at hp hq
      by_cases e : p = posOf W.x
      · by_cases e' : q = posOf W.x
        · left; rw [e, e']
        · rw [if_neg e'] at hq
          rw [e, hnew] at he; cases he
          rw [hold q e'] at he'
          have := hown q b' _ o2 hq hl' he'
          omega
      · rw [if_neg e] at hp
        rw [hold p e] at he
        by_cases e' : q = posOf W.x
        · rw [e', hnew] at he'; cases he'
          have := hown p b _ o1 hp hl he
          omega
        · rw [if_neg e'] at hq
          rw [hold q e'] at he'
          exact hr.inj p q b b' k o1 o2 hp hq hl hl' he he'
    · intro p b hp
      have hp : ((tof T.heap).put (posOf W.x) (some (.win W.x W.sz W.cs))).get p = some b := hp
      rw [hget] at hp
      by_cases e : p = posOf W.x
      · rw [e]; exact hnat
      · rw [if_neg e] at hp; exact hr.dom p b hp
    · intro p x hp
      by_cases e : p = posOf W.x
      · rw [e]; exact hnat
      · rw [hold p e] at hp; exact hr.free p x hp
    · intro p b k o' hp hl he
      have hp : ((tof T.heap).put (posOf W.x) (some (.win W.x W.sz W.cs))).get p = some b := hp
      rw [hget] at hp
      by_cases e : p = posOf W.x
      · exact .inr (.inl ⟨W, rfl, e⟩)
      · rw [if_neg e] at hp
        rw [hold p e] at he
        exact .inl (hown p b k o' hp hl he)
    · cases h
      exact ⟨c, _, hnew, hc, by rw [h5, h7]⟩
/-- what was there before stays -/
theorem frame_end {W : Option Win1} {s0 s' : St} {E1 E' : Mem} {w w' : World} (hwin : winThere W s' = true) (hst : Step E1 s0 w E' s' w') (hr' : HRel ρ E' s' w') (hb : Below w0.heap.size w0 w)
    (hown : ∀ p b k o, s0.heap.get p = some b → Live b → E1.blk p = some (k, o) → OwnK w0 ρ W p b k)
    (hwc : ∀ W', W = some W' → ∃ c o, E1.blk (posOf W'.x) = some (c, o) ∧ c < w0.heap.size ∧ w0.heap[c]? = some (ρ.obj W'.x)) {k : Nat} (hk : k < w0.heap.size) : w'.heap[k]? = w0.heap[k]? := by
  rw [← hb.block k hk]
  by_cases hro : ∃ p o x kd t, s0.heap.get p = some (.ro x kd t) ∧ E1.blk p = some (k, o)
  · obtain ⟨p, o, x, kd, t, h1, h2⟩ := hro
    obtain ⟨c2, o2, pre, rest, t2, fz, g1, g2, g3, g4, g5⟩ := hr'.blks _ _ (hst.ro p x kd t h1)
    rw [hst.le.blk _ _ h2] at g1
    cases g1
    rw [hb.block k hk]
    rcases hown p _ k o h1 (by simp [Live]) h2 with h | ⟨W', hW', hp⟩ | ⟨x', kd', t', e, h⟩
    · omega
    · obtain ⟨c, o', hc1, hc2, hc3⟩ := hwc W' hW'
      subst hp
      rw [h2] at hc1
      cases hc1
      subst hW'
      have hwin : (match s'.winAt (posOf W'.x) with | some b => Nat.beq b.x W'.x | none => false) = true := hwin
      have hg := hst.ro _ x kd t h1
      unfold St.winAt at hwin
      rw [hg] at hwin
      simp [Blk.asWin] at hwin
    · cases e
      rw [g2, h, g5]
  · have key : (∀ W', W = some W' → ∀ o, E1.blk (posOf W'.x) ≠ some (k, o)) → w'.heap[k]? = w.heap[k]? := fun hno => by
      refine hst.frame k (Nat.lt_of_lt_of_le hk hb.size) fun p b o hp hl he => ?_
      rcases hown p b k o hp hl he with h1 | ⟨W', h1, h2⟩ | ⟨x, kd, t, rfl, _⟩
      · omega
      · rw [h2] at he; exact hno W' h1 o he
      · exact hro ⟨p, o, x, kd, t, hp, he⟩
    cases W with
    | none => exact key fun W' h => by cases h
    | some W =>
      obtain ⟨c, o, hc1, hc2, hc3⟩ := hwc W rfl
      by_cases hkc : k = c
      · subst hkc
        have hwin : (match s'.winAt (posOf W.x) with | some b => Nat.beq b.x W.x | none => false) = true := hwin
        split at hwin
        · next b hb' =>
          have hbx : b.x = W.x := by simpa using hwin
          obtain ⟨cs, hblk'⟩ := St.winAt_eq hb'
          obtain ⟨c2, o2, us, pre, rest, t, fz, h1, h2, h3, h4, h5, h6, h7, h8⟩ := hr'.blks _ _ hblk'
          rw [hst.le.blk _ _ hc1] at h1
          cases h1
          rw [h3, hb.block _ hk, hc3, ← hbx, h8]
        · cases hwin
      · exact key fun W' h o' he => by
          cases h
          rw [hc1] at he
          cases he
          exact hkc rfl
/-- where a live block lies at the end -/
theorem own_end {W : Option Win1} {s0 s' : St} {E1 E' : Mem} {w w' : World} (hwin : winThere W s' = true) (hst : Step E1 s0 w E' s' w') (hr' : HRel ρ E' s' w') (hb : Below w0.heap.size w0 w)
    (hown : ∀ p b k o, s0.heap.get p = some b → Live b → E1.blk p = some (k, o) → OwnK w0 ρ W p b k)
    {q : Pos} {b' : Blk} {k o : Nat} (g1 : s'.heap.get q = some b') (hl' : Live b') (hnw : ∀ x sz cs, b' ≠ .win x sz cs) (he : E'.blk q = some (k, o)) : w0.heap.size ≤ k ∨ ∃ x kd t, b' = .ro x kd t ∧ w0.heap[k]? = some (ρ.obj x) := by
  rcases hst.img _ b' k o g1 hl' he with h1 | ⟨p, b2, o2, hq, hl2, he2⟩
  · exact .inl (Nat.le_trans hb.size h1)
  · rcases hown p b2 k o2 hq hl2 he2 with h1 | ⟨W', rfl, rfl⟩ | ⟨x, kd, t, rfl, h3⟩
    · exact .inl h1
    · exfalso
      have hwin : (match s'.winAt (posOf W'.x) with | some b => Nat.beq b.x W'.x | none => false) = true := hwin
      split at hwin
      · next b3 hb3 =>
        obtain ⟨cs, hblk'⟩ := St.winAt_eq hb3
        rcases hr'.inj _ _ _ _ k o o2 g1 hblk' hl' (by simp [Live]) he (hst.le.blk _ _ he2) with hpq | ⟨_, e⟩
        · rw [hpq, hblk'] at g1
          cases g1
          exact hnw _ _ _ rfl
        · cases e
      · cases hwin
    · have hp := hst.ro p x kd t hq
      have hE := hst.le.blk _ _ he2
      have same : ∀ x1 k1 t1, b' = .ro x1 k1 t1 → w0.heap[k]? = some (ρ.obj x1) := by
        rintro x1 k1 t1 rfl
        obtain ⟨c2, o3, pre, rest, t2, fz, e1, e2, e3, e4, e5⟩ := hr'.blks _ _ g1
        rw [he] at e1; cases e1
        obtain ⟨c3, o4, pre', rest', t3, fz', f1, f2, f3, f4, f5⟩ := hr'.blks _ _ hp
        rw [hE] at f1; cases f1
        rw [h3, f5, ← f2, e2, e5]
      rcases hr'.inj _ _ _ _ k o o2 g1 hp hl' (by simp [Live]) he hE with hpq | ⟨e, _⟩
      · rw [hpq, hp] at g1
        cases g1
        exact .inr ⟨x, kd, t, rfl, h3⟩
      · cases b' <;> first | (cases e; done) | exact .inr ⟨_, _, _, rfl, same _ _ _ rfl⟩
/-- the end: a fit is a state at the template -/
theorem end_tpl {ρ' : Val} {T' : Tpl} {W : Option Win1} {fr' : Fr} {s0 s' : St} {E1 E' : Mem} {w w' : World} {a' : Act} {hs : List Hole} (hfit : Fit T' fr' s' hs) (hwin : winThere W s' = true)
    (hst : Step E1 s0 w E' s' w') (hr' : HRel ρ E' s' w') (hf' : FrRel ρ nt mask E' fr' a') (hb : Below w0.heap.size w0 w)
    (hown : ∀ p b k o, s0.heap.get p = some b → Live b → E1.blk p = some (k, o) → OwnK w0 ρ W p b k)
    (hwc : ∀ W', W = some W' → ∃ c o, E1.blk (posOf W'.x) = some (c, o) ∧ c < w0.heap.size ∧ w0.heap[c]? = some (ρ.obj W'.x))
    (hholes : ∀ y ∈ hs, HoleIs ρ ρ' y) (hsv0 : SameV ρ ρ') : AtT nt mask w0 T' ρ' a' w' := by
  have hsv := hsv0.sv
  have hS : Same T'.dom E' ⟨fun p => if T'.dom p = true then E'.blk p else none, E'.cap⟩ := ⟨fun p hp => by simp [hp], fun p hp => rfl⟩
  have hblk : ∀ p b, (tof T'.heap).get p = some b → ∃ n b' hs', p = posOf n ∧ (n, b) ∈ T'.heap ∧ s'.heap.get p = some b' ∧ matchB T'.dom s'.asm b b' = some hs' ∧ ∀ y ∈ hs', y ∈ hs := by
    intro p b hp
    obtain ⟨n, rfl, hm⟩ := mem_of_tof hp
    obtain ⟨x, hs', g1, g2, g3⟩ := hfit.heap n b hm
    exact ⟨n, x, hs', rfl, hm, g1, g2, g3⟩
  have hlive : ∀ b b' hs', matchB T'.dom s'.asm b b' = some hs' → Live b' ∧ (∀ x sz cs, b' ≠ .win x sz cs) ∧ b'.isRo = false := by
    intro b b' hs' hm
    cases b <;> cases b' <;> first | (cases hm; done) | (exact ⟨by simp [Live], by simp, rfl⟩)
  have hlt : ∀ n b, (n, b) ∈ T'.heap → n < T'.next := by
    intro n b hm
    have := List.all_eq_true.1 hfit.below (n, b) hm
    simpa using this
  have hE : ∀ p b, (tof T'.heap).get p = some b → (⟨fun p => if T'.dom p = true then E'.blk p else none, E'.cap⟩ : Mem).blk p = E'.blk p := fun p b hp => by simp [dom_some hp]
  refine ⟨⟨fun p => if T'.dom p = true then E'.blk p else none, E'.cap⟩, ⟨?_, ?_, ?_, ?_, fun c b h => by cases h⟩, ⟨hf'.size, ?_, ?_, ?_⟩, ⟨?_, ?_⟩, fun p hp => by simp [hp]⟩
  · intro p b hp
    obtain ⟨n, b', hs', rfl, hm, g1, g2, g3⟩ := hblk p b hp
    have hbr := hr'.blks _ _ g1
    have hEp := hE _ _ hp
    cases b <;> cases b' <;> first | (cases g2; done) | skip
    · next cs q ds r =>
      simp only [matchB] at g2
      cases hq : q == r with
      | false => rw [hq] at g2; cases g2
      | true =>
        rw [hq] at g2
        have : q = r := by simpa using hq
        subst this
        obtain ⟨c, o, us, pre, rest, t, fz, h1, h2, h3, h4, h5, h6⟩ := hbr
        exact ⟨c, o, us, pre, rest, t, fz, by rw [hEp]; exact h1, matchL_ok (ρ := ρ) (ρ' := ρ') hr'.asm hS hsv _ _ _ _ g2 (fun y hy => hholes y (g3 y hy)) h2, h3, h4, h5, h6⟩
    · next cs z ds y =>
      simp only [matchB] at g2
      cases hq : Nat.beq z y with
      | false => rw [hq] at g2; cases g2
      | true =>
        rw [hq] at g2
        have : z = y := by simpa using hq
        subst this
        obtain ⟨c, o, us, pre, rest, t, fz, h1, h2, h3, h4, h5, h6⟩ := hbr
        exact ⟨c, o, us, pre, rest, t, fz, by rw [hEp]; exact h1, matchL_ok (ρ := ρ) (ρ' := ρ') hr'.asm hS hsv _ _ _ _ g2 (fun y hy => hholes y (g3 y hy)) h2, h3, h4, h5, h6⟩
  · intro p q b1 b2 c o o' hp hq hl hl' he he'
    obtain ⟨n, b', hs', rfl, hm, g1, g2, g3⟩ := hblk p b1 hp
    obtain ⟨n2, b2', hs2', rfl, hm2, k1, k2, k3⟩ := hblk q b2 hq
    rw [hE _ _ hp] at he
    rw [hE _ _ hq] at he'
    exact .inl ((hr'.inj _ _ _ _ c o o' g1 k1 (hlive _ _ _ g2).1 (hlive _ _ _ k2).1 he he').resolve_right fun e => by rw [(hlive _ _ _ g2).2.2] at e; cases e.1)
  · intro p b hp
    obtain ⟨n, b', hs', rfl, hm, g1, g2, g3⟩ := hblk p b hp
    have := hlt n b hm
    show (posOf n).toNat < (posOf T'.next).toNat
    rw [posOf_toNat, posOf_toNat]; omega
  · intro p x hp
    by_cases hd : T'.dom p = true
    · cases hg : (tof T'.heap).get p with
      | none => unfold Tpl.dom at hd; rw [hg] at hd; cases hd
      | some b =>
        obtain ⟨n, b', hs', rfl, hm, g1, g2, g3⟩ := hblk p b hg
        have := hlt n b hm
        show (posOf n).toNat < (posOf T'.next).toNat
        rw [posOf_toNat, posOf_toNat]; omega
    · simp [hd] at hp
  · intro t v hv
    obtain ⟨n, hn, hm⟩ := mem_of_tof hv
    have := posOf_inj hn
    subst this
    obtain ⟨x, hs', g1, g2, g3⟩ := hfit.tmps t v hm
    exact matchV_ok (ρ := ρ) (ρ' := ρ') hr'.asm hS hsv _ _ _ _ g2 (fun y hy => hholes y (g3 y hy)) (hf'.val t x g1)
  · intro t v hv
    obtain ⟨n, hn, hm⟩ := mem_of_tof hv
    have := posOf_inj hn
    subst this
    obtain ⟨x, hs', g1, g2, g3⟩ := hfit.tmps t v hm
    exact hf'.key t x g1
  · have := hf'.defs
    rw [hfit.defs] at this
    show DRel _ _ [] a'.defers
    rw [this.nil_eq]; exact .nil
  · exact ⟨hst.os.trans hb.os, hst.tape.trans hb.tape, hst.out.trans hb.output, Nat.le_trans hb.size hst.size, fun k hk => frame_end hwin hst hr' hb hown hwc hk⟩
  · intro p b k o hp hl he
    rw [hE _ _ hp] at he
    obtain ⟨n, b', hs', rfl, hm, g1, g2, g3⟩ := hblk p b hp
    obtain ⟨hl', hnw, hnr⟩ := hlive _ _ _ g2
    rcases own_end hwin hst hr' hb hown g1 hl' hnw he with h | ⟨x, kd, t, rfl, _⟩
    · exact .inl h
    · cases hnr

theorem Tree.all_run {β : Type} {p : β → Bool} (ρ : Val) : ∀ {t : Tree β}, t.all p = true → ∃ r, t.run ρ = some r ∧ p r = true
  | .ok a, h => ⟨a, rfl, h⟩
  | .bad _, h => by cases h
  | .br c t e, h => by
    simp only [Tree.all, Bool.and_eq_true] at h
    obtain ⟨r1, h1, h2⟩ := Tree.all_run ρ h.1
    obtain ⟨r2, h3, h4⟩ := Tree.all_run ρ h.2
    by_cases hc : c.den ρ = true
    · exact ⟨r1, by simp [Tree.run, hc, h1], h2⟩
    · exact ⟨r2, by simp [Tree.run, hc, h3], h4⟩

/-! ### the spine of a body -/
def spine : Code → List Code
  | .seq a b => spine a ++ spine b
  | c => [c]
def wpL (P : Program) : List Code → (Exit → Act → World → Prop) → Act → World → Prop
  | [], Q, a, w => Q .normal a w
  | c :: l, Q, a, w => c.wp P (Exit.then (wpL P l Q) Q) a w
theorem then_mono {K K' : Act → World → Prop} {Q Q' : Exit → Act → World → Prop} (hK : ∀ a w, K a w → K' a w) (hQ : ∀ e a w, Q e a w → Q' e a w) : ∀ e a w, Exit.then K Q e a w → Exit.then K' Q' e a w := by
  intro e a w h
  cases e <;> first | exact hK _ _ h | exact hQ _ _ _ h
theorem wpL_mono {Q Q' : Exit → Act → World → Prop} (hQ : ∀ e a w, Q e a w → Q' e a w) : ∀ (l : List Code) (a : Act) (w : World), wpL P l Q a w → wpL P l Q' a w
  | [], a, w, h => hQ _ _ _ h
  | c :: l, a, w, h => wp_mono h (then_mono (wpL_mono hQ l) hQ)
theorem wpL_append {Q : Exit → Act → World → Prop} : ∀ (l m : List Code) (a : Act) (w : World), wpL P l (Exit.then (wpL P m Q) Q) a w → wpL P (l ++ m) Q a w
  | [], m, a, w, h => h
  | c :: l, m, a, w, h => by
    refine wp_mono h fun e a' w' h' => ?_
    cases e <;> first | exact wpL_append l m _ _ h' | exact h'
theorem wp_spine {c : Code} : ∀ {Q : Exit → Act → World → Prop} {a : Act} {w : World}, wpL P (spine c) Q a w → c.wp P Q a w := by
  induction c with
  | seq x y ihx ihy =>
    intro Q a w h
    refine wp_seq (ihx ?_)
    have split : ∀ (l m : List Code) (a : Act) (w : World), wpL P (l ++ m) Q a w → wpL P l (Exit.then (wpL P m Q) Q) a w := by
      intro l m
      induction l with
      | nil => intro a w h; exact h
      | cons c l ih =>
        intro a w h
        refine wp_mono h fun e a' w' h' => ?_
        cases e <;> first | exact ih _ _ h' | exact h'
    refine wpL_mono (fun e a w h' => ?_) _ _ _ (split _ _ _ _ h)
    cases e <;> first | exact ihy h' | exact h'
  | _ =>
    intro Q a w h
    refine wp_mono h fun e a w h' => ?_
    cases e <;> exact h'
/-- a list of codes, carried out -/
noncomputable def runL {β : Type} (X : Ex β) (P : Program) (nt mask : Nat) : List Code → Fr → St → Kx β → Tree β
  | [], fr, s, k => k .norm fr s
  | c :: l, fr, s, k => X (tr P nt mask c) fr s fun ae fr s => AExit.rec (motive := fun _ => Tree β) (runL X P nt mask l fr s k) (k .ret fr s) (fun i => k (.exit i) fr s) (fun l => k (.goto l) fr s) ae
theorem runL_ok {X : Ex β} (hX : ExOk P X) (hnt : nt < 65536) {k : Kx β} {r : β} : ∀ (l : List Code) (fr : Fr) (s : St) (E : Mem) (w : World) (a : Act), (runL X P nt mask l fr s k).run ρ = some r → HRel ρ E s w → FrRel ρ nt mask E fr a →
    wpL P l (Post ρ nt mask E s w k r) a w
  | [], fr, s, E, w, a, h, hr, hf => ⟨.norm, fr, s, E, rfl, h, .refl .., hr, hf⟩
  | c :: l, fr, s, E, w, a, h, hr, hf => by
    refine wp_mono (wpIn_wide.1 (hX.code none ρ nt mask c fr s _ r E w a (.inl rfl) hnt h hr hf)) fun e a' w' hp => ?_
    obtain ⟨ae, fr', s', E', rfl, hk, hst, hr', hf'⟩ := hp
    cases ae with
    | norm => exact wpL_mono (fun e a w h' => h'.step hst) _ _ _ (runL_ok hX hnt l fr' s' E' w' a' hk hr' hf')
    | ret => exact ⟨.ret, fr', s', E', rfl, hk, hst, hr', hf'⟩
    | exit id => exact ⟨.exit id, fr', s', E', rfl, hk, hst, hr', hf'⟩
    | goto l => exact ⟨.goto l, fr', s', E', rfl, hk, hst, hr', hf'⟩
/-- CODE FROM A TEMPLATE: where the run comes to a leaf, the code comes to the leaf's template. -/
def LeafPost (nt mask : Nat) (w0 : World) (Ts : List Tpl) (ρ : Val) (leaf : Leaf) (e : Exit) (a' : Act) (w' : World) : Prop :=
  e = exA leaf.how ∧ leaf.hs.all (holeOk leaf.hs) = true ∧ ∃ T', Ts[leaf.j]? = some T' ∧ ∀ ρ', (∀ y ∈ leaf.hs, HoleIs ρ ρ' y) → SameV ρ ρ' → AtT nt mask w0 T' ρ' a' w'
theorem run_tpl {X : Ex Leaf} (hX : ExOk P X) {l : List Code} {T : Tpl} {Ts : List Tpl} {W : Option Win1} {asm : List (BE × Bool)} {leaf : Leaf} (hnt : nt < 65536) (hat : AtT nt mask w0 T ρ a w)
    (hW : ∀ W', W = some W' → WinOk ρ W' w0) (hfree : winFree W T = true) (hasm : AsmOk ρ asm)
    (hrun : (runL X P nt mask l T.fr (T.st W asm) (leafK Ts W)).run ρ = some leaf) : wpL P l (LeafPost nt mask w0 Ts ρ leaf) a w := by
  obtain ⟨E, hr, hf, hb, hown, hwc⟩ := start_tpl hat hW hfree hasm
  refine wpL_mono (fun e a' w' hp => ?_) _ _ _ (runL_ok hX hnt l _ _ E w a hrun hr hf)
  obtain ⟨ae, fr', s', E', rfl, hk, hst, hr', hf'⟩ := hp
  obtain ⟨hwin, hk⟩ := run_guardB (t := firstFit ae fr' s' Ts 0) hk
  obtain ⟨i, T', h1, h2, h3, h4⟩ := firstFit_ok hk
  refine ⟨by rw [h4], (fits_ok h3).ok, T', ?_, fun ρ' hh hsv => end_tpl (fits_ok h3) hwin hst hr' hf' hb hown hwc hh hsv⟩
  rw [← h1, Nat.zero_add]; exact h2
/-- .. where every leaf passes a check -/
theorem run_tpl_all {X : Ex Leaf} (hX : ExOk P X) {l : List Code} {T : Tpl} {Ts : List Tpl} {W : Option Win1} {asm : List (BE × Bool)} {p : Leaf → Bool} (hnt : nt < 65536) (hat : AtT nt mask w0 T ρ a w)
    (hW : ∀ W', W = some W' → WinOk ρ W' w0) (hfree : winFree W T = true) (hasm : AsmOk ρ asm)
    (hrun : (runL X P nt mask l T.fr (T.st W asm) (leafK Ts W)).all p = true) : wpL P l (fun e a' w' => ∃ leaf, p leaf = true ∧ LeafPost nt mask w0 Ts ρ leaf e a' w') a w := by
  obtain ⟨leaf, h1, h2⟩ := Tree.all_run ρ hrun
  exact wpL_mono (fun e a' w' h => ⟨leaf, h2, h⟩) _ _ _ (run_tpl hX hnt hat hW hfree hasm h1)
/-- a run of one piece of code -/
theorem wp_one {c : Code} {Q : Exit → Act → World → Prop} (h : wpL P [c] Q a w) : c.wp P Q a w :=
  wp_mono h fun e a' w' h' => by cases e <;> exact h'
/-- the arguments -/
theorem at_args {T : Tpl} {args : List AV} {us : List Value} {n : Nat} {hs : List Hole} (ha : cvs ρ E0w args = some us) (hle : args.length ≤ nt) (hfit : T.fits ⟨initT mask args 0 .lf, []⟩ ⟨.lf, posOf n, []⟩ = some hs)
    (hid : ∀ y ∈ hs, HoleIs ρ ρ y) : AtT nt mask w T ρ { tmps := us.toArray ++ Array.replicate (nt - us.toArray.size) undef, defers := [] } w := by
  refine end_tpl (ρ := ρ) (W := none) (s0 := ⟨.lf, posOf n, []⟩) (w := w) (fits_ok hfit) rfl (.refl E0w _ _) ⟨fun q b h => by simp at h, fun q q' b b' c o o' h => by simp at h, fun q b h => by simp at h, fun q x h => (by cases h), fun c b h => (by cases h)⟩
    (init_rel ha hle) (Below.refl _ _) (fun p b k o h => by simp at h) (fun W' h => (by cases h)) hid ⟨rfl, rfl⟩
/-- A LOOP BY TEMPLATES -/
theorem loop_tpl {b : Code} {Ts : List Tpl} {Inv : Val → Prop} {μ : Val → Nat} {id : Nat}
    (hstep : ∀ ρ T a w, T ∈ Ts → Inv ρ → AtT nt mask w0 T ρ a w → b.wp P (fun e a' w' => (e = .normal ∧ ∃ T' ρ', T' ∈ Ts ∧ Inv ρ' ∧ μ ρ' < μ ρ ∧ AtT nt mask w0 T' ρ' a' w') ∨ (e = .exit id ∧ ∃ T' ρ', T' ∈ Ts ∧ Inv ρ' ∧ AtT nt mask w0 T' ρ' a' w')) a w) :
    ∀ (m : Nat) (ρ : Val) (T : Tpl) (a : Act) (w : World), μ ρ < m → T ∈ Ts → Inv ρ → AtT nt mask w0 T ρ a w → LoopRun P none b (fun e a' w' => e = .exit id ∧ ∃ T' ρ', T' ∈ Ts ∧ Inv ρ' ∧ AtT nt mask w0 T' ρ' a' w') a w
  | 0, _, _, _, _, h, _, _, _ => absurd h (Nat.not_lt_zero _)
  | m + 1, ρ, T, a, w, h, hT, hI, hat => by
    refine .mk (wpIn_wide.2 (wp_mono (hstep ρ T a w hT hI hat) fun e a' w' hq => ?_))
    rcases hq with ⟨rfl, T', ρ', h1, h2, h3, h4⟩ | ⟨rfl, h1⟩
    · exact loop_tpl hstep m ρ' T' a' w' (by omega) h1 h2 h4
    · exact ⟨rfl, h1⟩
theorem block_loop_tpl {b : Code} {Ts : List Tpl} {Inv : Val → Prop} {μ : Val → Nat} {id : Nat}
    (hstep : ∀ ρ T a w, T ∈ Ts → Inv ρ → AtT nt mask w0 T ρ a w → b.wp P (fun e a' w' => (e = .normal ∧ ∃ T' ρ', T' ∈ Ts ∧ Inv ρ' ∧ μ ρ' < μ ρ ∧ AtT nt mask w0 T' ρ' a' w') ∨ (e = .exit id ∧ ∃ T' ρ', T' ∈ Ts ∧ Inv ρ' ∧ AtT nt mask w0 T' ρ' a' w')) a w)
    {ρ : Val} {T : Tpl} (hT : T ∈ Ts) (hI : Inv ρ) (hat : AtT nt mask w0 T ρ a w) : (Code.block id (.loop b)).wp P (fun e a' w' => e = .normal ∧ ∃ T' ρ', T' ∈ Ts ∧ Inv ρ' ∧ AtT nt mask w0 T' ρ' a' w') a w := by
  refine wp_block (wp_mono (wpIn_wide.1 (loop_tpl hstep (μ ρ + 1) ρ T a w (by omega) hT hI hat).wpIn) fun e a' w' h => ?_)
  obtain ⟨rfl, h⟩ := h
  show (if id = id then _ else _)
  rw [if_pos rfl]
  exact ⟨rfl, h⟩
/-- a function's call, by the spine of its body -/
theorem calls_spine {f : FuncId} {i : FnInfo} {fn : Func} {c : Code} {us : List Value} {R : Ending → World → Prop} (hi : InfoOk P f i fn c)
    (h : wpL P (spine c) (fun e a' w' => (e = .normal ∨ e = .ret) ∧ a'.defers = [] ∧ ∃ u, (results fn a'.tmps).run P w' = .ok u w' ∧ R (.returned u) w')
      { tmps := us.toArray ++ Array.replicate (i.ntmps - us.toArray.size) undef, defers := [] } w) : Calls P f us.toArray w R := by
  refine calls_of_wp_defers hi.func hi.body (wp_mono (wp_spine (by rw [← hi.nt]; exact h)) fun e a' w' hq => ?_)
  obtain ⟨he, hd, u, hres, hR⟩ := hq
  rcases he with rfl | rfl
  · show Leaves P fn a'.tmps R a'.defers .returning w'
    rw [hd]; exact ⟨u, hres, hR⟩
  · show Leaves P fn a'.tmps R a'.defers .returning w'
    rw [hd]; exact ⟨u, hres, hR⟩
/-- the end of a call at a template -/
theorem at_results {f : FuncId} {i : FnInfo} {fn : Func} {c : Code} {T : Tpl} {v : AV} (hi : InfoOk P f i fn c) (hat : AtT i.ntmps i.mask w0 T ρ a w) (hf : finish i T.fr (T.st none []) (fun v s => .ok v) = .ok v) :
    a.defers = [] ∧ ∃ u, (results fn a.tmps).run P w = .ok u w ∧ Below w0.heap.size w0 w ∧ ∃ E, cv ρ E v = some u := by
  obtain ⟨E, hr, hfr, hk, _⟩ := hat
  obtain ⟨v', u, h1, h2, h3⟩ := finish_ok (k := fun v s => .ok v) (r := v) hi.res hr hfr (show (finish i T.fr (T.st none []) (fun v s => .ok v)).run ρ = some v by rw [hf]; rfl)
  cases h3
  exact ⟨hfr.defs.nil_eq, u, h1, hk.below, E, h2⟩
/-- a closed call that gives a plain value and leaves the old memory alone: its summary -/
theorem sumOk_of {f : FuncId} {v : AV} {u : Value} (he : ∀ (as : Array Value) (w' : World), (callFunc f as).run P w' = .ok (.enter f as) w') (hv : ∀ ρ E, cv ρ E v = some u)
    (h : ∀ w : World, Calls P f #[] w fun e w' => e = .returned u ∧ w.heap.size ≤ w'.heap.size ∧ (∀ i, i < w.heap.size → w'.heap[i]? = w.heap[i]?) ∧ w'.os = w.os ∧ w'.output = w.output ∧ w'.tape = w.tape) :
    ∀ β : Type, SumOk P f (fun args s k => match args with | [] => k v s | _ => (.bad 300 : Tree β)) := by
  intro β ρ r args s k E w us hrun hr ha
  refine ⟨he, ?_⟩
  cases args with
  | cons _ _ => cases hrun
  | nil =>
    simp [cvs] at ha; subst ha
    refine Calls.mono (h w) ?_
    rintro e w' ⟨rfl, h1, h2, h3, h4, h5⟩
    refine ⟨v, u, s, E, rfl, hv ρ E, ⟨.refl E, Nat.le_refl _, fun _ _ => rfl, h1, fun k hk _ => h2 k hk, fun p b k o hp hl he => .inr ⟨p, b, o, hp, hl, he⟩, h3, h4, h5, fun _ _ _ _ h => h⟩, ⟨fun p b hp => ?_, hr.inj, hr.dom, hr.free, hr.asm⟩, hrun⟩
    refine (hr.blks p b hp).congr (.refl E) fun c o hl he => ?_
    obtain ⟨c', o', e1, e2⟩ := (hr.blks p b hp).lt hl
    rw [he] at e1; cases e1
    exact h2 _ e2
end Go.Ab
end

section
namespace Go.Ab
open Go.RowKit (Below)
variable {ρ ρ' : Val} {E E' : Mem} {P : Program} {β : Type} {s : St} {w w0 : World} {fr : Fr} {a : Act} {nt mask : Nat}
/-- what must hold where a function's body ends -/
def Fin (P : Program) (fn : Func) (R : Ending → World → Prop) (e : Exit) (a : Act) (w : World) : Prop :=
  (e = .normal ∨ e = .ret) ∧ a.defers = [] ∧ ∃ u, (results fn a.tmps).run P w = .ok u w ∧ R (.returned u) w
/-- A FUNCTION OF THE FORM: before, one loop, behind. -/
theorem calls_loop {f : FuncId} {i : FnInfo} {fn : Func} {c b : Code} {us : List Value} {R : Ending → World → Prop} {X : Ex Leaf} {pre suf : List Code} {id : Nat} {TA : Tpl} {TsP Ts TsS : List Tpl} {asm0 : List (BE × Bool)} {pP pS : Leaf → Bool}
    {Inv : Val → Prop} {μ : Val → Nat}
    (hi : InfoOk P f i fn c) (hX : ExOk P X) (hnt : i.ntmps = nt) (hlt : nt < 65536) (hspine : spine c = pre ++ (.block id (.loop b) :: suf))
    (hat0 : AtT nt mask w TA ρ { tmps := us.toArray ++ Array.replicate (i.ntmps - us.toArray.size) undef, defers := [] } w) (hfree : winFree none TA = true) (hasm : AsmOk ρ asm0)
    (hrunP : (runL X P nt mask pre TA.fr (TA.st none asm0) (leafK TsP none)).all pP = true)
    (hP : ∀ leaf e a' w', pP leaf = true → LeafPost nt mask w TsP ρ leaf e a' w' → (e = .normal ∧ ∃ T ρ, T ∈ Ts ∧ Inv ρ ∧ AtT nt mask w T ρ a' w') ∨ (e ≠ .normal ∧ Fin P fn R e a' w'))
    (hstep : ∀ ρ T a' w', T ∈ Ts → Inv ρ → AtT nt mask w T ρ a' w' → b.wp P (fun e a' w' => (e = .normal ∧ ∃ T' ρ', T' ∈ Ts ∧ Inv ρ' ∧ μ ρ' < μ ρ ∧ AtT nt mask w T' ρ' a' w') ∨ (e = .exit id ∧ ∃ T' ρ', T' ∈ Ts ∧ Inv ρ' ∧ AtT nt mask w T' ρ' a' w')) a' w')
    (hrunS : ∀ T, T ∈ Ts → winFree none T = true ∧ (runL X P nt mask suf T.fr (T.st none []) (leafK TsS none)).all pS = true)
    (hS : ∀ ρ leaf e a' w', Inv ρ → pS leaf = true → LeafPost nt mask w TsS ρ leaf e a' w' → Fin P fn R e a' w') : Calls P f us.toArray w R := by
  refine calls_spine hi ?_
  rw [hspine]
  refine wpL_append _ _ _ _ ?_
  refine wpL_mono (fun e a' w' h => ?_) _ _ _ (run_tpl_all hX hlt hat0 (fun W' hW => by cases hW) hfree hasm hrunP)
  obtain ⟨leaf, hp, hl⟩ := h
  rcases hP leaf e a' w' hp hl with ⟨rfl, T, ρ1, hT, hI, hat⟩ | ⟨hne, hfin⟩
  · show (Code.block id (.loop b)).wp P _ a' w'
    refine wp_mono (block_loop_tpl (μ := μ) hstep hT hI hat) fun e a2 w2 h2 => ?_
    obtain ⟨rfl, T2, ρ2, hT2, hI2, hat2⟩ := h2
    obtain ⟨hf2, hr2⟩ := hrunS T2 hT2
    show wpL P suf _ a2 w2
    refine wpL_mono (fun e a3 w3 h3 => ?_) _ _ _ (run_tpl_all hX hlt hat2 (fun W' hW => by cases hW) hf2 (fun c b hm => by cases hm) hr2)
    obtain ⟨leaf3, hp3, hl3⟩ := h3
    exact hS ρ2 leaf3 e a3 w3 hI2 hp3 hl3
  · cases e <;> first | exact absurd rfl hne | exact hfin
end Go.Ab
end

section
namespace Go.Ab
open Go.RowKit (Below)
variable {ρ ρ' : Val} {E E' : Mem} {P : Program} {β : Type} {s : St} {w w0 : World} {fr : Fr} {a : Act} {nt mask : Nat}
/-! ### runs that may stop where some conditions hold -/
def memB (x : BE × Bool) : List (BE × Bool) → Bool
  | [] => false
  | y :: l => (if x = y then true else false) || memB x l
def chkOr (p : β → Bool) (why : Nat) (Ls : List (List (BE × Bool))) : Tree β → List (BE × Bool) → Bool
  | .ok a, _ => p a
  | .bad n, path => Nat.beq n why && Ls.any fun L => L.all fun x => memB x path
  | .br c t e, path => chkOr p why Ls t ((c, true) :: path) && chkOr p why Ls e ((c, false) :: path)
theorem memB_mem {x : BE × Bool} : ∀ {l : List (BE × Bool)}, memB x l = true → x ∈ l
  | [], h => by cases h
  | y :: l, h => by
    simp only [memB, Bool.or_eq_true] at h
    rcases h with h | h
    · have := ite_true h; subst this; exact List.mem_cons_self
    · exact List.mem_cons_of_mem _ (memB_mem h)
theorem chkOr_ok {p : β → Bool} {why : Nat} {Ls : List (List (BE × Bool))} (ρ : Val) : ∀ {t : Tree β} {path : List (BE × Bool)}, chkOr p why Ls t path = true → AsmOk ρ path → (∃ r, t.run ρ = some r ∧ p r = true) ∨ ∃ L, L ∈ Ls ∧ AsmOk ρ L
  | .ok a, path, h, ha => .inl ⟨a, rfl, h⟩
  | .bad n, path, h, ha => by
    simp only [chkOr, Bool.and_eq_true] at h
    obtain ⟨L, hL, hall⟩ := List.any_eq_true.1 h.2
    refine .inr ⟨L, hL, fun c b hm => ha c b (memB_mem (List.all_eq_true.1 hall _ hm))⟩
  | .br c t e, path, h, ha => by
    simp only [chkOr, Bool.and_eq_true] at h
    by_cases hc : c.den ρ = true
    · rcases chkOr_ok ρ h.1 (path := (c, true) :: path) (fun c' b' hm => by
        rcases List.mem_cons.1 hm with e | hm
        · cases e; exact hc
        · exact ha _ _ hm) with ⟨r, h1, h2⟩ | h1
      · exact .inl ⟨r, by simp [Tree.run, hc, h1], h2⟩
      · exact .inr h1
    · rcases chkOr_ok ρ h.2 (path := (c, false) :: path) (fun c' b' hm => by
        rcases List.mem_cons.1 hm with e | hm
        · cases e; simpa using hc
        · exact ha _ _ hm) with ⟨r, h1, h2⟩ | h1
      · exact .inl ⟨r, by simp [Tree.run, hc, h1], h2⟩
      · exact .inr h1
/-! ### a function's start -/
structure StartOk (ρ : Val) (E : Mem) (W : Option Win1) (n : Nat) (asm : List (BE × Bool)) (w : World) : Prop where
  hr : HRel ρ E ⟨withWin W .lf, posOf n, asm⟩ w
  own : ∀ p b k o, (withWin W .lf).get p = some b → Live b → E.blk p = some (k, o) → OwnK w ρ W p b k
  wc : ∀ W', W = some W' → ∃ c o, E.blk (posOf W'.x) = some (c, o) ∧ c < w.heap.size ∧ w.heap[c]? = some (ρ.obj W'.x)
theorem start_plain {n : Nat} {asm : List (BE × Bool)} (ha : AsmOk ρ asm) : StartOk ρ E0w none n asm w :=
  ⟨⟨fun q b h => by simp [withWin] at h, fun q q' b b' c o o' h => by simp [withWin] at h, fun q b h => by simp [withWin] at h, fun q x h => (by cases h), ha⟩, fun p b k o h => by simp [withWin] at h, fun W' h => (by cases h)⟩
/-- one window, whose block's capacity is known -/
theorem start_win {W : Win1} {n c o cap : Nat} {asm : List (BE × Bool)} {us pre rest : List Value} {t : TypeId} {fz : Nat × Nat} (ha : AsmOk ρ asm) (hx : W.x < n) (h1 : (ρ.sv W.x).1 = some ⟨c, o, none⟩) (h2 : ρ.iv (W.x + 1) = 0) (h3 : 0 < ρ.iv W.x)
    (h4 : cvs ρ E0w W.cs = some us) (h5 : w.heap[c]? = some (.cells (pre ++ us ++ rest).toArray t fz)) (h6 : pre.length = o) (h7 : ρ.obj W.x = .cells (pre ++ us ++ rest).toArray t fz) :
    StartOk ρ (E0w.addAt (posOf W.x) c o cap) (some W) n asm w := by
  have hblk : ∀ p, (E0w.addAt (posOf W.x) c o cap).blk p = if p = posOf W.x then some (c, o) else none := fun p => rfl
  have hget : ∀ p b, (withWin (some W) .lf).get p = some b → p = posOf W.x ∧ b = .win W.x W.sz W.cs := by
    intro p b hp
    have hp : ((Trie.lf : Trie Blk).put (posOf W.x) (some (.win W.x W.sz W.cs))).get p = some b := hp
    rw [Trie.get_put] at hp
    by_cases e : p = posOf W.x
    · rw [if_pos e] at hp; cases hp; exact ⟨e, rfl⟩
    · rw [if_neg e] at hp; simp at hp
  have hc : c < w.heap.size := (Array.getElem?_eq_some_iff.1 h5).1
  have hz : (ρ.iv (W.x + 1)).toNat = 0 := by rw [h2]; rfl
  refine ⟨⟨?_, ?_, ?_, ?_, ha⟩, ?_, ?_⟩
  · intro p b hp
    obtain ⟨rfl, rfl⟩ := hget p b hp
    exact ⟨c, o, us, pre, rest, t, fz, by rw [hblk, if_pos rfl, hz, Nat.mul_zero, Nat.add_zero], cvs_mono (E0w_le _) h4, h5, by rw [hz, Nat.mul_zero, Nat.add_zero]; exact h6, h1, by omega, by omega, h7⟩
  · intro p q b b' k o1 o2 hp hq _ _ _ _
    left; rw [(hget p b hp).1, (hget q b' hq).1]
  · intro p b hp
    obtain ⟨rfl, rfl⟩ := hget p b hp
    show (posOf W.x).toNat < (posOf n).toNat
    rw [posOf_toNat, posOf_toNat]; omega
  · intro p x hp
    rw [hblk] at hp
    by_cases e : p = posOf W.x
    · rw [e]
      show (posOf W.x).toNat < (posOf n).toNat
      rw [posOf_toNat, posOf_toNat]; omega
    · rw [if_neg e] at hp; cases hp
  · intro p b k o' hp _ _
    exact .inr (.inl ⟨W, rfl, (hget p b hp).1⟩)
  · intro W' h
    cases h
    exact ⟨c, o, by rw [hblk, if_pos rfl], hc, by rw [h5, h7]⟩
/-- A FUNCTION IN TWO PIECES, with a template between them. -/
theorem calls_two {f : FuncId} {i : FnInfo} {fn : Func} {c : Code} {us : List Value} {args : List AV} {R : Ending → World → Prop} {X : Ex Leaf} {pre suf : List Code} {TB : Tpl} {TsA TsB : List Tpl} {asm : List (BE × Bool)} {pB : Leaf → Bool} {W : Option Win1} {n : Nat}
    {leaf : Leaf} {okB : Val → Prop}
    (hi : InfoOk P f i fn c) (hX : ExOk P X) (hnt : i.ntmps = nt) (hlt : nt < 65536) (hspine : spine c = pre ++ suf) (ha : cvs ρ E args = some us) (hle : args.length ≤ nt) (hs : StartOk ρ E W n asm w)
    (hrunA : (runL X P nt mask pre ⟨initT mask args 0 .lf, []⟩ ⟨withWin W .lf, posOf n, asm⟩ (leafK TsA W)).run ρ = some leaf)
    (hA : ∀ e a' w', LeafPost nt mask w TsA ρ leaf e a' w' → (e = .normal ∧ ∃ ρ, okB ρ ∧ AtT nt mask w TB ρ a' w') ∨ (e ≠ .normal ∧ Fin P fn R e a' w'))
    (hfree : winFree none TB = true)
    (hB : ∀ ρ, okB ρ → ∃ asmB, AsmOk ρ asmB ∧ (runL X P nt mask suf TB.fr (TB.st none asmB) (leafK TsB none)).all pB = true)
    (hS : ∀ ρ leaf e a' w', okB ρ → pB leaf = true → LeafPost nt mask w TsB ρ leaf e a' w' → Fin P fn R e a' w') : Calls P f us.toArray w R := by
  refine calls_spine hi ?_
  rw [hspine, hnt]
  refine wpL_append _ _ _ _ ?_
  refine wpL_mono (fun e a' w' hp => ?_) _ _ _ (runL_ok hX hlt pre _ _ E w _ hrunA hs.hr (init_rel ha hle))
  have hl : LeafPost nt mask w TsA ρ leaf e a' w' := by
    obtain ⟨ae, fr', s', E', rfl, hk, hst, hr', hf'⟩ := hp
    obtain ⟨hwin, hk⟩ := run_guardB (t := firstFit ae fr' s' TsA 0) hk
    obtain ⟨j, T', h1, h2, h3, h4⟩ := firstFit_ok hk
    refine ⟨by rw [h4], (fits_ok h3).ok, T', ?_, fun ρ' hh hsv => end_tpl (fits_ok h3) hwin hst hr' hf' (Below.refl _ _) hs.own hs.wc hh hsv⟩
    rw [← h1, Nat.zero_add]; exact h2
  rcases hA e a' w' hl with ⟨rfl, ρ1, hok, hat⟩ | ⟨hne, hfin⟩
  · show wpL P suf _ a' w'
    obtain ⟨asmB, hab, hrb⟩ := hB ρ1 hok
    refine wpL_mono (fun e a3 w3 h3 => ?_) _ _ _ (run_tpl_all hX hlt hat (fun W' hW => by cases hW) hfree hab hrb)
    obtain ⟨leaf3, hp3, hl3⟩ := h3
    exact hS ρ1 leaf3 e a3 w3 hok hp3 hl3
  · cases e <;> first | exact absurd rfl hne | exact hfin
end Go.Ab
end
