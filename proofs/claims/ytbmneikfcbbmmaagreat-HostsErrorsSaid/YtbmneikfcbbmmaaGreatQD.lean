/- Templates of states, loops by templates, templates up to a renaming of blocks, functions in segments. -/
import Derived.Test.YtbmneikfcbbmmaaGreatQC
import Derived.Below
import Derived.JoinedOf
import Derived.KernelRfl
set_option linter.unusedVariables false
set_option linter.unusedSimpArgs false
set_option linter.unusedSectionVars false
section
/-! TEMPLATES: states with holes; a run of code from a template to templates; a loop by templates. -/
namespace Go.Ab
open Go.RowKit (Below)

noncomputable section
/-! ### definitions -/
def tofC {α : Type} (x : Nat × α) (_ : List (Nat × α)) (ih : Trie α) : Trie α := ih.put (posOf x.1) (some x.2)
def tof {α : Type} (l : List (Nat × α)) : Trie α := List.rec (motive := fun _ => Trie α) .lf tofC l
inductive Hole | i (x : Nat) (e : IE) | b (x : Nat) (e : BE) | q (x : Nat) (e : IE) | ql (x n : Nat)
  deriving DecidableEq, Inhabited
def hB (x : Nat) : AV → Option (List Hole)
  | .bool b => some [.b x (.cmp .eql (.c 0) (.c (if b then 0 else 1)))]
  | .sbool e => some [.b x e]
  | _ => none
mutual
/-- a value without holes, whose blocks are known -/
def plainV (dom : Pos → Bool) : AV → Bool
  | .bool _ => true
  | .int _ _ => true
  | .str _ => true
  | .nilp => true
  | .nils => true
  | .nilm => true
  | .nilf => true
  | .nili => true
  | .ptr p _ => dom p
  | .slc p _ _ _ => dom p
  | .map p => dom p
  | .func _ a c => plainL dom a && plainL dom c
  | .iface _ v => plainV dom v
  | .agg l => plainL dom l
  | .tup l => plainL dom l
  | _ => false
def plainL (dom : Pos → Bool) : List AV → Bool
  | [] => true
  | v :: l => plainV dom v && plainL dom l
end
def joinH (a b : Option (List Hole)) : Option (List Hole) := match a, b with | some x, some y => some (x ++ y) | _, _ => none
mutual
/-- a template's value against another: what stands in the holes -/
def matchV (dom : Pos → Bool) (asm : List (BE × Bool)) : AV → AV → Option (List Hole)
  | .sint k (.v x), a => match a.asIE with | some y => bif kEq k y.k then some [.i x y.e] else none | none => none
  | .sbool (.v x), a => hB x a
  | .int k n, .sint j e => bif kEq k j && isYes (decideM (.cmp .eql e (.c n)) asm) true then some [] else none
  | .bool b, .sbool c => bif isYes (decideM (c.nrm true).c asm) (b == (c.nrm true).p) then some [] else none
  | .agg l, .agg m => matchL dom asm l m
  | .tup l, .tup m => matchL dom asm l m
  | .opq x, .opq y => bif Nat.beq x y then some [.i x (.v x)] else none
  | t, a => bif AV.same t a && plainV dom t then some [] else none
def matchL (dom : Pos → Bool) (asm : List (BE × Bool)) : List AV → List AV → Option (List Hole)
  | [], [] => some []
  | t :: l, a :: m => joinH (matchV dom asm t a) (matchL dom asm l m)
  | _, _ => none
end
def matchB (dom : Pos → Bool) (asm : List (BE × Bool)) : Blk → Blk → Option (List Hole)
  | .cells cs q, .cells ds r => bif q == r then matchL dom asm cs ds else none
  | .grow cs z, .grow ds y => bif Nat.beq z y then matchL dom asm cs ds else none
  | _, _ => none
def lookI (x : Nat) : List Hole → Option IE
  | [] => none
  | .i y e :: l => if y = x then some e else lookI x l
  | _ :: l => lookI x l
def lookB (x : Nat) : List Hole → Option BE
  | [] => none
  | .b y e :: l => if y = x then some e else lookB x l
  | _ :: l => lookB x l
def lookQ (x : Nat) : List Hole → Option IE
  | [] => none
  | .q y e :: l => if y = x then some e else lookQ x l
  | _ :: l => lookQ x l
/-- the length of a sequence of known numbers -/
def litLen : IE → Option Nat
  | .sl l => some l.length
  | .one _ => some 1
  | .app a b => (litLen a).bind fun x => (litLen b).map fun y => x + y
  | _ => none
def holeOk (hs : List Hole) : Hole → Bool
  | .q x e => if lookQ x hs = some e then true else false
  | .ql x n => match lookQ x hs with | some e => (match litLen e with | some m => Nat.beq m n | none => false) | none => false
  | .i x e => if lookI x hs = some e then true else false
  | .b x e => if lookB x hs = some e then true else false
structure Tpl where
  tmps : List (Nat × AV)
  heap : List (Nat × Blk)
  next : Nat
def Tpl.dom (T : Tpl) (p : Pos) : Bool := ((tof T.heap).get p).isSome
def matchTmps (dom : Pos → Bool) (asm : List (BE × Bool)) (fr : Fr) : List (Nat × AV) → Option (List Hole)
  | [] => some []
  | (t, v) :: l => match fr.tmps.get (posOf t) with
    | some a => joinH (matchV dom asm v a) (matchTmps dom asm fr l)
    | none => none
def matchHeap (dom : Pos → Bool) (asm : List (BE × Bool)) (h : Trie Blk) : List (Nat × Blk) → Option (List Hole)
  | [] => some []
  | (t, v) :: l => match h.get (posOf t) with
    | some a => joinH (matchB dom asm v a) (matchHeap dom asm h l)
    | none => none
def Tpl.below (T : Tpl) : Bool := T.heap.all fun x => Nat.blt x.1 T.next
def Tpl.fits (T : Tpl) (fr : Fr) (s : St) : Option (List Hole) :=
  match joinH (matchTmps T.dom s.asm fr T.tmps) (matchHeap T.dom s.asm s.heap T.heap) with
  | some hs => bif hs.all (holeOk hs) && noDefs fr && T.below then some hs else none
  | none => none
/-- a way that code comes to an end: how, in which template, with what in its holes -/
structure Leaf where
  how : AExit
  j : Nat
  hs : List Hole
def firstFit (ae : AExit) (fr : Fr) (s : St) : List Tpl → Nat → Tree Leaf
  | [], _ => .bad 400
  | T :: l, j => match T.fits fr s with
    | some hs => .ok ⟨ae, j, hs⟩
    | none => firstFit ae fr s l (j + 1)
/-- the window, if there is one, must still be there -/
structure Win1 where
  x : Nat
  sz : Nat
  cs : List AV
def winThere (W : Option Win1) (s : St) : Bool :=
  match W with
  | none => true
  | some W => match s.winAt (posOf W.x) with | some b => Nat.beq b.x W.x | none => false
def leafK (Ts : List Tpl) (W : Option Win1) : Kx Leaf := fun ae fr s => guardB (winThere W s) 401 (firstFit ae fr s Ts 0)
def Tree.all {β : Type} (p : β → Bool) : Tree β → Bool
  | .ok a => p a
  | .bad _ => false
  | .br _ t e => t.all p && e.all p
def withWin (W : Option Win1) (h : Trie Blk) : Trie Blk := match W with | none => h | some W => h.put (posOf W.x) (some (.win W.x W.sz W.cs))
def Tpl.fr (T : Tpl) : Fr := ⟨tof T.tmps, []⟩
def Tpl.st (T : Tpl) (W : Option Win1) (asm : List (BE × Bool)) : St := ⟨withWin W (tof T.heap), posOf T.next, asm⟩
end

/-! ### tries from lists -/
theorem get_tof {α : Type} : ∀ (l : List (Nat × α)) (n : Nat), (tof l).get (posOf n) = (l.find? fun x => x.1 == n).map (·.2)
  | [], n => Trie.get_lf _
  | x :: l, n => by
    show ((tof l).put (posOf x.1) (some x.2)).get (posOf n) = _
    rw [Trie.get_put]
    by_cases h : posOf n = posOf x.1
    · rw [if_pos h]
      have := posOf_inj h
      simp [this]
    · rw [if_neg h, get_tof l n]
      have : (x.1 == n) = false := by simp; intro e; exact h (by rw [e])
      simp [this]
theorem posOf_surj (p : Pos) : ∃ n, p = posOf n := by
  have : 1 ≤ p.toNat := by
    induction p with
    | xH => simp [Pos.toNat]
    | xO p ih => simp [Pos.toNat]; omega
    | xI p ih => simp [Pos.toNat]
  exact ⟨p.toNat - 1, Pos.toNat_inj (by rw [posOf_toNat]; omega)⟩
theorem mem_of_tof {α : Type} {l : List (Nat × α)} {p : Pos} {a : α} (h : (tof l).get p = some a) : ∃ n, p = posOf n ∧ (n, a) ∈ l := by
  obtain ⟨n, rfl⟩ := posOf_surj p
  rw [get_tof] at h
  obtain ⟨x, hx, rfl⟩ := Option.map_eq_some_iff.1 h
  have h1 := List.find?_some hx
  have h2 := List.mem_of_find?_eq_some hx
  refine ⟨n, rfl, ?_⟩
  have : x.1 = n := by simpa using h1
  rw [← this]; exact h2

/-! ### holes -/
variable {ρ ρ' : Val} {E E' : Mem} {P : Program} {β : Type} {s : St} {w : World} {fr : Fr} {a : Act} {nt mask : Nat}
/-- what a step may not change -/
structure SameV (ρ ρ' : Val) : Prop where
  sv : ρ'.sv = ρ.sv
  obj : ρ'.obj = ρ.obj
def HoleIs (ρ ρ' : Val) : Hole → Prop
  | .q x e => ρ'.qv x = e.sden ρ
  | .ql x n => (ρ'.qv x).length = n
  | .i x e => ρ'.iv x = e.den ρ
  | .b x e => ρ'.bv x = e.den ρ
structure Same (dom : Pos → Bool) (E E' : Mem) : Prop where
  blk : ∀ p, dom p = true → E'.blk p = E.blk p
  cap : ∀ p, dom p = true → E'.cap p = E.cap p
mutual
theorem plainV_ok {dom : Pos → Bool} (hS : Same dom E E') : ∀ {v : AV} {u : Value}, plainV dom v = true → cv ρ E v = some u → cv ρ' E' v = some u
  | .bool _, _, _, hu | .int _ _, _, _, hu | .str _, _, _, hu | .nilp, _, _, hu | .nils, _, _, hu | .nilm, _, _, hu | .nilf, _, _, hu | .nili, _, _, hu => by simpa [cv] using hu
  | .bad, _, h, _ | .sint _ _, _, h, _ | .sbool _, _, h, _ | .opq _, _, h, _ => by cases h
  | .ptr p o, u, h, hu => by
    simp only [cv] at hu ⊢
    rw [hS.blk p h]; exact hu
  | .slc p off len cap, u, h, hu => by
    simp only [cv] at hu ⊢
    rw [hS.blk p h]
    have : capOf E' p len cap = capOf E p len cap := by cases cap <;> simp [capOf, hS.cap p h]
    rw [this]; exact hu
  | .map p, u, h, hu => by
    simp only [cv] at hu ⊢
    rw [hS.blk p h]; exact hu
  | .func fn x c, u, h, hu => by
    simp only [plainV, Bool.and_eq_true] at h
    simp only [cv, Option.bind_eq_some_iff, Option.map_eq_some_iff] at hu ⊢
    obtain ⟨x, hx, y, hy, e⟩ := hu
    exact ⟨x, plainL_ok hS h.1 hx, y, plainL_ok hS h.2 hy, e⟩
  | .iface t v, u, h, hu => by
    simp only [cv, Option.map_eq_some_iff] at hu ⊢
    obtain ⟨x, hx, e⟩ := hu
    exact ⟨x, plainV_ok hS h hx, e⟩
  | .agg cs, u, h, hu => by
    simp only [cv, Option.map_eq_some_iff] at hu ⊢
    obtain ⟨x, hx, e⟩ := hu
    exact ⟨x, plainL_ok hS h hx, e⟩
  | .tup cs, u, h, hu => by
    simp only [cv, Option.map_eq_some_iff] at hu ⊢
    obtain ⟨x, hx, e⟩ := hu
    exact ⟨x, plainL_ok hS h hx, e⟩
theorem plainL_ok {dom : Pos → Bool} (hS : Same dom E E') : ∀ {l : List AV} {us : List Value}, plainL dom l = true → cvs ρ E l = some us → cvs ρ' E' l = some us
  | [], _, _, hu => by simpa [cvs] using hu
  | v :: l, us, h, hu => by
    simp only [plainL, Bool.and_eq_true] at h
    simp only [cvs, Option.bind_eq_some_iff, Option.map_eq_some_iff] at hu ⊢
    obtain ⟨x, hx, y, hy, e⟩ := hu
    exact ⟨x, plainV_ok hS h.1 hx, y, plainL_ok hS h.2 hy, e⟩
end
theorem joinH_eq {a b : Option (List Hole)} {hs : List Hole} (h : joinH a b = some hs) : ∃ x y, a = some x ∧ b = some y ∧ hs = x ++ y := by
  unfold joinH at h
  split at h
  · next x y => cases h; exact ⟨x, y, rfl, rfl, rfl⟩
  · cases h
theorem hB_ok {x : Nat} {v : AV} {hs : List Hole} {u : Value} (h : hB x v = some hs) (hh : ∀ y ∈ hs, HoleIs ρ ρ' y) (hu : cv ρ E v = some u) : cv ρ' E' (.sbool (.v x)) = some u := by
  cases v with
  | bool b =>
    cases h
    have := hh _ (List.mem_cons_self ..)
    simp only [HoleIs] at this
    simp [cv] at hu; subst hu
    simp only [cv, BE.den, this]
    cases b <;> rfl
  | sbool e =>
    cases h
    have := hh _ (List.mem_cons_self ..)
    simp only [HoleIs] at this
    simp [cv] at hu; subst hu
    simp only [cv, BE.den, this]
  | _ => cases h
mutual
theorem matchV_ok {dom : Pos → Bool} {asm : List (BE × Bool)} (hasm : AsmOk ρ asm) (hS : Same dom E E') (hsv : ρ'.sv = ρ.sv) : ∀ (t v : AV) (hs : List Hole) (u : Value), matchV dom asm t v = some hs → (∀ y ∈ hs, HoleIs ρ ρ' y) → cv ρ E v = some u → cv ρ' E' t = some u := by
  intro t v hs u h hh hu
  have plain : (bif AV.same t v && plainV dom t then some [] else none) = some hs → cv ρ' E' t = some u := by
    intro h
    cases hb : AV.same t v && plainV dom t with
    | false => rw [hb] at h; cases h
    | true =>
      rw [Bool.and_eq_true] at hb
      have := same_eq _ _ hb.1
      subst this
      exact plainV_ok hS hb.2 hu
  unfold matchV at h
  split at h
  · rename_i k x
    split at h
    · next y hy =>
      cases hk : kEq k y.k with
      | false => rw [hk] at h; cases h
      | true =>
        rw [hk] at h; cases h
        have := hh _ (List.mem_cons_self ..)
        simp only [HoleIs] at this
        rw [asIE_cv hy] at hu; cases hu
        simp only [cv, IE.den, this]
        have : k = y.k := (kEq_iff _ _).1 hk
        rw [this]
    · cases h
  · exact hB_ok h hh hu
  · next k n j e =>
    cases hb : kEq k j && isYes (decideM (.cmp .eql e (.c n)) asm) true with
    | false => rw [hb] at h; cases h
    | true =>
      rw [Bool.and_eq_true] at hb
      have hk := (kEq_iff _ _).1 hb.1
      have hd := decideM_ok hasm (isYes_eq hb.2)
      simp only [BE.den, cmpF, eqlF, IE.den, ieq_iff] at hd
      simp only [cv, hd, hk] at hu ⊢
      exact hu
  · next b c =>
    cases hb : isYes (decideM (c.nrm true).c asm) (b == (c.nrm true).p) with
    | false => rw [hb] at h; cases h
    | true =>
      have hd := decideM_ok hasm (isYes_eq hb)
      have hn := nrm_ok (ρ := ρ) c true
      rw [hd] at hn
      simp only [cv] at hu ⊢
      rw [← hu]
      congr 2
      revert hn
      cases b <;> cases (c.nrm true).p <;> cases c.den ρ <;> simp
  · next l m =>
    simp only [cv, Option.map_eq_some_iff] at hu ⊢
    obtain ⟨x, hx, e⟩ := hu
    exact ⟨x, matchL_ok hasm hS hsv l m hs x h hh hx, e⟩
  · next l m =>
    simp only [cv, Option.map_eq_some_iff] at hu ⊢
    obtain ⟨x, hx, e⟩ := hu
    exact ⟨x, matchL_ok hasm hS hsv l m hs x h hh hx, e⟩
  · next x y =>
    cases hb : Nat.beq x y with
    | false => rw [hb] at h; cases h
    | true =>
      rw [hb] at h; cases h
      have e : x = y := by simpa using hb
      subst e
      have := hh _ (List.mem_cons_self ..)
      simp only [HoleIs, IE.den] at this
      simp only [cv, this, hsv] at hu ⊢
      exact hu
  · exact plain h
theorem matchL_ok {dom : Pos → Bool} {asm : List (BE × Bool)} (hasm : AsmOk ρ asm) (hS : Same dom E E') (hsv : ρ'.sv = ρ.sv) : ∀ (t v : List AV) (hs : List Hole) (us : List Value), matchL dom asm t v = some hs → (∀ y ∈ hs, HoleIs ρ ρ' y) → cvs ρ E v = some us → cvs ρ' E' t = some us := by
  intro t v hs us h hh hu
  unfold matchL at h
  split at h
  · simpa [cvs] using hu
  · next t l a m =>
    obtain ⟨x, y, h1, h2, rfl⟩ := joinH_eq h
    simp only [cvs, Option.bind_eq_some_iff, Option.map_eq_some_iff] at hu ⊢
    obtain ⟨u, hu1, z, hz, e⟩ := hu
    exact ⟨u, matchV_ok hasm hS hsv t a x u h1 (fun q hq => hh q (List.mem_append_left _ hq)) hu1, z, matchL_ok hasm hS hsv l m y z h2 (fun q hq => hh q (List.mem_append_right _ hq)) hz, e⟩
  · cases h
end
end Go.Ab
end

section
namespace Go.Ab
open Go.RowKit (Below)
variable {ρ ρ' : Val} {E E' : Mem} {P : Program} {β : Type} {s : St} {w w0 : World} {fr : Fr} {a : Act} {nt mask : Nat}

noncomputable def subst (ρ : Val) (hs : List Hole) : Val where
  iv := fun x => match lookI x hs with | some e => e.den ρ | none => ρ.iv x
  bv := fun x => match lookB x hs with | some e => e.den ρ | none => ρ.bv x
  sv := ρ.sv
  obj := ρ.obj
  qv := fun x => match lookQ x hs with | some e => e.sden ρ | none => ρ.qv x
theorem litLen_ok : ∀ {e : IE} {n : Nat}, litLen e = some n → (e.sden ρ).length = n := by
  intro e
  induction e with
  | sl l => intro n h; cases h; simp [IE.sden]
  | one e _ => intro n h; cases h; simp [IE.sden]
  | app a b iha ihb =>
    intro n h
    simp only [litLen, Option.bind_eq_some_iff, Option.map_eq_some_iff] at h
    obtain ⟨x, hx, y, hy, rfl⟩ := h
    simp [IE.sden, iha hx, ihb hy]
  | _ => intro n h; cases h
theorem holes_ok {hs : List Hole} (h : hs.all (holeOk hs) = true) : ∀ y ∈ hs, HoleIs ρ (subst ρ hs) y := by
  intro y hy
  have h1 := List.all_eq_true.1 h y hy
  cases y with
  | i x e =>
    have h2 : lookI x hs = some e := ite_true h1
    simp only [HoleIs, subst, h2]
  | b x e =>
    have h2 : lookB x hs = some e := ite_true h1
    simp only [HoleIs, subst, h2]
  | q x e =>
    have h2 : lookQ x hs = some e := ite_true h1
    simp only [HoleIs, subst, h2]
  | ql x n =>
    simp only [holeOk] at h1
    split at h1
    · next e he =>
      split at h1
      · next m hm =>
        have : m = n := by simpa using h1
        subst this
        simp only [HoleIs, subst, he]
        exact litLen_ok hm
      · cases h1
    · cases h1
theorem subst_qv {hs : List Hole} {x : Nat} {e : IE} (h : lookQ x hs = some e) : (subst ρ hs).qv x = e.sden ρ := by simp [subst, h]
theorem subst_qv_none {hs : List Hole} {x : Nat} (h : lookQ x hs = none) : (subst ρ hs).qv x = ρ.qv x := by simp [subst, h]
theorem subst_iv {hs : List Hole} {x : Nat} {e : IE} (h : lookI x hs = some e) : (subst ρ hs).iv x = e.den ρ := by simp [subst, h]
theorem subst_iv_none {hs : List Hole} {x : Nat} (h : lookI x hs = none) : (subst ρ hs).iv x = ρ.iv x := by simp [subst, h]

/-! ### what a fit says -/
theorem matchTmps_mem {dom : Pos → Bool} {asm : List (BE × Bool)} : ∀ {l : List (Nat × AV)} {hs : List Hole}, matchTmps dom asm fr l = some hs → ∀ t v, (t, v) ∈ l → ∃ x hs', fr.tmps.get (posOf t) = some x ∧ matchV dom asm v x = some hs' ∧ ∀ y ∈ hs', y ∈ hs
  | [], _, _, t, v, hm => by cases hm
  | (t0, v0) :: l, hs, h, t, v, hm => by
    unfold matchTmps at h
    split at h
    · next x hx =>
      obtain ⟨h1, h2, e1, e2, rfl⟩ := joinH_eq h
      rcases List.mem_cons.1 hm with e | hm
      · cases e; exact ⟨x, h1, hx, e1, fun y hy => List.mem_append_left _ hy⟩
      · obtain ⟨x', hs', g1, g2, g3⟩ := matchTmps_mem e2 t v hm
        exact ⟨x', hs', g1, g2, fun y hy => List.mem_append_right _ (g3 y hy)⟩
    · cases h
theorem matchHeap_mem {dom : Pos → Bool} {asm : List (BE × Bool)} {hp : Trie Blk} : ∀ {l : List (Nat × Blk)} {hs : List Hole}, matchHeap dom asm hp l = some hs → ∀ t v, (t, v) ∈ l → ∃ x hs', hp.get (posOf t) = some x ∧ matchB dom asm v x = some hs' ∧ ∀ y ∈ hs', y ∈ hs
  | [], _, _, t, v, hm => by cases hm
  | (t0, v0) :: l, hs, h, t, v, hm => by
    unfold matchHeap at h
    split at h
    · next x hx =>
      obtain ⟨h1, h2, e1, e2, rfl⟩ := joinH_eq h
      rcases List.mem_cons.1 hm with e | hm
      · cases e; exact ⟨x, h1, hx, e1, fun y hy => List.mem_append_left _ hy⟩
      · obtain ⟨x', hs', g1, g2, g3⟩ := matchHeap_mem e2 t v hm
        exact ⟨x', hs', g1, g2, fun y hy => List.mem_append_right _ (g3 y hy)⟩
    · cases h
structure Fit (T : Tpl) (fr : Fr) (s : St) (hs : List Hole) : Prop where
  tmps : ∀ t v, (t, v) ∈ T.tmps → ∃ x hs', fr.tmps.get (posOf t) = some x ∧ matchV T.dom s.asm v x = some hs' ∧ ∀ y ∈ hs', y ∈ hs
  heap : ∀ t v, (t, v) ∈ T.heap → ∃ x hs', s.heap.get (posOf t) = some x ∧ matchB T.dom s.asm v x = some hs' ∧ ∀ y ∈ hs', y ∈ hs
  ok : hs.all (holeOk hs) = true
  defs : fr.defs = []
  below : T.below = true
theorem fits_ok {T : Tpl} {hs : List Hole} (h : T.fits fr s = some hs) : Fit T fr s hs := by
  unfold Tpl.fits at h
  split at h
  · next hs' hj =>
    obtain ⟨h1, h2, e1, e2, rfl⟩ := joinH_eq hj
    cases hb : (h1 ++ h2).all (holeOk (h1 ++ h2)) && noDefs fr && T.below with
    | false => rw [hb] at h; cases h
    | true =>
      rw [hb] at h; cases h
      simp only [Bool.and_eq_true] at hb
      refine ⟨fun t v hm => ?_, fun t v hm => ?_, hb.1.1, ?_, hb.2⟩
      · obtain ⟨x, hs', g1, g2, g3⟩ := matchTmps_mem e1 t v hm
        exact ⟨x, hs', g1, g2, fun y hy => List.mem_append_left _ (g3 y hy)⟩
      · obtain ⟨x, hs', g1, g2, g3⟩ := matchHeap_mem e2 t v hm
        exact ⟨x, hs', g1, g2, fun y hy => List.mem_append_right _ (g3 y hy)⟩
      · have := hb.1.2
        cases hd : fr.defs with
        | nil => rfl
        | cons _ _ => simp [noDefs, hd] at this
  · cases h
theorem firstFit_ok {ae : AExit} {leaf : Leaf} : ∀ {Ts : List Tpl} {j : Nat}, (firstFit ae fr s Ts j).run ρ = some leaf → ∃ i T, j + i = leaf.j ∧ Ts[i]? = some T ∧ T.fits fr s = some leaf.hs ∧ leaf.how = ae
  | [], j, h => by cases h
  | T :: l, j, h => by
    unfold firstFit at h
    split at h
    · next hs hf =>
      cases h
      exact ⟨0, T, rfl, rfl, hf, rfl⟩
    · obtain ⟨i, T', h1, h2, h3, h4⟩ := firstFit_ok h
      exact ⟨i + 1, T', by omega, by simpa using h2, h3, h4⟩

/-! ### a state at a template -/
structure Keep (ρ : Val) (w0 : World) (E : Mem) (h : Trie Blk) (w : World) : Prop where
  below : Below w0.heap.size w0 w
  own : ∀ p b k o, h.get p = some b → Live b → E.blk p = some (k, o) → w0.heap.size ≤ k ∨ ∃ x kd t, b = .ro x kd t ∧ w0.heap[k]? = some (ρ.obj x)
def AtT (nt mask : Nat) (w0 : World) (T : Tpl) (ρ : Val) (a : Act) (w : World) : Prop :=
  ∃ E, HRel ρ E ⟨tof T.heap, posOf T.next, []⟩ w ∧ FrRel ρ nt mask E ⟨tof T.tmps, []⟩ a ∧ Keep ρ w0 E (tof T.heap) w ∧ ∀ p, T.dom p = false → E.blk p = none
def E0w : Mem := ⟨fun _ => none, fun _ => 0⟩
def WinOk (ρ : Val) (W : Win1) (w0 : World) : Prop :=
  ∃ c o us pre rest t fz, (ρ.sv W.x).1 = some ⟨c, o, none⟩ ∧ 0 ≤ ρ.iv (W.x + 1) ∧ ρ.iv (W.x + 1) < ρ.iv W.x ∧ cvs ρ E0w W.cs = some us ∧ w0.heap[c]? = some (.cells (pre ++ us ++ rest).toArray t fz) ∧
    pre.length = o + W.sz * (ρ.iv (W.x + 1)).toNat ∧ ρ.obj W.x = .cells (pre ++ us ++ rest).toArray t fz
noncomputable def winFree (W : Option Win1) (T : Tpl) : Bool := match W with | none => true | some W => !T.dom (posOf W.x) && Nat.blt W.x T.next && T.heap.all (fun x => !x.2.isRo)
theorem E0w_le (E : Mem) : Mem.Le E0w E := ⟨fun _ _ h => (by cases h), fun _ _ h => (by cases h)⟩
theorem dom_none {T : Tpl} {p : Pos} (h : T.dom p = false) : (tof T.heap).get p = none := by
  unfold Tpl.dom at h
  cases hg : (tof T.heap).get p with
  | none => rfl
  | some _ => rw [hg] at h; cases h
theorem dom_some {T : Tpl} {p : Pos} {b : Blk} (h : (tof T.heap).get p = some b) : T.dom p = true := by unfold Tpl.dom; rw [h]; rfl

/-- a live block of the start: of the run's own, the window, or one that is only read -/
def OwnK (w0 : World) (ρ : Val) (W : Option Win1) (p : Pos) (b : Blk) (k : Nat) : Prop :=
  w0.heap.size ≤ k ∨ (∃ W', W = some W' ∧ p = posOf W'.x) ∨ ∃ x kd t, b = .ro x kd t ∧ w0.heap[k]? = some (ρ.obj x)
/-- the start: a template with its window -/
theorem start_tpl {T : Tpl} {W : Option Win1} {asm : List (BE × Bool)} (hat : AtT nt mask w0 T ρ a w) (hW : ∀ W', W = some W' → WinOk ρ W' w0) (hfree : winFree W T = true) (hasm : AsmOk ρ asm) :
    ∃ E, HRel ρ E (T.st W asm) w ∧ FrRel ρ nt mask E T.fr a ∧ Below w0.heap.size w0 w ∧
      (∀ p b k o, (T.st W asm).heap.get p = some b → Live b → E.blk p = some (k, o) → OwnK w0 ρ W p b k) ∧
      (∀ W', W = some W' → ∃ c o, E.blk (posOf W'.x) = some (c, o) ∧ c < w0.heap.size ∧ w0.heap[c]? = some (ρ.obj W'.x)) := by
  obtain ⟨E, hr, hf, hk, hn⟩ := hat
  cases W with
  | none =>
    refine ⟨E, ⟨hr.blks, hr.inj, hr.dom, hr.free, hasm⟩, hf, hk.below, fun p b k o h1 h2 h3 => (hk.own p b k o h1 h2 h3).imp id .inr, fun W' h => by cases h⟩
  | some W =>
    obtain ⟨c, o, us, pre, rest, t, fz, h1, h2, h3, h4, h5, h6, h7⟩ := hW W rfl
    simp only [winFree, Bool.and_eq_true, Bool.not_eq_true', Nat.blt_eq] at hfree
    obtain ⟨⟨hf1, hf2⟩, hf3⟩ := hfree
    have hown : ∀ p b k o, (tof T.heap).get p = some b → Live b → E.blk p = some (k, o) → w0.heap.size ≤ k := by
      intro p b k o g1 g2 g3
      rcases hk.own p b k o g1 g2 g3 with h | ⟨x, kd, t, rfl, _⟩
      · exact h
      · obtain ⟨n, _, hm⟩ := mem_of_tof g1
        have := List.all_eq_true.1 hf3 _ hm
        simp [Blk.isRo] at this
    have hnone := hn _ hf1
    have hle : Mem.Le E (E.addAt (posOf W.x) c (o + W.sz * (ρ.iv (W.x + 1)).toNat) 0) := Mem.le_addAt hnone
    have hold : ∀ q, q ≠ posOf W.x → (E.addAt (posOf W.x) c (o + W.sz * (ρ.iv (W.x + 1)).toNat) 0).blk q = E.blk q := fun q hq => by simp [Mem.addAt, hq]
    have hnew : (E.addAt (posOf W.x) c (o + W.sz * (ρ.iv (W.x + 1)).toNat) 0).blk (posOf W.x) = some (c, o + W.sz * (ρ.iv (W.x + 1)).toNat) := by simp [Mem.addAt]
    have hc : c < w0.heap.size := (Array.getElem?_eq_some_iff.1 h5).1
    have hcell : w.heap[c]? = some (.cells (pre ++ us ++ rest).toArray t fz) := by rw [hk.below.block c hc]; exact h5
    have hget : ∀ q, ((tof T.heap).put (posOf W.x) (some (.win W.x W.sz W.cs))).get q = if q = posOf W.x then some (.win W.x W.sz W.cs) else (tof T.heap).get q := fun q => by rw [Trie.get_put]
    have hnat : (posOf W.x).toNat < (posOf T.next).toNat := by rw [posOf_toNat, posOf_toNat]; omega
    refine ⟨E.addAt (posOf W.x) c (o + W.sz * (ρ.iv (W.x + 1)).toNat) 0, ⟨?_, ?_, ?_, ?_, hasm⟩, hf.mono hle, hk.below, ?_, fun W' h => ?_⟩
    · intro p b hp
      have hp : ((tof T.heap).put (posOf W.x) (some (.win W.x W.sz W.cs))).get p = some b := hp
      rw [hget] at hp
      by_cases e : p = posOf W.x
      · rw [if_pos e] at hp; cases hp
        subst e
        exact ⟨c, o, us, pre, rest, t, fz, hnew, cvs_mono (E0w_le _) h4, hcell, h6, h1, h2, h3, h7⟩
      · rw [if_neg e] at hp
        exact (hr.blks p b hp).congr hle fun _ _ _ _ => rfl
    · intro p q b b' k o1 o2 hp hq hl hl' he he'
      have hp : ((tof T.heap).put (posOf W.x) (some (.win W.x W.sz W.cs))).get p = some b := hp
      have hq : ((tof T.heap).put (posOf W.x) (some (.win W.x W.sz W.cs))).get q = some b' := hq
      rw [hget] at hp hq
      by_cases e : p = posOf W.x
      · by_cases e' : q = posOf W.x
        · left; rw [e, e']
        · rw [if_neg e'] at hq
          rw [e, hnew] at he; cases he
          rw [hold q e'] at he'
          have := hown q b' _ o2 hq hl' he'
          omega
      · rw [if_neg e] at hp
        rw [hold p e] at he
        by_cases e' : q = posOf W.x
        · rw [e', hnew] at he'; cases he'
          have := hown p b _ o1 hp hl he
          omega
        · rw [if_neg e'] at hq
          rw [hold q e'] at he'
          exact hr.inj p q b b' k o1 o2 hp hq hl hl' he he'
    · intro p b hp
      have hp : ((tof T.heap).put (posOf W.x) (some (.win W.x W.sz W.cs))).get p = some b := hp
      rw [hget] at hp
      by_cases e : p = posOf W.x
      · rw [e]; exact hnat
      · rw [if_neg e] at hp; exact hr.dom p b hp
    · intro p x hp
      by_cases e : p = posOf W.x
      · rw [e]; exact hnat
      · rw [hold p e] at hp; exact hr.free p x hp
    · intro p b k o' hp hl he
      have hp : ((tof T.heap).put (posOf W.x) (some (.win W.x W.sz W.cs))).get p = some b := hp
      rw [hget] at hp
      by_cases e : p = posOf W.x
      · exact .inr (.inl ⟨W, rfl, e⟩)
      · rw [if_neg e] at hp
        rw [hold p e] at he
        exact .inl (hown p b k o' hp hl he)
    · cases h
      exact ⟨c, _, hnew, hc, by rw [h5, h7]⟩
/-- what was there before stays -/
theorem frame_end {W : Option Win1} {s0 s' : St} {E1 E' : Mem} {w w' : World} (hwin : winThere W s' = true) (hst : Step E1 s0 w E' s' w') (hr' : HRel ρ E' s' w') (hb : Below w0.heap.size w0 w)
    (hown : ∀ p b k o, s0.heap.get p = some b → Live b → E1.blk p = some (k, o) → OwnK w0 ρ W p b k)
    (hwc : ∀ W', W = some W' → ∃ c o, E1.blk (posOf W'.x) = some (c, o) ∧ c < w0.heap.size ∧ w0.heap[c]? = some (ρ.obj W'.x)) {k : Nat} (hk : k < w0.heap.size) : w'.heap[k]? = w0.heap[k]? := by
  rw [← hb.block k hk]
  by_cases hro : ∃ p o x kd t, s0.heap.get p = some (.ro x kd t) ∧ E1.blk p = some (k, o)
  · obtain ⟨p, o, x, kd, t, h1, h2⟩ := hro
    obtain ⟨c2, o2, pre, rest, t2, fz, g1, g2, g3, g4, g5⟩ := hr'.blks _ _ (hst.ro p x kd t h1)
    rw [hst.le.blk _ _ h2] at g1
    cases g1
    rw [hb.block k hk]
    rcases hown p _ k o h1 (by simp [Live]) h2 with h | ⟨W', hW', hp⟩ | ⟨x', kd', t', e, h⟩
    · omega
    · obtain ⟨c, o', hc1, hc2, hc3⟩ := hwc W' hW'
      subst hp
      rw [h2] at hc1
      cases hc1
      subst hW'
      have hwin : (match s'.winAt (posOf W'.x) with | some b => Nat.beq b.x W'.x | none => false) = true := hwin
      have hg := hst.ro _ x kd t h1
      unfold St.winAt at hwin
      rw [hg] at hwin
      simp [Blk.asWin] at hwin
    · cases e
      rw [g2, h, g5]
  · have key : (∀ W', W = some W' → ∀ o, E1.blk (posOf W'.x) ≠ some (k, o)) → w'.heap[k]? = w.heap[k]? := fun hno => by
      refine hst.frame k (Nat.lt_of_lt_of_le hk hb.size) fun p b o hp hl he => ?_
      rcases hown p b k o hp hl he with h1 | ⟨W', h1, h2⟩ | ⟨x, kd, t, rfl, _⟩
      · omega
      · rw [h2] at he; exact hno W' h1 o he
      · exact hro ⟨p, o, x, kd, t, hp, he⟩
    cases W with
    | none => exact key fun W' h => by cases h
    | some W =>
      obtain ⟨c, o, hc1, hc2, hc3⟩ := hwc W rfl
      by_cases hkc : k = c
      · subst hkc
        have hwin : (match s'.winAt (posOf W.x) with | some b => Nat.beq b.x W.x | none => false) = true := hwin
        split at hwin
        · next b hb' =>
          have hbx : b.x = W.x := by simpa using hwin
          obtain ⟨cs, hblk'⟩ := St.winAt_eq hb'
          obtain ⟨c2, o2, us, pre, rest, t, fz, h1, h2, h3, h4, h5, h6, h7, h8⟩ := hr'.blks _ _ hblk'
          rw [hst.le.blk _ _ hc1] at h1
          cases h1
          rw [h3, hb.block _ hk, hc3, ← hbx, h8]
        · cases hwin
      · exact key fun W' h o' he => by
          cases h
          rw [hc1] at he
          cases he
          exact hkc rfl
/-- where a live block lies at the end -/
theorem own_end {W : Option Win1} {s0 s' : St} {E1 E' : Mem} {w w' : World} (hwin : winThere W s' = true) (hst : Step E1 s0 w E' s' w') (hr' : HRel ρ E' s' w') (hb : Below w0.heap.size w0 w)
    (hown : ∀ p b k o, s0.heap.get p = some b → Live b → E1.blk p = some (k, o) → OwnK w0 ρ W p b k)
    {q : Pos} {b' : Blk} {k o : Nat} (g1 : s'.heap.get q = some b') (hl' : Live b') (hnw : ∀ x sz cs, b' ≠ .win x sz cs) (he : E'.blk q = some (k, o)) : w0.heap.size ≤ k ∨ ∃ x kd t, b' = .ro x kd t ∧ w0.heap[k]? = some (ρ.obj x) := by
  rcases hst.img _ b' k o g1 hl' he with h1 | ⟨p, b2, o2, hq, hl2, he2⟩
  · exact .inl (Nat.le_trans hb.size h1)
  · rcases hown p b2 k o2 hq hl2 he2 with h1 | ⟨W', rfl, rfl⟩ | ⟨x, kd, t, rfl, h3⟩
    · exact .inl h1
    · exfalso
      have hwin : (match s'.winAt (posOf W'.x) with | some b => Nat.beq b.x W'.x | none => false) = true := hwin
      split at hwin
      · next b3 hb3 =>
        obtain ⟨cs, hblk'⟩ := St.winAt_eq hb3
        rcases hr'.inj _ _ _ _ k o o2 g1 hblk' hl' (by simp [Live]) he (hst.le.blk _ _ he2) with hpq | ⟨_, e⟩
        · rw [hpq, hblk'] at g1
          cases g1
          exact hnw _ _ _ rfl
        · cases e
      · cases hwin
    · have hp := hst.ro p x kd t hq
      have hE := hst.le.blk _ _ he2
      have same : ∀ x1 k1 t1, b' = .ro x1 k1 t1 → w0.heap[k]? = some (ρ.obj x1) := by
        rintro x1 k1 t1 rfl
        obtain ⟨c2, o3, pre, rest, t2, fz, e1, e2, e3, e4, e5⟩ := hr'.blks _ _ g1
        rw [he] at e1; cases e1
        obtain ⟨c3, o4, pre', rest', t3, fz', f1, f2, f3, f4, f5⟩ := hr'.blks _ _ hp
        rw [hE] at f1; cases f1
        rw [h3, f5, ← f2, e2, e5]
      rcases hr'.inj _ _ _ _ k o o2 g1 hp hl' (by simp [Live]) he hE with hpq | ⟨e, _⟩
      · rw [hpq, hp] at g1
        cases g1
        exact .inr ⟨x, kd, t, rfl, h3⟩
      · cases b' <;> first | (cases e; done) | exact .inr ⟨_, _, _, rfl, same _ _ _ rfl⟩
/-- the end: a fit is a state at the template -/
theorem end_tpl {ρ' : Val} {T' : Tpl} {W : Option Win1} {fr' : Fr} {s0 s' : St} {E1 E' : Mem} {w w' : World} {a' : Act} {hs : List Hole} (hfit : Fit T' fr' s' hs) (hwin : winThere W s' = true)
    (hst : Step E1 s0 w E' s' w') (hr' : HRel ρ E' s' w') (hf' : FrRel ρ nt mask E' fr' a') (hb : Below w0.heap.size w0 w)
    (hown : ∀ p b k o, s0.heap.get p = some b → Live b → E1.blk p = some (k, o) → OwnK w0 ρ W p b k)
    (hwc : ∀ W', W = some W' → ∃ c o, E1.blk (posOf W'.x) = some (c, o) ∧ c < w0.heap.size ∧ w0.heap[c]? = some (ρ.obj W'.x))
    (hholes : ∀ y ∈ hs, HoleIs ρ ρ' y) (hsv0 : SameV ρ ρ') : AtT nt mask w0 T' ρ' a' w' := by
  have hsv := hsv0.sv
  have hS : Same T'.dom E' ⟨fun p => if T'.dom p = true then E'.blk p else none, E'.cap⟩ := ⟨fun p hp => by simp [hp], fun p hp => rfl⟩
  have hblk : ∀ p b, (tof T'.heap).get p = some b → ∃ n b' hs', p = posOf n ∧ (n, b) ∈ T'.heap ∧ s'.heap.get p = some b' ∧ matchB T'.dom s'.asm b b' = some hs' ∧ ∀ y ∈ hs', y ∈ hs := by
    intro p b hp
    obtain ⟨n, rfl, hm⟩ := mem_of_tof hp
    obtain ⟨x, hs', g1, g2, g3⟩ := hfit.heap n b hm
    exact ⟨n, x, hs', rfl, hm, g1, g2, g3⟩
  have hlive : ∀ b b' hs', matchB T'.dom s'.asm b b' = some hs' → Live b' ∧ (∀ x sz cs, b' ≠ .win x sz cs) ∧ b'.isRo = false := by
    intro b b' hs' hm
    cases b <;> cases b' <;> first | (cases hm; done) | (exact ⟨by simp [Live], by simp, rfl⟩)
  have hlt : ∀ n b, (n, b) ∈ T'.heap → n < T'.next := by
    intro n b hm
    have := List.all_eq_true.1 hfit.below (n, b) hm
    simpa using this
  have hE : ∀ p b, (tof T'.heap).get p = some b → (⟨fun p => if T'.dom p = true then E'.blk p else none, E'.cap⟩ : Mem).blk p = E'.blk p := fun p b hp => by simp [dom_some hp]
  refine ⟨⟨fun p => if T'.dom p = true then E'.blk p else none, E'.cap⟩, ⟨?_, ?_, ?_, ?_, fun c b h => by cases h⟩, ⟨hf'.size, ?_, ?_, ?_⟩, ⟨?_, ?_⟩, fun p hp => by simp [hp]⟩
  · intro p b hp
    obtain ⟨n, b', hs', rfl, hm, g1, g2, g3⟩ := hblk p b hp
    have hbr := hr'.blks _ _ g1
    have hEp := hE _ _ hp
    cases b <;> cases b' <;> first | (cases g2; done) | skip
    · next cs q ds r =>
      simp only [matchB] at g2
      cases hq : q == r with
      | false => rw [hq] at g2; cases g2
      | true =>
        rw [hq] at g2
        have : q = r := by simpa using hq
        subst this
        obtain ⟨c, o, us, pre, rest, t, fz, h1, h2, h3, h4, h5, h6⟩ := hbr
        exact ⟨c, o, us, pre, rest, t, fz, by rw [hEp]; exact h1, matchL_ok (ρ := ρ) (ρ' := ρ') hr'.asm hS hsv _ _ _ _ g2 (fun y hy => hholes y (g3 y hy)) h2, h3, h4, h5, h6⟩
    · next cs z ds y =>
      simp only [matchB] at g2
      cases hq : Nat.beq z y with
      | false => rw [hq] at g2; cases g2
      | true =>
        rw [hq] at g2
        have : z = y := by simpa using hq
        subst this
        obtain ⟨c, o, us, pre, rest, t, fz, h1, h2, h3, h4, h5, h6⟩ := hbr
        exact ⟨c, o, us, pre, rest, t, fz, by rw [hEp]; exact h1, matchL_ok (ρ := ρ) (ρ' := ρ') hr'.asm hS hsv _ _ _ _ g2 (fun y hy => hholes y (g3 y hy)) h2, h3, h4, h5, h6⟩
  · intro p q b1 b2 c o o' hp hq hl hl' he he'
    obtain ⟨n, b', hs', rfl, hm, g1, g2, g3⟩ := hblk p b1 hp
    obtain ⟨n2, b2', hs2', rfl, hm2, k1, k2, k3⟩ := hblk q b2 hq
    rw [hE _ _ hp] at he
    rw [hE _ _ hq] at he'
    exact .inl ((hr'.inj _ _ _ _ c o o' g1 k1 (hlive _ _ _ g2).1 (hlive _ _ _ k2).1 he he').resolve_right fun e => by rw [(hlive _ _ _ g2).2.2] at e; cases e.1)
  · intro p b hp
    obtain ⟨n, b', hs', rfl, hm, g1, g2, g3⟩ := hblk p b hp
    have := hlt n b hm
    show (posOf n).toNat < (posOf T'.next).toNat
    rw [posOf_toNat, posOf_toNat]; omega
  · intro p x hp
    by_cases hd : T'.dom p = true
    · cases hg : (tof T'.heap).get p with
      | none => unfold Tpl.dom at hd; rw [hg] at hd; cases hd
      | some b =>
        obtain ⟨n, b', hs', rfl, hm, g1, g2, g3⟩ := hblk p b hg
        have := hlt n b hm
        show (posOf n).toNat < (posOf T'.next).toNat
        rw [posOf_toNat, posOf_toNat]; omega
    · simp [hd] at hp
  · intro t v hv
    obtain ⟨n, hn, hm⟩ := mem_of_tof hv
    have := posOf_inj hn
    subst this
    obtain ⟨x, hs', g1, g2, g3⟩ := hfit.tmps t v hm
    exact matchV_ok (ρ := ρ) (ρ' := ρ') hr'.asm hS hsv _ _ _ _ g2 (fun y hy => hholes y (g3 y hy)) (hf'.val t x g1)
  · intro t v hv
    obtain ⟨n, hn, hm⟩ := mem_of_tof hv
    have := posOf_inj hn
    subst this
    obtain ⟨x, hs', g1, g2, g3⟩ := hfit.tmps t v hm
    exact hf'.key t x g1
  · have := hf'.defs
    rw [hfit.defs] at this
    show DRel _ _ [] a'.defers
    rw [this.nil_eq]; exact .nil
  · exact ⟨hst.os.trans hb.os, hst.tape.trans hb.tape, hst.out.trans hb.output, Nat.le_trans hb.size hst.size, fun k hk => frame_end hwin hst hr' hb hown hwc hk⟩
  · intro p b k o hp hl he
    rw [hE _ _ hp] at he
    obtain ⟨n, b', hs', rfl, hm, g1, g2, g3⟩ := hblk p b hp
    obtain ⟨hl', hnw, hnr⟩ := hlive _ _ _ g2
    rcases own_end hwin hst hr' hb hown g1 hl' hnw he with h | ⟨x, kd, t, rfl, _⟩
    · exact .inl h
    · cases hnr

theorem Tree.all_run {β : Type} {p : β → Bool} (ρ : Val) : ∀ {t : Tree β}, t.all p = true → ∃ r, t.run ρ = some r ∧ p r = true
  | .ok a, h => ⟨a, rfl, h⟩
  | .bad _, h => by cases h
  | .br c t e, h => by
    simp only [Tree.all, Bool.and_eq_true] at h
    obtain ⟨r1, h1, h2⟩ := Tree.all_run ρ h.1
    obtain ⟨r2, h3, h4⟩ := Tree.all_run ρ h.2
    by_cases hc : c.den ρ = true
    · exact ⟨r1, by simp [Tree.run, hc, h1], h2⟩
    · exact ⟨r2, by simp [Tree.run, hc, h3], h4⟩

/-! ### the spine of a body -/
def spine : Code → List Code
  | .seq a b => spine a ++ spine b
  | c => [c]
def wpL (P : Program) : List Code → (Exit → Act → World → Prop) → Act → World → Prop
  | [], Q, a, w => Q .normal a w
  | c :: l, Q, a, w => c.wp P (Exit.then (wpL P l Q) Q) a w
theorem then_mono {K K' : Act → World → Prop} {Q Q' : Exit → Act → World → Prop} (hK : ∀ a w, K a w → K' a w) (hQ : ∀ e a w, Q e a w → Q' e a w) : ∀ e a w, Exit.then K Q e a w → Exit.then K' Q' e a w := by
  intro e a w h
  cases e <;> first | exact hK _ _ h | exact hQ _ _ _ h
theorem wpL_mono {Q Q' : Exit → Act → World → Prop} (hQ : ∀ e a w, Q e a w → Q' e a w) : ∀ (l : List Code) (a : Act) (w : World), wpL P l Q a w → wpL P l Q' a w
  | [], a, w, h => hQ _ _ _ h
  | c :: l, a, w, h => wp_mono h (then_mono (wpL_mono hQ l) hQ)
theorem wpL_append {Q : Exit → Act → World → Prop} : ∀ (l m : List Code) (a : Act) (w : World), wpL P l (Exit.then (wpL P m Q) Q) a w → wpL P (l ++ m) Q a w
  | [], m, a, w, h => h
  | c :: l, m, a, w, h => by
    refine wp_mono h fun e a' w' h' => ?_
    cases e <;> first | exact wpL_append l m _ _ h' | exact h'
theorem wp_spine {c : Code} : ∀ {Q : Exit → Act → World → Prop} {a : Act} {w : World}, wpL P (spine c) Q a w → c.wp P Q a w := by
  induction c with
  | seq x y ihx ihy =>
    intro Q a w h
    refine wp_seq (ihx ?_)
    have split : ∀ (l m : List Code) (a : Act) (w : World), wpL P (l ++ m) Q a w → wpL P l (Exit.then (wpL P m Q) Q) a w := by
      intro l m
      induction l with
      | nil => intro a w h; exact h
      | cons c l ih =>
        intro a w h
        refine wp_mono h fun e a' w' h' => ?_
        cases e <;> first | exact ih _ _ h' | exact h'
    refine wpL_mono (fun e a w h' => ?_) _ _ _ (split _ _ _ _ h)
    cases e <;> first | exact ihy h' | exact h'
  | _ =>
    intro Q a w h
    refine wp_mono h fun e a w h' => ?_
    cases e <;> exact h'
/-- a list of codes, carried out -/
noncomputable def runL {β : Type} (X : Ex β) (P : Program) (nt mask : Nat) : List Code → Fr → St → Kx β → Tree β
  | [], fr, s, k => k .norm fr s
  | c :: l, fr, s, k => X (tr P nt mask c) fr s fun ae fr s => AExit.rec (motive := fun _ => Tree β) (runL X P nt mask l fr s k) (k .ret fr s) (fun i => k (.exit i) fr s) (fun l => k (.goto l) fr s) ae
theorem runL_ok {X : Ex β} (hX : ExOk P X) (hnt : nt < 65536) {k : Kx β} {r : β} : ∀ (l : List Code) (fr : Fr) (s : St) (E : Mem) (w : World) (a : Act), (runL X P nt mask l fr s k).run ρ = some r → HRel ρ E s w → FrRel ρ nt mask E fr a →
    wpL P l (Post ρ nt mask E s w k r) a w
  | [], fr, s, E, w, a, h, hr, hf => ⟨.norm, fr, s, E, rfl, h, .refl .., hr, hf⟩
  | c :: l, fr, s, E, w, a, h, hr, hf => by
    refine wp_mono (wpIn_wide.1 (hX.code none ρ nt mask c fr s _ r E w a (.inl rfl) hnt h hr hf)) fun e a' w' hp => ?_
    obtain ⟨ae, fr', s', E', rfl, hk, hst, hr', hf'⟩ := hp
    cases ae with
    | norm => exact wpL_mono (fun e a w h' => h'.step hst) _ _ _ (runL_ok hX hnt l fr' s' E' w' a' hk hr' hf')
    | ret => exact ⟨.ret, fr', s', E', rfl, hk, hst, hr', hf'⟩
    | exit id => exact ⟨.exit id, fr', s', E', rfl, hk, hst, hr', hf'⟩
    | goto l => exact ⟨.goto l, fr', s', E', rfl, hk, hst, hr', hf'⟩
/-- CODE FROM A TEMPLATE: where the run comes to a leaf, the code comes to the leaf's template. -/
def LeafPost (nt mask : Nat) (w0 : World) (Ts : List Tpl) (ρ : Val) (leaf : Leaf) (e : Exit) (a' : Act) (w' : World) : Prop :=
  e = exA leaf.how ∧ leaf.hs.all (holeOk leaf.hs) = true ∧ ∃ T', Ts[leaf.j]? = some T' ∧ ∀ ρ', (∀ y ∈ leaf.hs, HoleIs ρ ρ' y) → SameV ρ ρ' → AtT nt mask w0 T' ρ' a' w'
theorem run_tpl {X : Ex Leaf} (hX : ExOk P X) {l : List Code} {T : Tpl} {Ts : List Tpl} {W : Option Win1} {asm : List (BE × Bool)} {leaf : Leaf} (hnt : nt < 65536) (hat : AtT nt mask w0 T ρ a w)
    (hW : ∀ W', W = some W' → WinOk ρ W' w0) (hfree : winFree W T = true) (hasm : AsmOk ρ asm)
    (hrun : (runL X P nt mask l T.fr (T.st W asm) (leafK Ts W)).run ρ = some leaf) : wpL P l (LeafPost nt mask w0 Ts ρ leaf) a w := by
  obtain ⟨E, hr, hf, hb, hown, hwc⟩ := start_tpl hat hW hfree hasm
  refine wpL_mono (fun e a' w' hp => ?_) _ _ _ (runL_ok hX hnt l _ _ E w a hrun hr hf)
  obtain ⟨ae, fr', s', E', rfl, hk, hst, hr', hf'⟩ := hp
  obtain ⟨hwin, hk⟩ := run_guardB (t := firstFit ae fr' s' Ts 0) hk
  obtain ⟨i, T', h1, h2, h3, h4⟩ := firstFit_ok hk
  refine ⟨by rw [h4], (fits_ok h3).ok, T', ?_, fun ρ' hh hsv => end_tpl (fits_ok h3) hwin hst hr' hf' hb hown hwc hh hsv⟩
  rw [← h1, Nat.zero_add]; exact h2
/-- .. where every leaf passes a check -/
theorem run_tpl_all {X : Ex Leaf} (hX : ExOk P X) {l : List Code} {T : Tpl} {Ts : List Tpl} {W : Option Win1} {asm : List (BE × Bool)} {p : Leaf → Bool} (hnt : nt < 65536) (hat : AtT nt mask w0 T ρ a w)
    (hW : ∀ W', W = some W' → WinOk ρ W' w0) (hfree : winFree W T = true) (hasm : AsmOk ρ asm)
    (hrun : (runL X P nt mask l T.fr (T.st W asm) (leafK Ts W)).all p = true) : wpL P l (fun e a' w' => ∃ leaf, p leaf = true ∧ LeafPost nt mask w0 Ts ρ leaf e a' w') a w := by
  obtain ⟨leaf, h1, h2⟩ := Tree.all_run ρ hrun
  exact wpL_mono (fun e a' w' h => ⟨leaf, h2, h⟩) _ _ _ (run_tpl hX hnt hat hW hfree hasm h1)
/-- a run of one piece of code -/
theorem wp_one {c : Code} {Q : Exit → Act → World → Prop} (h : wpL P [c] Q a w) : c.wp P Q a w :=
  wp_mono h fun e a' w' h' => by cases e <;> exact h'
/-- the arguments -/
theorem at_args {T : Tpl} {args : List AV} {us : List Value} {n : Nat} {hs : List Hole} (ha : cvs ρ E0w args = some us) (hle : args.length ≤ nt) (hfit : T.fits ⟨initT mask args 0 .lf, []⟩ ⟨.lf, posOf n, []⟩ = some hs)
    (hid : ∀ y ∈ hs, HoleIs ρ ρ y) : AtT nt mask w T ρ { tmps := us.toArray ++ Array.replicate (nt - us.toArray.size) undef, defers := [] } w := by
  refine end_tpl (ρ := ρ) (W := none) (s0 := ⟨.lf, posOf n, []⟩) (w := w) (fits_ok hfit) rfl (.refl E0w _ _) ⟨fun q b h => by simp at h, fun q q' b b' c o o' h => by simp at h, fun q b h => by simp at h, fun q x h => (by cases h), fun c b h => (by cases h)⟩
    (init_rel ha hle) (Below.refl _ _) (fun p b k o h => by simp at h) (fun W' h => (by cases h)) hid ⟨rfl, rfl⟩
/-- A LOOP BY TEMPLATES -/
theorem loop_tpl {b : Code} {Ts : List Tpl} {Inv : Val → Prop} {μ : Val → Nat} {id : Nat}
    (hstep : ∀ ρ T a w, T ∈ Ts → Inv ρ → AtT nt mask w0 T ρ a w → b.wp P (fun e a' w' => (e = .normal ∧ ∃ T' ρ', T' ∈ Ts ∧ Inv ρ' ∧ μ ρ' < μ ρ ∧ AtT nt mask w0 T' ρ' a' w') ∨ (e = .exit id ∧ ∃ T' ρ', T' ∈ Ts ∧ Inv ρ' ∧ AtT nt mask w0 T' ρ' a' w')) a w) :
    ∀ (m : Nat) (ρ : Val) (T : Tpl) (a : Act) (w : World), μ ρ < m → T ∈ Ts → Inv ρ → AtT nt mask w0 T ρ a w → LoopRun P none b (fun e a' w' => e = .exit id ∧ ∃ T' ρ', T' ∈ Ts ∧ Inv ρ' ∧ AtT nt mask w0 T' ρ' a' w') a w
  | 0, _, _, _, _, h, _, _, _ => absurd h (Nat.not_lt_zero _)
  | m + 1, ρ, T, a, w, h, hT, hI, hat => by
    refine .mk (wpIn_wide.2 (wp_mono (hstep ρ T a w hT hI hat) fun e a' w' hq => ?_))
    rcases hq with ⟨rfl, T', ρ', h1, h2, h3, h4⟩ | ⟨rfl, h1⟩
    · exact loop_tpl hstep m ρ' T' a' w' (by omega) h1 h2 h4
    · exact ⟨rfl, h1⟩
theorem block_loop_tpl {b : Code} {Ts : List Tpl} {Inv : Val → Prop} {μ : Val → Nat} {id : Nat}
    (hstep : ∀ ρ T a w, T ∈ Ts → Inv ρ → AtT nt mask w0 T ρ a w → b.wp P (fun e a' w' => (e = .normal ∧ ∃ T' ρ', T' ∈ Ts ∧ Inv ρ' ∧ μ ρ' < μ ρ ∧ AtT nt mask w0 T' ρ' a' w') ∨ (e = .exit id ∧ ∃ T' ρ', T' ∈ Ts ∧ Inv ρ' ∧ AtT nt mask w0 T' ρ' a' w')) a w)
    {ρ : Val} {T : Tpl} (hT : T ∈ Ts) (hI : Inv ρ) (hat : AtT nt mask w0 T ρ a w) : (Code.block id (.loop b)).wp P (fun e a' w' => e = .normal ∧ ∃ T' ρ', T' ∈ Ts ∧ Inv ρ' ∧ AtT nt mask w0 T' ρ' a' w') a w := by
  refine wp_block (wp_mono (wpIn_wide.1 (loop_tpl hstep (μ ρ + 1) ρ T a w (by omega) hT hI hat).wpIn) fun e a' w' h => ?_)
  obtain ⟨rfl, h⟩ := h
  show (if id = id then _ else _)
  rw [if_pos rfl]
  exact ⟨rfl, h⟩
/-- a function's call, by the spine of its body -/
theorem calls_spine {f : FuncId} {i : FnInfo} {fn : Func} {c : Code} {us : List Value} {R : Ending → World → Prop} (hi : InfoOk P f i fn c)
    (h : wpL P (spine c) (fun e a' w' => (e = .normal ∨ e = .ret) ∧ a'.defers = [] ∧ ∃ u, (results fn a'.tmps).run P w' = .ok u w' ∧ R (.returned u) w')
      { tmps := us.toArray ++ Array.replicate (i.ntmps - us.toArray.size) undef, defers := [] } w) : Calls P f us.toArray w R := by
  refine calls_of_wp_defers hi.func hi.body (wp_mono (wp_spine (by rw [← hi.nt]; exact h)) fun e a' w' hq => ?_)
  obtain ⟨he, hd, u, hres, hR⟩ := hq
  rcases he with rfl | rfl
  · show Leaves P fn a'.tmps R a'.defers .returning w'
    rw [hd]; exact ⟨u, hres, hR⟩
  · show Leaves P fn a'.tmps R a'.defers .returning w'
    rw [hd]; exact ⟨u, hres, hR⟩
/-- the end of a call at a template -/
theorem at_results {f : FuncId} {i : FnInfo} {fn : Func} {c : Code} {T : Tpl} {v : AV} (hi : InfoOk P f i fn c) (hat : AtT i.ntmps i.mask w0 T ρ a w) (hf : finish i T.fr (T.st none []) (fun v s => .ok v) = .ok v) :
    a.defers = [] ∧ ∃ u, (results fn a.tmps).run P w = .ok u w ∧ Below w0.heap.size w0 w ∧ ∃ E, cv ρ E v = some u := by
  obtain ⟨E, hr, hfr, hk, _⟩ := hat
  obtain ⟨v', u, h1, h2, h3⟩ := finish_ok (k := fun v s => .ok v) (r := v) hi.res hr hfr (show (finish i T.fr (T.st none []) (fun v s => .ok v)).run ρ = some v by rw [hf]; rfl)
  cases h3
  exact ⟨hfr.defs.nil_eq, u, h1, hk.below, E, h2⟩
/-- a closed call that gives a plain value and leaves the old memory alone: its summary -/
theorem sumOk_of {f : FuncId} {v : AV} {u : Value} (he : ∀ (as : Array Value) (w' : World), (callFunc f as).run P w' = .ok (.enter f as) w') (hv : ∀ ρ E, cv ρ E v = some u)
    (h : ∀ w : World, Calls P f #[] w fun e w' => e = .returned u ∧ w.heap.size ≤ w'.heap.size ∧ (∀ i, i < w.heap.size → w'.heap[i]? = w.heap[i]?) ∧ w'.os = w.os ∧ w'.output = w.output ∧ w'.tape = w.tape) :
    ∀ β : Type, SumOk P f (fun args s k => match args with | [] => k v s | _ => (.bad 300 : Tree β)) := by
  intro β ρ r args s k E w us hrun hr ha
  refine ⟨he, ?_⟩
  cases args with
  | cons _ _ => cases hrun
  | nil =>
    simp [cvs] at ha; subst ha
    refine Calls.mono (h w) ?_
    rintro e w' ⟨rfl, h1, h2, h3, h4, h5⟩
    refine ⟨v, u, s, E, rfl, hv ρ E, ⟨.refl E, Nat.le_refl _, fun _ _ => rfl, h1, fun k hk _ => h2 k hk, fun p b k o hp hl he => .inr ⟨p, b, o, hp, hl, he⟩, h3, h4, h5, fun _ _ _ _ h => h⟩, ⟨fun p b hp => ?_, hr.inj, hr.dom, hr.free, hr.asm⟩, hrun⟩
    refine (hr.blks p b hp).congr (.refl E) fun c o hl he => ?_
    obtain ⟨c', o', e1, e2⟩ := (hr.blks p b hp).lt hl
    rw [he] at e1; cases e1
    exact h2 _ e2
end Go.Ab
end

section
namespace Go.Ab
open Go.RowKit (Below)
variable {ρ ρ' : Val} {E E' : Mem} {P : Program} {β : Type} {s : St} {w w0 : World} {fr : Fr} {a : Act} {nt mask : Nat}
/-- what must hold where a function's body ends -/
def Fin (P : Program) (fn : Func) (R : Ending → World → Prop) (e : Exit) (a : Act) (w : World) : Prop :=
  (e = .normal ∨ e = .ret) ∧ a.defers = [] ∧ ∃ u, (results fn a.tmps).run P w = .ok u w ∧ R (.returned u) w
/-- A FUNCTION OF THE FORM: before, one loop, behind. -/
theorem calls_loop {f : FuncId} {i : FnInfo} {fn : Func} {c b : Code} {us : List Value} {R : Ending → World → Prop} {X : Ex Leaf} {pre suf : List Code} {id : Nat} {TA : Tpl} {TsP Ts TsS : List Tpl} {asm0 : List (BE × Bool)} {pP pS : Leaf → Bool}
    {Inv : Val → Prop} {μ : Val → Nat}
    (hi : InfoOk P f i fn c) (hX : ExOk P X) (hnt : i.ntmps = nt) (hlt : nt < 65536) (hspine : spine c = pre ++ (.block id (.loop b) :: suf))
    (hat0 : AtT nt mask w TA ρ { tmps := us.toArray ++ Array.replicate (i.ntmps - us.toArray.size) undef, defers := [] } w) (hfree : winFree none TA = true) (hasm : AsmOk ρ asm0)
    (hrunP : (runL X P nt mask pre TA.fr (TA.st none asm0) (leafK TsP none)).all pP = true)
    (hP : ∀ leaf e a' w', pP leaf = true → LeafPost nt mask w TsP ρ leaf e a' w' → (e = .normal ∧ ∃ T ρ, T ∈ Ts ∧ Inv ρ ∧ AtT nt mask w T ρ a' w') ∨ (e ≠ .normal ∧ Fin P fn R e a' w'))
    (hstep : ∀ ρ T a' w', T ∈ Ts → Inv ρ → AtT nt mask w T ρ a' w' → b.wp P (fun e a' w' => (e = .normal ∧ ∃ T' ρ', T' ∈ Ts ∧ Inv ρ' ∧ μ ρ' < μ ρ ∧ AtT nt mask w T' ρ' a' w') ∨ (e = .exit id ∧ ∃ T' ρ', T' ∈ Ts ∧ Inv ρ' ∧ AtT nt mask w T' ρ' a' w')) a' w')
    (hrunS : ∀ T, T ∈ Ts → winFree none T = true ∧ (runL X P nt mask suf T.fr (T.st none []) (leafK TsS none)).all pS = true)
    (hS : ∀ ρ leaf e a' w', Inv ρ → pS leaf = true → LeafPost nt mask w TsS ρ leaf e a' w' → Fin P fn R e a' w') : Calls P f us.toArray w R := by
  refine calls_spine hi ?_
  rw [hspine]
  refine wpL_append _ _ _ _ ?_
  refine wpL_mono (fun e a' w' h => ?_) _ _ _ (run_tpl_all hX hlt hat0 (fun W' hW => by cases hW) hfree hasm hrunP)
  obtain ⟨leaf, hp, hl⟩ := h
  rcases hP leaf e a' w' hp hl with ⟨rfl, T, ρ1, hT, hI, hat⟩ | ⟨hne, hfin⟩
  · show (Code.block id (.loop b)).wp P _ a' w'
    refine wp_mono (block_loop_tpl (μ := μ) hstep hT hI hat) fun e a2 w2 h2 => ?_
    obtain ⟨rfl, T2, ρ2, hT2, hI2, hat2⟩ := h2
    obtain ⟨hf2, hr2⟩ := hrunS T2 hT2
    show wpL P suf _ a2 w2
    refine wpL_mono (fun e a3 w3 h3 => ?_) _ _ _ (run_tpl_all hX hlt hat2 (fun W' hW => by cases hW) hf2 (fun c b hm => by cases hm) hr2)
    obtain ⟨leaf3, hp3, hl3⟩ := h3
    exact hS ρ2 leaf3 e a3 w3 hI2 hp3 hl3
  · cases e <;> first | exact absurd rfl hne | exact hfin
end Go.Ab
end

section
namespace Go.Ab
open Go.RowKit (Below)
variable {ρ ρ' : Val} {E E' : Mem} {P : Program} {β : Type} {s : St} {w w0 : World} {fr : Fr} {a : Act} {nt mask : Nat}
/-! ### runs that may stop where some conditions hold -/
def memB (x : BE × Bool) : List (BE × Bool) → Bool
  | [] => false
  | y :: l => (if x = y then true else false) || memB x l
def chkOr (p : β → Bool) (why : Nat) (Ls : List (List (BE × Bool))) : Tree β → List (BE × Bool) → Bool
  | .ok a, _ => p a
  | .bad n, path => Nat.beq n why && Ls.any fun L => L.all fun x => memB x path
  | .br c t e, path => chkOr p why Ls t ((c, true) :: path) && chkOr p why Ls e ((c, false) :: path)
theorem memB_mem {x : BE × Bool} : ∀ {l : List (BE × Bool)}, memB x l = true → x ∈ l
  | [], h => by cases h
  | y :: l, h => by
    simp only [memB, Bool.or_eq_true] at h
    rcases h with h | h
    · have := ite_true h; subst this; exact List.mem_cons_self
    · exact List.mem_cons_of_mem _ (memB_mem h)
theorem chkOr_ok {p : β → Bool} {why : Nat} {Ls : List (List (BE × Bool))} (ρ : Val) : ∀ {t : Tree β} {path : List (BE × Bool)}, chkOr p why Ls t path = true → AsmOk ρ path → (∃ r, t.run ρ = some r ∧ p r = true) ∨ ∃ L, L ∈ Ls ∧ AsmOk ρ L
  | .ok a, path, h, ha => .inl ⟨a, rfl, h⟩
  | .bad n, path, h, ha => by
    simp only [chkOr, Bool.and_eq_true] at h
    obtain ⟨L, hL, hall⟩ := List.any_eq_true.1 h.2
    refine .inr ⟨L, hL, fun c b hm => ha c b (memB_mem (List.all_eq_true.1 hall _ hm))⟩
  | .br c t e, path, h, ha => by
    simp only [chkOr, Bool.and_eq_true] at h
    by_cases hc : c.den ρ = true
    · rcases chkOr_ok ρ h.1 (path := (c, true) :: path) (fun c' b' hm => by
        rcases List.mem_cons.1 hm with e | hm
        · cases e; exact hc
        · exact ha _ _ hm) with ⟨r, h1, h2⟩ | h1
      · exact .inl ⟨r, by simp [Tree.run, hc, h1], h2⟩
      · exact .inr h1
    · rcases chkOr_ok ρ h.2 (path := (c, false) :: path) (fun c' b' hm => by
        rcases List.mem_cons.1 hm with e | hm
        · cases e; simpa using hc
        · exact ha _ _ hm) with ⟨r, h1, h2⟩ | h1
      · exact .inl ⟨r, by simp [Tree.run, hc, h1], h2⟩
      · exact .inr h1
/-! ### a function's start -/
structure StartOk (ρ : Val) (E : Mem) (W : Option Win1) (n : Nat) (asm : List (BE × Bool)) (w : World) : Prop where
  hr : HRel ρ E ⟨withWin W .lf, posOf n, asm⟩ w
  own : ∀ p b k o, (withWin W .lf).get p = some b → Live b → E.blk p = some (k, o) → OwnK w ρ W p b k
  wc : ∀ W', W = some W' → ∃ c o, E.blk (posOf W'.x) = some (c, o) ∧ c < w.heap.size ∧ w.heap[c]? = some (ρ.obj W'.x)
theorem start_plain {n : Nat} {asm : List (BE × Bool)} (ha : AsmOk ρ asm) : StartOk ρ E0w none n asm w :=
  ⟨⟨fun q b h => by simp [withWin] at h, fun q q' b b' c o o' h => by simp [withWin] at h, fun q b h => by simp [withWin] at h, fun q x h => (by cases h), ha⟩, fun p b k o h => by simp [withWin] at h, fun W' h => (by cases h)⟩
/-- one window, whose block's capacity is known -/
theorem start_win {W : Win1} {n c o cap : Nat} {asm : List (BE × Bool)} {us pre rest : List Value} {t : TypeId} {fz : Nat × Nat} (ha : AsmOk ρ asm) (hx : W.x < n) (h1 : (ρ.sv W.x).1 = some ⟨c, o, none⟩) (h2 : ρ.iv (W.x + 1) = 0) (h3 : 0 < ρ.iv W.x)
    (h4 : cvs ρ E0w W.cs = some us) (h5 : w.heap[c]? = some (.cells (pre ++ us ++ rest).toArray t fz)) (h6 : pre.length = o) (h7 : ρ.obj W.x = .cells (pre ++ us ++ rest).toArray t fz) :
    StartOk ρ (E0w.addAt (posOf W.x) c o cap) (some W) n asm w := by
  have hblk : ∀ p, (E0w.addAt (posOf W.x) c o cap).blk p = if p = posOf W.x then some (c, o) else none := fun p => rfl
  have hget : ∀ p b, (withWin (some W) .lf).get p = some b → p = posOf W.x ∧ b = .win W.x W.sz W.cs := by
    intro p b hp
    have hp : ((Trie.lf : Trie Blk).put (posOf W.x) (some (.win W.x W.sz W.cs))).get p = some b := hp
    rw [Trie.get_put] at hp
    by_cases e : p = posOf W.x
    · rw [if_pos e] at hp; cases hp; exact ⟨e, rfl⟩
    · rw [if_neg e] at hp; simp at hp
  have hc : c < w.heap.size := (Array.getElem?_eq_some_iff.1 h5).1
  have hz : (ρ.iv (W.x + 1)).toNat = 0 := by rw [h2]; rfl
  refine ⟨⟨?_, ?_, ?_, ?_, ha⟩, ?_, ?_⟩
  · intro p b hp
    obtain ⟨rfl, rfl⟩ := hget p b hp
    exact ⟨c, o, us, pre, rest, t, fz, by rw [hblk, if_pos rfl, hz, Nat.mul_zero, Nat.add_zero], cvs_mono (E0w_le _) h4, h5, by rw [hz, Nat.mul_zero, Nat.add_zero]; exact h6, h1, by omega, by omega, h7⟩
  · intro p q b b' k o1 o2 hp hq _ _ _ _
    left; rw [(hget p b hp).1, (hget q b' hq).1]
  · intro p b hp
    obtain ⟨rfl, rfl⟩ := hget p b hp
    show (posOf W.x).toNat < (posOf n).toNat
    rw [posOf_toNat, posOf_toNat]; omega
  · intro p x hp
    rw [hblk] at hp
    by_cases e : p = posOf W.x
    · rw [e]
      show (posOf W.x).toNat < (posOf n).toNat
      rw [posOf_toNat, posOf_toNat]; omega
    · rw [if_neg e] at hp; cases hp
  · intro p b k o' hp _ _
    exact .inr (.inl ⟨W, rfl, (hget p b hp).1⟩)
  · intro W' h
    cases h
    exact ⟨c, o, by rw [hblk, if_pos rfl], hc, by rw [h5, h7]⟩
/-- A FUNCTION IN TWO PIECES, with a template between them. -/
theorem calls_two {f : FuncId} {i : FnInfo} {fn : Func} {c : Code} {us : List Value} {args : List AV} {R : Ending → World → Prop} {X : Ex Leaf} {pre suf : List Code} {TB : Tpl} {TsA TsB : List Tpl} {asm : List (BE × Bool)} {pB : Leaf → Bool} {W : Option Win1} {n : Nat}
    {leaf : Leaf} {okB : Val → Prop}
    (hi : InfoOk P f i fn c) (hX : ExOk P X) (hnt : i.ntmps = nt) (hlt : nt < 65536) (hspine : spine c = pre ++ suf) (ha : cvs ρ E args = some us) (hle : args.length ≤ nt) (hs : StartOk ρ E W n asm w)
    (hrunA : (runL X P nt mask pre ⟨initT mask args 0 .lf, []⟩ ⟨withWin W .lf, posOf n, asm⟩ (leafK TsA W)).run ρ = some leaf)
    (hA : ∀ e a' w', LeafPost nt mask w TsA ρ leaf e a' w' → (e = .normal ∧ ∃ ρ, okB ρ ∧ AtT nt mask w TB ρ a' w') ∨ (e ≠ .normal ∧ Fin P fn R e a' w'))
    (hfree : winFree none TB = true)
    (hB : ∀ ρ, okB ρ → ∃ asmB, AsmOk ρ asmB ∧ (runL X P nt mask suf TB.fr (TB.st none asmB) (leafK TsB none)).all pB = true)
    (hS : ∀ ρ leaf e a' w', okB ρ → pB leaf = true → LeafPost nt mask w TsB ρ leaf e a' w' → Fin P fn R e a' w') : Calls P f us.toArray w R := by
  refine calls_spine hi ?_
  rw [hspine, hnt]
  refine wpL_append _ _ _ _ ?_
  refine wpL_mono (fun e a' w' hp => ?_) _ _ _ (runL_ok hX hlt pre _ _ E w _ hrunA hs.hr (init_rel ha hle))
  have hl : LeafPost nt mask w TsA ρ leaf e a' w' := by
    obtain ⟨ae, fr', s', E', rfl, hk, hst, hr', hf'⟩ := hp
    obtain ⟨hwin, hk⟩ := run_guardB (t := firstFit ae fr' s' TsA 0) hk
    obtain ⟨j, T', h1, h2, h3, h4⟩ := firstFit_ok hk
    refine ⟨by rw [h4], (fits_ok h3).ok, T', ?_, fun ρ' hh hsv => end_tpl (fits_ok h3) hwin hst hr' hf' (Below.refl _ _) hs.own hs.wc hh hsv⟩
    rw [← h1, Nat.zero_add]; exact h2
  rcases hA e a' w' hl with ⟨rfl, ρ1, hok, hat⟩ | ⟨hne, hfin⟩
  · show wpL P suf _ a' w'
    obtain ⟨asmB, hab, hrb⟩ := hB ρ1 hok
    refine wpL_mono (fun e a3 w3 h3 => ?_) _ _ _ (run_tpl_all hX hlt hat (fun W' hW => by cases hW) hfree hab hrb)
    obtain ⟨leaf3, hp3, hl3⟩ := h3
    exact hS ρ1 leaf3 e a3 w3 hok hp3 hl3
  · cases e <;> first | exact absurd rfl hne | exact hfin
end Go.Ab
end

section
/-! TEMPLATES WITH OTHER NUMBERS FOR THE BLOCKS: a state fits a template up to a renaming of its blocks; rows whose beginning is forgotten. -/
namespace Go.Ab
open Go.RowKit (Below)

noncomputable section
/-- what a template's block stands for: a block, from which cells (and elements) are left out at the head -/
structure Ren where
  q : Pos
  dc : Nat
  dn : Nat
def yesH (b : Bool) : Option (List Hole) := bif b then some [] else none
def toP (m : Trie Ren) (p q : Pos) : Bool := match m.get p with | some r => r.q.beq q && Nat.beq r.dc 0 && Nat.beq r.dn 0 | none => false
def toJ (m : Trie Ren) (p q : Pos) (n sz : Nat) : Bool := match m.get p with | some r => r.q.beq q && Nat.beq r.dn n && Nat.beq r.dc (n * sz) | none => false
def addC (e : IE) (n : Int) : IE := bif ieq n 0 then e else .bin .add .i64 e (.c n)
def renAdd (x : Nat) (c : Int) : IE → Option (List Hole)
  | .bin .add .i64 e (.c d) => some [.i x (addC e (Int.sub d c))]
  | .c z => bif inRange .i64 z then some [.i x (.c (Int.sub z c))] else none
  | _ => none
def renLen (x : Nat) : IE → Option (List Hole)
  | .len s => some [.q x s]
  | _ => none
/-- a number of a row's bounds -/
def renIx (t a : IE) : Option (List Hole) :=
  match t with
  | .c n => yesH (sameE (.c n) a)
  | .v x => some [.i x a]
  | .len (.sv x) => renLen x a
  | _ => none
def renCp : Option IE → Option IE → Option (List Hole)
  | none, none => some []
  | some t, some a => renIx t a
  | _, _ => none
def renStr (s : IE) (a : AV) : Option (List Hole) :=
  match s with
  | .sv x => (match a with | .sstr e => some [.q x e] | .str l => some [.q x (.sl l)] | _ => none)
  | _ => none
def lenVar : IE → Option Nat
  | .len (.sv x) => some x
  | _ => none
def renSslc (m : Trie Ren) (p : Pos) (lo hi : IE) (cp : Option IE) (a : AV) : Option (List Hole) :=
  match a with
  | .sslc q lo' hi' cp' => bif toP m p q then joinH (joinH (renIx lo lo') (renIx hi hi')) (renCp cp cp') else none
  | .slc q o n (.op d) => bif toP m p q && Nat.beq o 0 && Nat.beq d 0 && sameE lo (.c 0) && sameO cp none then (match lenVar hi with | some x => some [.ql x n] | none => none) else none
  | _ => none
def renI (k : IntKind) (e : IE) (a : AV) : Option (List Hole) :=
  match a.asIE with
  | none => none
  | some y => bif kEq k y.k then (match e with
    | .v x => some [.i x y.e]
    | .bin .add .i64 (.v x) (.c c) => bif kEq k .i64 then renAdd x c y.e else none
    | .len (.sv x) => renLen x y.e
    | _ => none) else none
def renSB (e : BE) (a : AV) : Option (List Hole) := match e with | .v x => hB x a | _ => none
def renInt (asm : List (BE × Bool)) (k : IntKind) (n : Int) (a : AV) : Option (List Hole) :=
  match a with
  | .int j z => yesH (kEq k j && ieq n z)
  | .sint j e => yesH (kEq k j && isYes (decideM (.cmp .eql e (.c n)) asm) true)
  | _ => none
def renBool (asm : List (BE × Bool)) (b : Bool) (a : AV) : Option (List Hole) :=
  match a with
  | .bool c => yesH (b == c)
  | .sbool c => yesH (isYes (decideM (c.nrm true).c asm) (b == (c.nrm true).p))
  | _ => none
def renJ (m : Trie Ren) (asm : List (BE × Bool)) (p : Pos) (x n sz : Nat) (a : AV) : Option (List Hole) :=
  bif Nat.beq n 0 then (match a with
    | .slc q o len (.op d) => bif Nat.beq o 0 && Nat.beq d 0 && toJ m p q len sz then some [.i x (.c (.ofNat len))] else none
    | .jslc q y n' sz' => bif Nat.beq sz sz' && toJ m p q n' sz && bounded asm (some (.v y)) && Nat.ble n' 1000000 then some [.i x (addC (.v y) (.ofNat n'))] else none
    | _ => none) else none
def renPtr (m : Trie Ren) (p : Pos) (o : Nat) (a : AV) : Option (List Hole) := match a with | .ptr q o' => yesH (toP m p q && Nat.beq o o') | _ => none
def renSlc (m : Trie Ren) (p : Pos) (o n : Nat) (c : Cap) (a : AV) : Option (List Hole) :=
  match a with | .slc q o' n' c' => yesH (toP m p q && Nat.beq o o' && Nat.beq n n' && (if c = c' then true else false)) | _ => none
def renMap (m : Trie Ren) (p : Pos) (a : AV) : Option (List Hole) := match a with | .map q => yesH (toP m p q) | _ => none
def renOpq (x : Nat) (a : AV) : Option (List Hole) := match a with | .opq y => bif Nat.beq x y then some [.i x (.v x)] else none | _ => none
structure FnP where
  f : Fn
  a : List AV
  c : List AV
def fnOf : AV → Option FnP | .func f a c => some ⟨f, a, c⟩ | _ => none
structure IfP where
  t : Nat
  v : AV
def ifOf : AV → Option IfP | .iface t v => some ⟨t, v⟩ | _ => none
def aggOf : AV → Option (List AV) | .agg l => some l | _ => none
def tupOf : AV → Option (List AV) | .tup l => some l | _ => none
mutual
/-- a template's value against another: what stands in the holes -/
def renV (m : Trie Ren) (asm : List (BE × Bool)) : AV → AV → Option (List Hole)
  | .sint k e, a => renI k e a
  | .sbool e, a => renSB e a
  | .int k n, a => renInt asm k n a
  | .bool b, a => renBool asm b a
  | .ptr p o, a => renPtr m p o a
  | .slc p o n c, a => renSlc m p o n c a
  | .jslc p x n sz, a => renJ m asm p x n sz a
  | .map p, a => renMap m p a
  | .func f l c, a => match fnOf a with | some g => bif (if f = g.f then true else false) then joinH (renL m asm l g.a) (renL m asm c g.c) else none | none => none
  | .iface t v, a => match ifOf a with | some g => bif Nat.beq t g.t then renV m asm v g.v else none | none => none
  | .agg l, a => match aggOf a with | some l' => renL m asm l l' | none => none
  | .tup l, a => match tupOf a with | some l' => renL m asm l l' | none => none
  | .opq x, a => renOpq x a
  | .str l, a => yesH (AV.same (.str l) a)
  | .nilp, a => yesH (AV.same .nilp a)
  | .nils, a => yesH (AV.same .nils a)
  | .nilm, a => yesH (AV.same .nilm a)
  | .nilf, a => yesH (AV.same .nilf a)
  | .nili, a => yesH (AV.same .nili a)
  | .sstr s, a => renStr s a
  | .sslc p lo hi cp, a => renSslc m p lo hi cp a
  | .sptr _ _, _ => none
  | .yld _, _ => none
  | .bad, _ => none
def renL (m : Trie Ren) (asm : List (BE × Bool)) : List AV → List AV → Option (List Hole)
  | [], l => (match l with | [] => some [] | _ :: _ => none)
  | t :: l, r => (match r with | [] => none | a :: r => joinH (renV m asm t a) (renL m asm l r))
end
def renE (m : Trie Ren) (asm : List (BE × Bool)) : List Ent → List Ent → Option (List Hole)
  | [], [] => some []
  | t :: l, a :: r => bif Nat.beq t.born a.born then joinH (joinH (renV m asm t.key a.key) (renV m asm t.val a.val)) (renE m asm l r) else none
  | _, _ => none
def renB (m : Trie Ren) (asm : List (BE × Bool)) (r : Ren) : Blk → Blk → Option (List Hole)
  | .cells cs q, .cells ds q' => bif q == q' && Nat.beq r.dc 0 && Nat.beq r.dn 0 then renL m asm cs ds else none
  | .grow cs z, .grow ds y => bif Nat.beq z y && Nat.beq r.dc (r.dn * z) && Nat.ble r.dc ds.length then renL m asm cs (dropL r.dc ds) else none
  | .map es c, .map fs d => bif Nat.beq c d && Nat.beq r.dc 0 && Nat.beq r.dn 0 then renE m asm es fs else none
  | .seq k (.sv x) cp, .seq k' s cp' => bif kEq k k' && Nat.beq r.dc 0 && Nat.beq r.dn 0 then joinH (some [.q x s]) (renCp cp cp') else none
  | .seq k (.sv x) none, .grow ds z => bif Nat.beq z 1 && Nat.beq r.dc 0 && Nat.beq r.dn 0 then (seqE k ds).map fun t => [.q x t] else none
  | .ro x k (.sv y), .ro x' k' (.sv y') => bif Nat.beq x x' && kEq k k' && Nat.beq y y' && Nat.beq r.dc 0 && Nat.beq r.dn 0 then some [.q y (.sv y)] else none
  | _, _ => none
def renTmps (m : Trie Ren) (asm : List (BE × Bool)) (fr : Fr) : List (Nat × AV) → Option (List Hole)
  | [] => some []
  | (t, v) :: l => match fr.tmps.get (posOf t) with
    | some a => joinH (renV m asm v a) (renTmps m asm fr l)
    | none => none
def renHeap (m : Trie Ren) (asm : List (BE × Bool)) (h : Trie Blk) : List (Nat × Blk) → Option (List Hole)
  | [] => some []
  | (t, v) :: l => match m.get (posOf t) with
    | none => none
    | some r => match h.get r.q with
      | some a => joinH (renB m asm r v a) (renHeap m asm h l)
      | none => none
/-! how the renaming is found: nothing is proved about this -/
structure VPr where
  t : AV
  a : AV
def bears : AV → Bool
  | .ptr .. | .slc .. | .jslc .. | .sslc .. | .map _ | .func .. | .iface .. | .agg _ | .tup _ => true
  | _ => false
def zipF : List AV → List AV → List VPr → List VPr
  | [], _, w => w
  | t :: l, r, w => match r with | [] => w | a :: r => bif bears t then ⟨t, a⟩ :: zipF l r w else zipF l r w
def zipE : List Ent → List Ent → List VPr → List VPr
  | [], _, w => w
  | t :: l, r, w => match r with | [] => w | a :: r => ⟨t.key, a.key⟩ :: ⟨t.val, a.val⟩ :: zipE l r w
structure PR where
  p : Pos
  r : Ren
def blkKids (b b' : Option Blk) (dc : Nat) (w : List VPr) : List VPr :=
  match b, b' with
  | some (.cells cs _), some (.cells ds _) => zipF cs ds w
  | some (.grow cs _), some (.grow ds _) => zipF cs (dropL dc ds) w
  | some (.map es _), some (.map fs _) => zipE es fs w
  | _, _ => w
def refOf (t a : AV) : Option PR :=
  match t with
  | .ptr p _ => (match a with | .ptr q _ => some ⟨p, ⟨q, 0, 0⟩⟩ | _ => none)
  | .slc p _ _ _ => (match a with | .slc q _ _ _ => some ⟨p, ⟨q, 0, 0⟩⟩ | _ => none)
  | .map p => (match a with | .map q => some ⟨p, ⟨q, 0, 0⟩⟩ | _ => none)
  | .sslc p _ _ _ => (match a with | .sslc q _ _ _ => some ⟨p, ⟨q, 0, 0⟩⟩ | .slc q _ _ _ => some ⟨p, ⟨q, 0, 0⟩⟩ | _ => none)
  | .jslc p _ _ sz => (match a with | .slc q _ len _ => some ⟨p, ⟨q, len * sz, len⟩⟩ | .jslc q _ n _ => some ⟨p, ⟨q, n * sz, n⟩⟩ | _ => none)
  | _ => none
def valKids (t a : AV) (w : List VPr) : List VPr :=
  match t with
  | .iface _ v => (match ifOf a with | some g => ⟨v, g.v⟩ :: w | none => w)
  | .agg l => (match aggOf a with | some l' => zipF l l' w | none => w)
  | .tup l => (match tupOf a with | some l' => zipF l l' w | none => w)
  | .func _ l c => (match fnOf a with | some g => zipF l g.a (zipF c g.c w) | none => w)
  | _ => w
def findStep (T h : Trie Blk) (ih : List VPr → Trie Ren → List PR → List PR) (x : VPr) (w : List VPr) (m : Trie Ren) (l : List PR) : List PR :=
  match refOf x.t x.a with
  | none => ih (valKids x.t x.a w) m l
  | some y => match m.get y.p with
    | some _ => ih w m l
    | none => ih (blkKids (T.get y.p) (h.get y.r.q) y.r.dc w) (m.put y.p (some y.r)) (y :: l)
def findG (T h : Trie Blk) (n : Nat) : List VPr → Trie Ren → List PR → List PR :=
  Nat.rec (motive := fun _ => List VPr → Trie Ren → List PR → List PR) (fun _ _ l => l) (fun _ ih w m l => match w with | [] => l | x :: w => findStep T h ih x w m l) n
def startW (fr : Fr) : List (Nat × AV) → List VPr
  | [] => []
  | (t, v) :: l => match fr.tmps.get (posOf t) with | some a => ⟨v, a⟩ :: startW fr l | none => startW fr l
def prT : List PR → Trie Ren
  | [] => .lf
  | x :: l => (prT l).put x.p (some x.r)
def prR : List PR → Trie Pos
  | [] => .lf
  | x :: l => (prR l).put x.r.q (some x.p)
def backOk (rev : Trie Pos) (x : PR) : Bool := match rev.get x.r.q with | some p => p.beq x.p | none => false
def Tpl.fitsBy (T : Tpl) (fr : Fr) (s : St) (prs : List PR) : Option (List Hole) :=
  match joinH (renTmps (prT prs) s.asm fr T.tmps) (renHeap (prT prs) s.asm s.heap T.heap) with
  | some hs => bif hs.all (holeOk hs) && noDefs fr && T.below && prs.all (fun x => T.dom x.p) && prs.all (backOk (prR prs)) then some hs else none
  | none => none
def Tpl.fitsR (T : Tpl) (fr : Fr) (s : St) : Option (List Hole) :=
  T.fitsBy fr s (findG (tof T.heap) s.heap 1000000 (startW fr T.tmps) .lf [])
def firstFitR (ae : AExit) (fr : Fr) (s : St) : List Tpl → Nat → Tree Leaf
  | [], _ => .bad 400
  | T :: l, j => match T.fitsR fr s with
    | some hs => .ok ⟨ae, j, hs⟩
    | none => firstFitR ae fr s l (j + 1)
def leafKR (Ts : List Tpl) (W : Option Win1) : Kx Leaf := fun ae fr s => guardB (winThere W s) 401 (firstFitR ae fr s Ts 0)
end
end Go.Ab
end

section
namespace Go.Ab
open Go.RowKit (Below)
variable {ρ ρ' : Val} {E E' : Mem} {P : Program} {β : Type} {s : St} {w w0 : World} {fr : Fr} {a : Act} {nt mask : Nat}

structure SameR (m : Trie Ren) (E E' : Mem) : Prop where
  blk : ∀ p r, m.get p = some r → E'.blk p = (E.blk r.q).map fun c => (c.1, c.2 + r.dc)
  cap : ∀ p r, m.get p = some r → E'.cap p = E.cap r.q - r.dn
theorem yesH_eq {b : Bool} {hs : List Hole} (h : yesH b = some hs) : b = true := by
  cases b with
  | true => rfl
  | false => cases h
theorem toP_eq {m : Trie Ren} {p q : Pos} (h : toP m p q = true) : m.get p = some ⟨q, 0, 0⟩ := by
  unfold toP at h
  split at h
  · next r hr =>
    simp only [Bool.and_eq_true, Nat.beq_eq] at h
    obtain ⟨⟨h1, h2⟩, h3⟩ := h
    obtain ⟨q', dc, dn⟩ := r
    simp only at h1 h2 h3
    rw [hr, (Pos.beq_eq _ _).1 h1, h2, h3]
  · cases h
theorem toJ_eq {m : Trie Ren} {p q : Pos} {n sz : Nat} (h : toJ m p q n sz = true) : m.get p = some ⟨q, n * sz, n⟩ := by
  unfold toJ at h
  split at h
  · next r hr =>
    simp only [Bool.and_eq_true, Nat.beq_eq] at h
    obtain ⟨⟨h1, h2⟩, h3⟩ := h
    obtain ⟨q', dc, dn⟩ := r
    simp only at h1 h2 h3
    rw [hr, (Pos.beq_eq _ _).1 h1, h2, h3]
  · cases h
theorem SameR.plain {m : Trie Ren} (hS : SameR m E E') {p q : Pos} (h : toP m p q = true) : E'.blk p = E.blk q ∧ E'.cap p = E.cap q := by
  have h1 := toP_eq h
  have h2 := hS.blk _ _ h1
  have h3 := hS.cap _ _ h1
  simp only [Nat.add_zero, Nat.sub_zero] at h2 h3
  refine ⟨?_, h3⟩
  rw [h2]
  cases E.blk q <;> rfl
theorem addC_den (e : IE) (n : Int) : IntKind.i64.wrap ((addC e n).den ρ) = IntKind.i64.wrap (e.den ρ + n) := by
  unfold addC
  cases h : ieq n 0 with
  | true =>
    have := (ieq_iff _ _).1 h
    subst this
    simp
  | false =>
    simp only [IE.den, binDen, isShr, cond_false, arithF, addF, Option.getD_some, wrapF_eq]
    have : Int.add (e.den ρ) n = e.den ρ + n := rfl
    rw [this]
    simp only [IntKind.wrap_i64]
    omega
theorem renAdd_ok {x : Nat} {c : Int} {e : IE} {hs : List Hole} (h : renAdd x c e = some hs) (hh : ∀ y ∈ hs, HoleIs ρ ρ' y) : IntKind.i64.wrap (ρ'.iv x + c) = e.den ρ := by
  unfold renAdd at h
  split at h
  · next e d =>
    cases h
    have := hh _ (List.mem_cons_self ..)
    simp only [HoleIs] at this
    have h2 := addC_den (ρ := ρ) e (Int.sub d c)
    rw [← this] at h2
    simp only [IE.den, binDen, isShr, cond_false, arithF, addF, Option.getD_some, wrapF_eq]
    have h3 : Int.add (e.den ρ) d = e.den ρ + d := rfl
    have h4 : Int.sub d c = d - c := rfl
    rw [h3]
    rw [h4] at h2
    simp only [IntKind.wrap_i64] at h2 ⊢
    omega
  · next z =>
    cases hb : inRange .i64 z with
    | false => rw [hb] at h; cases h
    | true =>
      rw [hb] at h
      cases h
      have := hh _ (List.mem_cons_self ..)
      simp only [HoleIs, IE.den] at this
      rw [this]
      have h4 : Int.sub z c = z - c := rfl
      rw [h4, Int.sub_add_cancel]
      simp only [IE.den]
      exact inRange_wrap hb
  · cases h
theorem renLen_ok {x : Nat} {e : IE} {hs : List Hole} (h : renLen x e = some hs) (hh : ∀ y ∈ hs, HoleIs ρ ρ' y) : (IE.len (.sv x)).den ρ' = e.den ρ := by
  unfold renLen at h
  split at h
  · cases h
    have := hh _ (List.mem_cons_self ..)
    simp only [HoleIs] at this
    simp only [IE.den, IE.sden, this]
  · cases h
theorem renIx_ok {t e : IE} {hs : List Hole} (h : renIx t e = some hs) (hh : ∀ y ∈ hs, HoleIs ρ ρ' y) : t.den ρ' = e.den ρ := by
  unfold renIx at h
  split at h
  · have := sameE_eq (yesH_eq h)
    subst this
    simp [IE.den]
  · cases h
    have := hh _ (List.mem_cons_self ..)
    simp only [HoleIs] at this
    simp only [IE.den, this]
  · exact renLen_ok h hh
  · cases h
theorem renCp_ok {t e : Option IE} {hs : List Hole} {p q : Pos} (h : renCp t e = some hs) (hh : ∀ y ∈ hs, HoleIs ρ ρ' y) (hc : E'.cap p = E.cap q) : capE ρ' E' p t = capE ρ E q e := by
  unfold renCp at h
  split at h
  · simp [capE, hc]
  · simp only [capE, renIx_ok h hh]
  · cases h
theorem renStr_ok {t : IE} {v : AV} {hs : List Hole} {u : Value} (h : renStr t v = some hs) (hh : ∀ y ∈ hs, HoleIs ρ ρ' y) (hu : cv ρ E v = some u) : cv ρ' E' (.sstr t) = some u := by
  unfold renStr at h
  split at h
  · split at h
    · cases h
      have := hh _ (List.mem_cons_self ..)
      simp only [HoleIs] at this
      simp only [cv, IE.sden, this] at hu ⊢
      exact hu
    · cases h
      have := hh _ (List.mem_cons_self ..)
      simp only [HoleIs, IE.sden] at this
      simp only [cv, IE.sden, this, bytesI_lit] at hu ⊢
      exact hu
    · cases h
  · cases h
theorem renSslc_ok {m : Trie Ren} (hS : SameR m E E') {p : Pos} {lo hi : IE} {cp : Option IE} {v : AV} {hs : List Hole} {u : Value} (h : renSslc m p lo hi cp v = some hs) (hh : ∀ y ∈ hs, HoleIs ρ ρ' y) (hu : cv ρ E v = some u) :
    cv ρ' E' (.sslc p lo hi cp) = some u := by
  unfold renSslc at h
  split at h
  · next q lo' hi' cp' =>
    cases hb : toP m p q with
    | false => rw [hb] at h; cases h
    | true =>
      rw [hb] at h
      simp only [cond_true] at h
      obtain ⟨x, y, h1, h2, rfl⟩ := joinH_eq h
      obtain ⟨x1, x2, h3, h4, rfl⟩ := joinH_eq h1
      obtain ⟨g1, g2⟩ := hS.plain hb
      have e1 := renIx_ok (ρ := ρ) (ρ' := ρ') h3 fun z hz => hh z (List.mem_append_left _ (List.mem_append_left _ hz))
      have e2 := renIx_ok (ρ := ρ) (ρ' := ρ') h4 fun z hz => hh z (List.mem_append_left _ (List.mem_append_right _ hz))
      have e3 := renCp_ok (ρ := ρ) (ρ' := ρ') h2 (fun z hz => hh z (List.mem_append_right _ hz)) g2
      simp only [cv, g1, e1, e2, e3] at hu ⊢
      exact hu
  · next q o n d =>
    cases hb : toP m p q && Nat.beq o 0 && Nat.beq d 0 && sameE lo (.c 0) && sameO cp none with
    | false => rw [hb] at h; cases h
    | true =>
      rw [hb] at h
      simp only [cond_true] at h
      simp only [Bool.and_eq_true, Nat.beq_eq] at hb
      obtain ⟨⟨⟨⟨hp, rfl⟩, rfl⟩, hlo⟩, hcp⟩ := hb
      have hlo := sameE_eq hlo
      have hcp := sameO_eq hcp
      subst hlo hcp
      split at h
      · next x hx =>
        cases h
        have := hh _ (List.mem_cons_self ..)
        simp only [HoleIs] at this
        obtain ⟨g1, g2⟩ := hS.plain hp
        have hhi : hi = .len (.sv x) := by
          unfold lenVar at hx
          split at hx
          · cases hx; rfl
          · cases hx
        subst hhi
        obtain ⟨c, o, cm, hbk, hcm, rfl⟩ := cv_slc hu
        simp only [capOf, Nat.add_zero, Nat.sub_zero] at hcm
        split at hcm
        · next hle =>
          cases hcm
          have := cv_sslc_mk (ρ := ρ') (E := E') (p := p) (lo := .c 0) (hi := .len (.sv x)) (cp := none) (c := c) (o := o) (by rw [g1]; exact hbk) (by simp [IE.den]) (by simp [IE.den]) (by simp only [IE.den, IE.sden, this, capE, g2, Int.toNat_natCast]; exact hle)
          rw [this]
          simp [IE.den, IE.sden, capE, g2, *]
        · cases hcm
      · cases h
  · cases h
theorem renI_ok {k : IntKind} {e : IE} {v : AV} {hs : List Hole} {u : Value} (h : renI k e v = some hs) (hh : ∀ y ∈ hs, HoleIs ρ ρ' y) (hu : cv ρ E v = some u) : cv ρ' E' (.sint k e) = some u := by
  unfold renI at h
  split at h
  · cases h
  · next y hy =>
    rw [asIE_cv hy] at hu; cases hu
    cases hk : kEq k y.k with
    | false => rw [hk] at h; cases h
    | true =>
      rw [hk] at h
      simp only [cond_true] at h
      have hk := (kEq_iff _ _).1 hk
      split at h
      · next x =>
        cases h
        have := hh _ (List.mem_cons_self ..)
        simp only [HoleIs] at this
        simp only [cv, IE.den, this, hk]
      · next x c =>
        cases hk2 : kEq k .i64 with
        | false => rw [hk2] at h; cases h
        | true =>
          rw [hk2] at h
          simp only [cond_true] at h
          have := renAdd_ok h hh
          simp only [cv, IE.den, binDen, isShr, cond_false, arithF, addF, Option.getD_some, wrapF_eq]
          have h3 : Int.add (ρ'.iv x) c = ρ'.iv x + c := rfl
          rw [h3, this, hk]
      · next x =>
        have := renLen_ok h hh
        simp only [cv, this, hk]
      · cases h
theorem renSB_ok {e : BE} {v : AV} {hs : List Hole} {u : Value} (h : renSB e v = some hs) (hh : ∀ y ∈ hs, HoleIs ρ ρ' y) (hu : cv ρ E v = some u) : cv ρ' E' (.sbool e) = some u := by
  unfold renSB at h
  split at h
  · exact hB_ok h hh hu
  · cases h
theorem renInt_ok {asm : List (BE × Bool)} (hasm : AsmOk ρ asm) {k : IntKind} {n : Int} {v : AV} {hs : List Hole} {u : Value} (h : renInt asm k n v = some hs) (hu : cv ρ E v = some u) : cv ρ' E' (.int k n) = some u := by
  unfold renInt at h
  split at h
  · next j z =>
    have hb := yesH_eq h
    rw [Bool.and_eq_true] at hb
    have hk := (kEq_iff _ _).1 hb.1
    have hz := (ieq_iff _ _).1 hb.2
    subst hk hz
    simpa using hu
  · next j e =>
    have hb := yesH_eq h
    rw [Bool.and_eq_true] at hb
    have hk := (kEq_iff _ _).1 hb.1
    have hd := decideM_ok hasm (isYes_eq hb.2)
    simp only [BE.den, cmpF, eqlF, IE.den, ieq_iff] at hd
    simp only [cv, hd, hk] at hu ⊢
    exact hu
  · cases h
theorem renBool_ok {asm : List (BE × Bool)} (hasm : AsmOk ρ asm) {b : Bool} {v : AV} {hs : List Hole} {u : Value} (h : renBool asm b v = some hs) (hu : cv ρ E v = some u) : cv ρ' E' (.bool b) = some u := by
  unfold renBool at h
  split at h
  · next c =>
    have hb := yesH_eq h
    have : b = c := by simpa using hb
    subst this
    simpa using hu
  · next c =>
    have hb := yesH_eq h
    have hd := decideM_ok hasm (isYes_eq hb)
    have hn := nrm_ok (ρ := ρ) c true
    rw [hd] at hn
    simp only [cv] at hu ⊢
    rw [← hu]
    congr 2
    revert hn
    cases b <;> cases (c.nrm true).p <;> cases c.den ρ <;> simp
  · cases h
theorem renJ_ok {m : Trie Ren} {asm : List (BE × Bool)} (hasm : AsmOk ρ asm) (hS : SameR m E E') {p : Pos} {x n sz : Nat} {v : AV} {hs : List Hole} {u : Value} (h : renJ m asm p x n sz v = some hs) (hh : ∀ y ∈ hs, HoleIs ρ ρ' y) (hu : cv ρ E v = some u) :
    cv ρ' E' (.jslc p x n sz) = some u := by
  unfold renJ at h
  cases hn : Nat.beq n 0 with
  | false => rw [hn] at h; cases h
  | true =>
    rw [hn] at h
    have hn : n = 0 := by simpa using hn
    subst hn
    simp only [cond_true] at h
    split at h
    · next q o len d =>
      cases hb : Nat.beq o 0 && Nat.beq d 0 && toJ m p q len sz with
      | false => rw [hb] at h; cases h
      | true =>
        rw [hb] at h
        cases h
        simp only [Bool.and_eq_true, Nat.beq_eq] at hb
        obtain ⟨⟨rfl, rfl⟩, hj⟩ := hb
        have hj := toJ_eq hj
        have h1 := hS.blk _ _ hj
        have h2 := hS.cap _ _ hj
        have h3 := hh _ (List.mem_cons_self ..)
        simp only [HoleIs, IE.den] at h3
        obtain ⟨c, oo, cp, hbk, hcp, rfl⟩ := cv_slc hu
        simp only [capOf, Nat.add_zero, Nat.sub_zero] at hcp
        split at hcp
        · next hle =>
          cases hcp
          simp only at h1 h2
          have hiv : (ρ'.iv x).toNat = len := by rw [h3]; rfl
          simp only [cv, h1, hbk, Option.map_some, Option.bind_some, h2, hiv]
          have hc : sz * len = len * sz := Nat.mul_comm _ _
          rw [if_pos ⟨by rw [h3]; exact Int.natCast_nonneg len, by rw [hc]; omega, by omega⟩, hc]
          congr 2
          · congr 2; omega
          · omega
        · cases hcp
    · next q y n' sz' =>
      cases hb : Nat.beq sz sz' && toJ m p q n' sz && bounded asm (some (.v y)) && Nat.ble n' 1000000 with
      | false => rw [hb] at h; cases h
      | true =>
        rw [hb] at h
        cases h
        simp only [Bool.and_eq_true, Nat.beq_eq, Nat.ble_eq] at hb
        obtain ⟨⟨⟨rfl, hj⟩, hbd⟩, hn1⟩ := hb
        have hj := toJ_eq hj
        have h1 := hS.blk _ _ hj
        have h2 := hS.cap _ _ hj
        have h3 := hh _ (List.mem_cons_self ..)
        have hB := bounded_ok hasm hbd
        simp only [AtOk, atDen, IE.den] at hB
        simp only [HoleIs] at h3
        have h3' : ρ'.iv x = ρ.iv y + n' := by
          rw [h3]
          unfold addC
          cases hz : ieq (Int.ofNat n') 0 with
          | true =>
            have := (ieq_iff _ _).1 hz
            have hn0 : n' = 0 := by have h5 : (n' : Int) = 0 := this; omega
            subst hn0
            simp [IE.den]
          | false =>
            simp only [IE.den, binDen, isShr, cond_false, arithF, addF, Option.getD_some]
            have : Int.add (ρ.iv y) (Int.ofNat n') = ρ.iv y + n' := rfl
            rw [this]
            exact wrap_small (by omega)
        simp only [cv, Option.bind_eq_some_iff] at hu
        obtain ⟨⟨c, oo⟩, hbk, hu⟩ := hu
        split at hu
        · next hcond =>
          cases hu
          obtain ⟨g1, g2, g3⟩ := hcond
          simp only at h1 h2
          have hiv : (ρ'.iv x).toNat = (ρ.iv y).toNat + n' := by omega
          simp only [cv, h1, hbk, Option.map_some, Option.bind_some, h2, hiv]
          have hmul : sz * ((ρ.iv y).toNat + n') = sz * (ρ.iv y).toNat + n' * sz := by rw [Nat.mul_add, Nat.mul_comm sz n']
          rw [hmul, if_pos ⟨by omega, by omega, by omega⟩]
          congr 2
          · congr 2; omega
          · omega
        · cases hu
    · cases h
theorem fnOf_eq {v : AV} {g : FnP} (h : fnOf v = some g) : v = .func g.f g.a g.c := by cases v <;> simp [fnOf] at h; rw [← h]
theorem ifOf_eq {v : AV} {g : IfP} (h : ifOf v = some g) : v = .iface g.t g.v := by cases v <;> simp [ifOf] at h; rw [← h]
theorem aggOf_eq {v : AV} {l : List AV} (h : aggOf v = some l) : v = .agg l := by cases v <;> simp [aggOf] at h; rw [h]
theorem tupOf_eq {v : AV} {l : List AV} (h : tupOf v = some l) : v = .tup l := by cases v <;> simp [tupOf] at h; rw [h]
mutual
theorem renV_ok {m : Trie Ren} {asm : List (BE × Bool)} (hasm : AsmOk ρ asm) (hS : SameR m E E') (hsv : ρ'.sv = ρ.sv) : ∀ (t v : AV) (hs : List Hole) (u : Value), renV m asm t v = some hs → (∀ y ∈ hs, HoleIs ρ ρ' y) → cv ρ E v = some u → cv ρ' E' t = some u
  | .sint k e, v, hs, u, h, hh, hu => by rw [renV] at h; exact renI_ok h hh hu
  | .sbool e, v, hs, u, h, hh, hu => by rw [renV] at h; exact renSB_ok h hh hu
  | .int k n, v, hs, u, h, hh, hu => by rw [renV] at h; exact renInt_ok hasm h hu
  | .bool b, v, hs, u, h, hh, hu => by rw [renV] at h; exact renBool_ok hasm h hu
  | .ptr p o, v, hs, u, h, hh, hu => by
    rw [renV] at h; unfold renPtr at h
    split at h
    · next q o' =>
      have hb := yesH_eq h
      simp only [Bool.and_eq_true, Nat.beq_eq] at hb
      obtain ⟨h1, rfl⟩ := hb
      have := (hS.plain h1).1
      simp only [cv, this] at hu ⊢; exact hu
    · cases h
  | .slc p o n c, v, hs, u, h, hh, hu => by
    rw [renV] at h; unfold renSlc at h
    split at h
    · next q o' n' c' =>
      have hb := yesH_eq h
      simp only [Bool.and_eq_true, Nat.beq_eq] at hb
      obtain ⟨⟨⟨h1, rfl⟩, rfl⟩, h2⟩ := hb
      have h2 : c = c' := ite_true h2
      subst h2
      obtain ⟨g1, g2⟩ := hS.plain h1
      have : capOf E' p n c = capOf E q n c := by cases c <;> simp [capOf, g2]
      simp only [cv, g1, this] at hu ⊢; exact hu
    · cases h
  | .jslc p x n sz, v, hs, u, h, hh, hu => by rw [renV] at h; exact renJ_ok hasm hS h hh hu
  | .map p, v, hs, u, h, hh, hu => by
    rw [renV] at h; unfold renMap at h
    split at h
    · next q =>
      have := (hS.plain (yesH_eq h)).1
      simp only [cv, this] at hu ⊢; exact hu
    · cases h
  | .func f l c, v, hs, u, h, hh, hu => by
    rw [renV] at h
    split at h
    · next g hg =>
      have := fnOf_eq hg
      subst this
      by_cases hf : f = g.f
      · rw [if_pos hf] at h
        subst hf
        obtain ⟨x, y, h1, h2, rfl⟩ := joinH_eq h
        simp only [cv, Option.bind_eq_some_iff, Option.map_eq_some_iff] at hu ⊢
        obtain ⟨z, hz, z', hz', e⟩ := hu
        exact ⟨z, renL_ok hasm hS hsv _ _ _ _ h1 (fun q hq => hh q (List.mem_append_left _ hq)) hz, z', renL_ok hasm hS hsv _ _ _ _ h2 (fun q hq => hh q (List.mem_append_right _ hq)) hz', e⟩
      · rw [if_neg hf] at h; cases h
    · cases h
  | .iface t x, v, hs, u, h, hh, hu => by
    rw [renV] at h
    split at h
    · next g hg =>
      have := ifOf_eq hg
      subst this
      cases hb : Nat.beq t g.t with
      | false => rw [hb] at h; cases h
      | true =>
        rw [hb] at h
        have : t = g.t := by simpa using hb
        subst this
        simp only [cv, Option.map_eq_some_iff] at hu ⊢
        obtain ⟨z, hz, e⟩ := hu
        exact ⟨z, renV_ok hasm hS hsv _ _ _ _ h hh hz, e⟩
    · cases h
  | .agg l, v, hs, u, h, hh, hu => by
    rw [renV] at h
    split at h
    · next l' hg =>
      have := aggOf_eq hg
      subst this
      simp only [cv, Option.map_eq_some_iff] at hu ⊢
      obtain ⟨z, hz, e⟩ := hu
      exact ⟨z, renL_ok hasm hS hsv _ _ _ _ h hh hz, e⟩
    · cases h
  | .tup l, v, hs, u, h, hh, hu => by
    rw [renV] at h
    split at h
    · next l' hg =>
      have := tupOf_eq hg
      subst this
      simp only [cv, Option.map_eq_some_iff] at hu ⊢
      obtain ⟨z, hz, e⟩ := hu
      exact ⟨z, renL_ok hasm hS hsv _ _ _ _ h hh hz, e⟩
    · cases h
  | .opq x, v, hs, u, h, hh, hu => by
    rw [renV] at h; unfold renOpq at h
    split at h
    · next y =>
      cases hb : Nat.beq x y with
      | false => rw [hb] at h; cases h
      | true =>
        rw [hb] at h; cases h
        have e : x = y := by simpa using hb
        subst e
        have := hh _ (List.mem_cons_self ..)
        simp only [HoleIs, IE.den] at this
        simp only [cv, this, hsv] at hu ⊢
        exact hu
    · cases h
  | .str l, v, hs, u, h, hh, hu => by rw [renV] at h; rw [← same_eq _ _ (yesH_eq h)] at hu; simpa [cv] using hu
  | .nilp, v, hs, u, h, hh, hu => by rw [renV] at h; rw [← same_eq _ _ (yesH_eq h)] at hu; simpa [cv] using hu
  | .nils, v, hs, u, h, hh, hu => by rw [renV] at h; rw [← same_eq _ _ (yesH_eq h)] at hu; simpa [cv] using hu
  | .nilm, v, hs, u, h, hh, hu => by rw [renV] at h; rw [← same_eq _ _ (yesH_eq h)] at hu; simpa [cv] using hu
  | .nilf, v, hs, u, h, hh, hu => by rw [renV] at h; rw [← same_eq _ _ (yesH_eq h)] at hu; simpa [cv] using hu
  | .nili, v, hs, u, h, hh, hu => by rw [renV] at h; rw [← same_eq _ _ (yesH_eq h)] at hu; simpa [cv] using hu
  | .sstr s, v, hs, u, h, hh, hu => by rw [renV] at h; exact renStr_ok h hh hu
  | .sslc p lo hi cp, v, hs, u, h, hh, hu => by rw [renV] at h; exact renSslc_ok hS h hh hu
  | .sptr _ _, v, hs, u, h, hh, hu => by rw [renV] at h; cases h
  | .yld _, v, hs, u, h, hh, hu => by rw [renV] at h; cases h
  | .bad, v, hs, u, h, hh, hu => by rw [renV] at h; cases h
theorem renL_ok {m : Trie Ren} {asm : List (BE × Bool)} (hasm : AsmOk ρ asm) (hS : SameR m E E') (hsv : ρ'.sv = ρ.sv) : ∀ (t v : List AV) (hs : List Hole) (us : List Value), renL m asm t v = some hs → (∀ y ∈ hs, HoleIs ρ ρ' y) → cvs ρ E v = some us → cvs ρ' E' t = some us
  | [], v, hs, us, h, hh, hu => by
    unfold renL at h
    split at h
    · simpa [cvs] using hu
    · cases h
  | t :: l, v, hs, us, h, hh, hu => by
    unfold renL at h
    split at h
    · cases h
    · next a r =>
      obtain ⟨x, y, h1, h2, rfl⟩ := joinH_eq h
      simp only [cvs, Option.bind_eq_some_iff, Option.map_eq_some_iff] at hu ⊢
      obtain ⟨u, hu1, z, hz, e⟩ := hu
      exact ⟨u, renV_ok hasm hS hsv t a x u h1 (fun q hq => hh q (List.mem_append_left _ hq)) hu1, z, renL_ok hasm hS hsv l r y z h2 (fun q hq => hh q (List.mem_append_right _ hq)) hz, e⟩
end
theorem renE_ok {m : Trie Ren} {asm : List (BE × Bool)} (hasm : AsmOk ρ asm) (hS : SameR m E E') (hsv : ρ'.sv = ρ.sv) : ∀ (t v : List Ent) (hs : List Hole) (us : List MapEntry), renE m asm t v = some hs → (∀ y ∈ hs, HoleIs ρ ρ' y) → centries ρ E v = some us → centries ρ' E' t = some us
  | [], v, hs, us, h, hh, hu => by
    cases v with
    | nil => simpa [centries] using hu
    | cons _ _ => cases h
  | t :: l, v, hs, us, h, hh, hu => by
    cases v with
    | nil => cases h
    | cons a r =>
      rw [renE] at h
      cases hb : Nat.beq t.born a.born with
      | false => rw [hb] at h; cases h
      | true =>
        rw [hb] at h
        simp only [cond_true] at h
        have hb : t.born = a.born := by simpa using hb
        obtain ⟨x, y, h1, h2, rfl⟩ := joinH_eq h
        obtain ⟨x1, x2, g1, g2, rfl⟩ := joinH_eq h1
        simp only [centries, centry, Option.bind_eq_some_iff, Option.map_eq_some_iff] at hu ⊢
        obtain ⟨me, ⟨uk, hk, uv, hv, rfl⟩, z, hz, e⟩ := hu
        exact ⟨_, ⟨uk, renV_ok hasm hS hsv _ _ _ _ g1 (fun q hq => hh q (List.mem_append_left _ (List.mem_append_left _ hq))) hk, uv,
          renV_ok hasm hS hsv _ _ _ _ g2 (fun q hq => hh q (List.mem_append_left _ (List.mem_append_right _ hq))) hv, rfl⟩, z, renE_ok hasm hS hsv l r y z h2 (fun q hq => hh q (List.mem_append_right _ hq)) hz, by rw [hb]; exact e⟩
/-! ### what a fit says -/
theorem mem_prT {l : List PR} {p : Pos} {r : Ren} (h : (prT l).get p = some r) : ∃ x ∈ l, x.p = p ∧ x.r = r := by
  induction l with
  | nil => simp [prT] at h
  | cons x l ih =>
    rw [prT, Trie.get_put] at h
    by_cases e : p = x.p
    · rw [if_pos e] at h; cases h
      exact ⟨x, List.mem_cons_self, e.symm, rfl⟩
    · rw [if_neg e] at h
      obtain ⟨y, h1, h2⟩ := ih h
      exact ⟨y, List.mem_cons_of_mem _ h1, h2⟩
theorem renTmps_mem {m : Trie Ren} {asm : List (BE × Bool)} : ∀ {l : List (Nat × AV)} {hs : List Hole}, renTmps m asm fr l = some hs → ∀ t v, (t, v) ∈ l → ∃ x hs', fr.tmps.get (posOf t) = some x ∧ renV m asm v x = some hs' ∧ ∀ y ∈ hs', y ∈ hs
  | [], _, _, t, v, hm => by cases hm
  | (t0, v0) :: l, hs, h, t, v, hm => by
    unfold renTmps at h
    split at h
    · next x hx =>
      obtain ⟨h1, h2, e1, e2, rfl⟩ := joinH_eq h
      rcases List.mem_cons.1 hm with e | hm
      · cases e; exact ⟨x, h1, hx, e1, fun y hy => List.mem_append_left _ hy⟩
      · obtain ⟨x', hs', g1, g2, g3⟩ := renTmps_mem e2 t v hm
        exact ⟨x', hs', g1, g2, fun y hy => List.mem_append_right _ (g3 y hy)⟩
    · cases h
theorem renHeap_mem {m : Trie Ren} {asm : List (BE × Bool)} {hp : Trie Blk} : ∀ {l : List (Nat × Blk)} {hs : List Hole}, renHeap m asm hp l = some hs → ∀ t v, (t, v) ∈ l →
    ∃ r x hs', m.get (posOf t) = some r ∧ hp.get r.q = some x ∧ renB m asm r v x = some hs' ∧ ∀ y ∈ hs', y ∈ hs
  | [], _, _, t, v, hm => by cases hm
  | (t0, v0) :: l, hs, h, t, v, hm => by
    unfold renHeap at h
    split at h
    · cases h
    · next r hr =>
      split at h
      · next x hx =>
        obtain ⟨h1, h2, e1, e2, rfl⟩ := joinH_eq h
        rcases List.mem_cons.1 hm with e | hm
        · cases e; exact ⟨r, x, h1, hr, hx, e1, fun y hy => List.mem_append_left _ hy⟩
        · obtain ⟨r', x', hs', g0, g1, g2, g3⟩ := renHeap_mem e2 t v hm
          exact ⟨r', x', hs', g0, g1, g2, fun y hy => List.mem_append_right _ (g3 y hy)⟩
      · cases h
structure FitR (T : Tpl) (fr : Fr) (s : St) (hs : List Hole) (m : Trie Ren) : Prop where
  tmps : ∀ t v, (t, v) ∈ T.tmps → ∃ x hs', fr.tmps.get (posOf t) = some x ∧ renV m s.asm v x = some hs' ∧ ∀ y ∈ hs', y ∈ hs
  heap : ∀ t v, (t, v) ∈ T.heap → ∃ r x hs', m.get (posOf t) = some r ∧ s.heap.get r.q = some x ∧ renB m s.asm r v x = some hs' ∧ ∀ y ∈ hs', y ∈ hs
  ok : hs.all (holeOk hs) = true
  defs : fr.defs = []
  below : T.below = true
  dom : ∀ p r, m.get p = some r → T.dom p = true
  inj : ∀ p p' r r', m.get p = some r → m.get p' = some r' → r.q = r'.q → p = p'
theorem fitsBy_ok {T : Tpl} {hs : List Hole} {prs : List PR} (h : T.fitsBy fr s prs = some hs) : FitR T fr s hs (prT prs) := by
  unfold Tpl.fitsBy at h
  split at h
  · next hs' hj =>
    obtain ⟨h1, h2, e1, e2, rfl⟩ := joinH_eq hj
    cases hb : (h1 ++ h2).all (holeOk (h1 ++ h2)) && noDefs fr && T.below && prs.all (fun x => T.dom x.p) && prs.all (backOk (prR prs)) with
    | false => rw [hb] at h; cases h
    | true =>
      rw [hb] at h; cases h
      simp only [Bool.and_eq_true] at hb
      obtain ⟨⟨⟨⟨hb1, hb2⟩, hb3⟩, hb4⟩, hb5⟩ := hb
      refine ⟨fun t v hm => ?_, fun t v hm => ?_, hb1, ?_, hb3, fun p r hp => ?_, fun p p' r r' hp hp' e => ?_⟩
      · obtain ⟨x, hs', g1, g2, g3⟩ := renTmps_mem e1 t v hm
        exact ⟨x, hs', g1, g2, fun y hy => List.mem_append_left _ (g3 y hy)⟩
      · obtain ⟨r, x, hs', g0, g1, g2, g3⟩ := renHeap_mem e2 t v hm
        exact ⟨r, x, hs', g0, g1, g2, fun y hy => List.mem_append_right _ (g3 y hy)⟩
      · cases hd : fr.defs with
        | nil => rfl
        | cons _ _ => simp [noDefs, hd] at hb2
      · obtain ⟨x, hx, rfl, _⟩ := mem_prT hp
        exact List.all_eq_true.1 hb4 x hx
      · obtain ⟨x, hx, rfl, rfl⟩ := mem_prT hp
        obtain ⟨x', hx', rfl, rfl⟩ := mem_prT hp'
        have k1 := List.all_eq_true.1 hb5 x hx
        have k2 := List.all_eq_true.1 hb5 x' hx'
        unfold backOk at k1 k2
        rw [← e] at k2
        split at k1
        · next y hy =>
          rw [hy] at k2
          rw [← (Pos.beq_eq _ _).1 k1, ← (Pos.beq_eq _ _).1 k2]
        · cases k1
  · cases h
theorem fitsR_ok {T : Tpl} {hs : List Hole} (h : T.fitsR fr s = some hs) : ∃ m, FitR T fr s hs m := ⟨_, fitsBy_ok h⟩
theorem firstFitR_ok {ae : AExit} {leaf : Leaf} : ∀ {Ts : List Tpl} {j : Nat}, (firstFitR ae fr s Ts j).run ρ = some leaf → ∃ i T, j + i = leaf.j ∧ Ts[i]? = some T ∧ T.fitsR fr s = some leaf.hs ∧ leaf.how = ae
  | [], j, h => by cases h
  | T :: l, j, h => by
    unfold firstFitR at h
    split at h
    · next hs hf =>
      cases h
      exact ⟨0, T, rfl, rfl, hf, rfl⟩
    · obtain ⟨i, T', h1, h2, h3, h4⟩ := firstFitR_ok h
      exact ⟨i + 1, T', by omega, by simpa using h2, h3, h4⟩
end Go.Ab
end

section
namespace Go.Ab
open Go.RowKit (Below)
variable {ρ ρ' : Val} {E E' : Mem} {P : Program} {β : Type} {s : St} {w w0 : World} {fr : Fr} {a : Act} {nt mask : Nat}
noncomputable def renMem (m : Trie Ren) (E : Mem) : Mem := ⟨fun p => (m.get p).bind fun r => (E.blk r.q).map fun c => (c.1, c.2 + r.dc), fun p => match m.get p with | some r => E.cap r.q - r.dn | none => 0⟩
theorem renMem_same (m : Trie Ren) (E : Mem) : SameR m E (renMem m E) :=
  ⟨fun p r h => by simp [renMem, h], fun p r h => by simp [renMem, h]⟩
theorem renB_kind {m : Trie Ren} {asm : List (BE × Bool)} {rr : Ren} {b b' : Blk} {hs : List Hole} (h : renB m asm rr b b' = some hs) : Live b' ∧ (∀ x sz cs, b' ≠ .win x sz cs) ∧ (∀ x k t, b' = .ro x k t → ∃ t', b = .ro x k t') := by
  unfold renB at h
  split at h
  · exact ⟨by simp [Live], by simp, by simp⟩
  · exact ⟨by simp [Live], by simp, by simp⟩
  · exact ⟨by simp [Live], by simp, by simp⟩
  · exact ⟨by simp [Live], by simp, by simp⟩
  · exact ⟨by simp [Live], by simp, by simp⟩
  · next x k y x' k' y' =>
    refine ⟨by simp [Live], by simp, fun x2 k2 t2 e => ?_⟩
    cases e
    cases hb : Nat.beq x x' && kEq k k' && Nat.beq y y' && Nat.beq rr.dc 0 && Nat.beq rr.dn 0 with
    | false => rw [hb] at h; cases h
    | true =>
      simp only [Bool.and_eq_true, Nat.beq_eq] at hb
      obtain ⟨⟨⟨⟨rfl, hk⟩, _⟩, _⟩, _⟩ := hb
      rw [(kEq_iff _ _).1 hk]
      exact ⟨_, rfl⟩
  · cases h
/-- the end: a fit is a state at the template -/
theorem end_tplR {ρ' : Val} {T' : Tpl} {W : Option Win1} {fr' : Fr} {s0 s' : St} {E1 E' : Mem} {w w' : World} {a' : Act} {hs : List Hole} {m : Trie Ren} (hfit : FitR T' fr' s' hs m) (hwin : winThere W s' = true)
    (hst : Step E1 s0 w E' s' w') (hr' : HRel ρ E' s' w') (hf' : FrRel ρ nt mask E' fr' a') (hb : Below w0.heap.size w0 w)
    (hown : ∀ p b k o, s0.heap.get p = some b → Live b → E1.blk p = some (k, o) → OwnK w0 ρ W p b k)
    (hwc : ∀ W', W = some W' → ∃ c o, E1.blk (posOf W'.x) = some (c, o) ∧ c < w0.heap.size ∧ w0.heap[c]? = some (ρ.obj W'.x))
    (hholes : ∀ y ∈ hs, HoleIs ρ ρ' y) (hsv0 : SameV ρ ρ') : AtT nt mask w0 T' ρ' a' w' := by
  have hsv := hsv0.sv
  have hS := renMem_same m E'
  have hblk : ∀ p b, (tof T'.heap).get p = some b → ∃ n r b' hs', p = posOf n ∧ (n, b) ∈ T'.heap ∧ m.get p = some r ∧ s'.heap.get r.q = some b' ∧ renB m s'.asm r b b' = some hs' ∧ ∀ y ∈ hs', y ∈ hs := by
    intro p b hp
    obtain ⟨n, rfl, hm⟩ := mem_of_tof hp
    obtain ⟨r, x, hs', g0, g1, g2, g3⟩ := hfit.heap n b hm
    exact ⟨n, r, x, hs', rfl, hm, g0, g1, g2, g3⟩
  have hlive : ∀ r b b' hs', renB m s'.asm r b b' = some hs' → Live b' ∧ (∀ x sz cs, b' ≠ .win x sz cs) ∧ (∀ x k t, b' = .ro x k t → ∃ t', b = .ro x k t') := fun r b b' hs' h => renB_kind h
  have hlt : ∀ n b, (n, b) ∈ T'.heap → n < T'.next := by
    intro n b hm
    have := List.all_eq_true.1 hfit.below (n, b) hm
    simpa using this
  have hdomlt : ∀ p, T'.dom p = true → p.toNat < (posOf T'.next).toNat := by
    intro p hd
    cases hg : (tof T'.heap).get p with
    | none => unfold Tpl.dom at hd; rw [hg] at hd; cases hd
    | some b =>
      obtain ⟨n, rfl, hm⟩ := mem_of_tof hg
      have := hlt n b hm
      rw [posOf_toNat, posOf_toNat]; omega
  refine ⟨renMem m E', ⟨?_, ?_, ?_, ?_, fun c b h => by cases h⟩, ⟨hf'.size, ?_, ?_, ?_⟩, ⟨?_, ?_⟩, fun p hp => ?_⟩
  · intro p b hp
    obtain ⟨n, r, b', hs', rfl, hm, g0, g1, g2, g3⟩ := hblk p b hp
    have hbr := hr'.blks _ _ g1
    have hEb := hS.blk _ _ g0
    have hEc := hS.cap _ _ g0
    unfold renB at g2
    split at g2
    · next cs q ds q' =>
      cases hq : q == q' && Nat.beq r.dc 0 && Nat.beq r.dn 0 with
      | false => rw [hq] at g2; cases g2
      | true =>
        rw [hq] at g2
        simp only [Bool.and_eq_true, Nat.beq_eq] at hq
        obtain ⟨⟨hq, hd⟩, hn⟩ := hq
        have : q = q' := by simpa using hq
        subst this
        obtain ⟨c, o, us, pre, rest, t, fz, h1, h2, h3, h4, h5, h6⟩ := hbr
        rw [h1, hd] at hEb
        exact ⟨c, o, us, pre, rest, t, fz, by rw [hEb]; rfl, renL_ok (ρ := ρ) (ρ' := ρ') hr'.asm hS hsv _ _ _ _ g2 (fun y hy => hholes y (g3 y hy)) h2, h3, h4, h5, h6⟩
    · next cs z ds y =>
      cases hq : Nat.beq z y && Nat.beq r.dc (r.dn * z) && Nat.ble r.dc ds.length with
      | false => rw [hq] at g2; cases g2
      | true =>
        rw [hq] at g2
        simp only [Bool.and_eq_true, Nat.beq_eq, Nat.ble_eq] at hq
        obtain ⟨⟨hz, hd⟩, hle⟩ := hq
        subst hz
        obtain ⟨c, o, us, pre, rest, t, fz, h1, h2, h3, h4, h5, h6⟩ := hbr
        have hlen := cvs_length h2
        rw [h1] at hEb
        have hdrop : cvs ρ E' (dropL r.dc ds) = some (us.drop r.dc) := by rw [dropL_eq]; exact cvs_drop _ h2
        refine ⟨c, o + r.dc, us.drop r.dc, pre ++ us.take r.dc, rest, t, fz, by rw [hEb]; rfl, renL_ok (ρ := ρ) (ρ' := ρ') hr'.asm hS hsv _ _ _ _ g2 (fun y hy => hholes y (g3 y hy)) hdrop, ?_, ?_, ?_, ?_⟩
        · rw [h3]
          congr 2
          rw [List.append_assoc pre (us.take r.dc), List.take_append_drop]
        · simp; omega
        · rw [hEc, Nat.sub_mul, ← h5, ← hd, List.length_drop]; omega
        · intro j hj1 hj2
          refine h6 j (by omega) ?_
          rw [List.length_drop] at hj2
          omega
    · next es c es' c' =>
      cases hq : Nat.beq c c' && Nat.beq r.dc 0 && Nat.beq r.dn 0 with
      | false => rw [hq] at g2; cases g2
      | true =>
        rw [hq] at g2
        simp only [Bool.and_eq_true, Nat.beq_eq] at hq
        obtain ⟨⟨hc, hd⟩, hn⟩ := hq
        subst hc
        obtain ⟨k, o, us, h1, h2, h3⟩ := hbr
        rw [h1, hd] at hEb
        exact ⟨k, o, us, by rw [hEb]; rfl, renE_ok (ρ := ρ) (ρ' := ρ') hr'.asm hS hsv _ _ _ _ g2 (fun y hy => hholes y (g3 y hy)) h2, h3⟩
    · next k x cp k' s2 cp' =>
      cases hq : kEq k k' && Nat.beq r.dc 0 && Nat.beq r.dn 0 with
      | false => rw [hq] at g2; cases g2
      | true =>
        rw [hq] at g2
        simp only [Bool.and_eq_true, Nat.beq_eq] at hq
        obtain ⟨⟨hk, hd⟩, hn⟩ := hq
        have hk := (kEq_iff _ _).1 hk
        subst hk
        simp only [cond_true] at g2
        obtain ⟨x1, x2, e1, e2, rfl⟩ := joinH_eq g2
        cases e1
        obtain ⟨c, o, pre, rest, t, fz, h1, h2, h3, h4, h5⟩ := hbr
        have hqv : ρ'.qv x = s2.sden ρ := hholes _ (g3 _ (List.mem_append_left _ (List.mem_cons_self ..)))
        have hce := renCp_ok (ρ := ρ) (ρ' := ρ') (p := posOf n) (q := r.q) (E := E') (E' := renMem m E') e2 (fun y hy => hholes y (g3 y (List.mem_append_right _ hy))) (by rw [hEc, hn, Nat.sub_zero])
        rw [h1, hd] at hEb
        refine ⟨c, o, pre, rest, t, fz, by rw [hEb]; rfl, ?_, h3, ?_, ?_⟩
        · simp only [IE.sden, hqv]; exact h2
        · simp only [IE.sden, hqv]; rw [hce]; exact h4
        · simp only [IE.sden, hqv]; exact h5
    · next k x ds z =>
      cases hq : Nat.beq z 1 && Nat.beq r.dc 0 && Nat.beq r.dn 0 with
      | false => rw [hq] at g2; cases g2
      | true =>
        rw [hq] at g2
        simp only [Bool.and_eq_true, Nat.beq_eq] at hq
        obtain ⟨⟨hz, hd⟩, hn⟩ := hq
        subst hz
        simp only [cond_true, Option.map_eq_some_iff] at g2
        obtain ⟨te, hte, rfl⟩ := g2
        obtain ⟨c, o, us, pre, rest, t, fz, h1, h2, h3, h4, h5, h6⟩ := hbr
        have hqv : ρ'.qv x = te.sden ρ := hholes _ (g3 _ (List.mem_cons_self ..))
        have hus := seqE_cvs hte h2
        have hul : us.length = (te.sden ρ).length := by rw [hus, List.length_map]
        rw [h1, hd] at hEb
        refine ⟨c, o, pre, rest, t, fz, by rw [hEb]; rfl, ?_, h4, ?_, ?_⟩
        · simp only [IE.sden, hqv]; rw [← hus]; exact h3
        · simp only [IE.sden, hqv, capE]; rw [hEc, hn, Nat.sub_zero, ← hul, h5, Nat.mul_one]
        · simp only [IE.sden, hqv]; rw [← hul]; exact h6
    · next x k y x' k' y' =>
      cases hq : Nat.beq x x' && kEq k k' && Nat.beq y y' && Nat.beq r.dc 0 && Nat.beq r.dn 0 with
      | false => rw [hq] at g2; cases g2
      | true =>
        rw [hq] at g2
        simp only [Bool.and_eq_true, Nat.beq_eq] at hq
        obtain ⟨⟨⟨⟨hx, hk⟩, hy⟩, hd⟩, hn⟩ := hq
        have hk := (kEq_iff _ _).1 hk
        subst hk hx hy
        simp only [cond_true, Option.some.injEq] at g2
        subst g2
        obtain ⟨c, o, pre, rest, t, fz, h1, h2, h3, h4, h5⟩ := hbr
        have hqv : ρ'.qv y = ρ.qv y := hholes _ (g3 _ (List.mem_cons_self ..))
        rw [h1, hd] at hEb
        refine ⟨c, o, pre, rest, t, fz, by rw [hEb]; rfl, ?_, h3, ?_, ?_⟩
        · simp only [IE.sden, hqv] at h2 ⊢; exact h2
        · simp only [IE.sden, hqv] at h4 ⊢; rw [hEc, hn, Nat.sub_zero]; exact h4
        · simp only [IE.sden, hqv, hsv0.obj] at h5 ⊢; exact h5
    · cases g2
  · intro p q b1 b2 c o o' hp hq hl hl' he he'
    obtain ⟨n, r, b', hs', rfl, hm, g0, g1, g2, g3⟩ := hblk p b1 hp
    obtain ⟨n2, r2, b2', hs2', rfl, hm2, k0, k1, k2, k3⟩ := hblk q b2 hq
    rw [hS.blk _ _ g0] at he
    rw [hS.blk _ _ k0] at he'
    obtain ⟨x, hx, e⟩ := Option.map_eq_some_iff.1 he
    obtain ⟨x', hx', e'⟩ := Option.map_eq_some_iff.1 he'
    obtain ⟨x1, x2⟩ := x
    obtain ⟨y1, y2⟩ := x'
    cases e; cases e'
    rcases hr'.inj _ _ _ _ _ x2 y2 g1 k1 (hlive _ _ _ _ g2).1 (hlive _ _ _ _ k2).1 hx hx' with e | ⟨e1, e2⟩
    · exact .inl (hfit.inj _ _ _ _ g0 k0 e)
    · have isro : ∀ {b b' : Blk}, (∀ x k t, b' = .ro x k t → ∃ t', b = .ro x k t') → b'.isRo = true → b.isRo = true := fun {b b'} h e => by
        cases b' <;> simp [Blk.isRo] at e
        obtain ⟨t', ht⟩ := h _ _ _ rfl
        rw [ht]; rfl
      exact .inr ⟨isro (hlive _ _ _ _ g2).2.2 e1, isro (hlive _ _ _ _ k2).2.2 e2⟩
  · intro p b hp
    exact hdomlt p (dom_some hp)
  · intro p x hp
    unfold renMem at hp
    cases hg : m.get p with
    | none => simp [hg] at hp
    | some r => exact hdomlt p (hfit.dom p r hg)
  · intro t v hv
    obtain ⟨n, hn, hm⟩ := mem_of_tof hv
    have := posOf_inj hn
    subst this
    obtain ⟨x, hs', g1, g2, g3⟩ := hfit.tmps t v hm
    exact renV_ok (ρ := ρ) (ρ' := ρ') hr'.asm hS hsv _ _ _ _ g2 (fun y hy => hholes y (g3 y hy)) (hf'.val t x g1)
  · intro t v hv
    obtain ⟨n, hn, hm⟩ := mem_of_tof hv
    have := posOf_inj hn
    subst this
    obtain ⟨x, hs', g1, g2, g3⟩ := hfit.tmps t v hm
    exact hf'.key t x g1
  · have := hf'.defs
    rw [hfit.defs] at this
    show DRel _ _ [] a'.defers
    rw [this.nil_eq]; exact .nil
  · exact ⟨hst.os.trans hb.os, hst.tape.trans hb.tape, hst.out.trans hb.output, Nat.le_trans hb.size hst.size, fun k hk => frame_end hwin hst hr' hb hown hwc hk⟩
  · intro p b k o hp hl he
    obtain ⟨n, r, b', hs', rfl, hm, g0, g1, g2, g3⟩ := hblk p b hp
    rw [hS.blk _ _ g0] at he
    obtain ⟨x, hx, e⟩ := Option.map_eq_some_iff.1 he
    obtain ⟨x1, x2⟩ := x
    cases e
    obtain ⟨hl', hnw, hro⟩ := hlive _ _ _ _ g2
    rcases own_end hwin hst hr' hb hown g1 hl' hnw hx with h | ⟨x, kd, t, rfl, h⟩
    · exact .inl h
    · obtain ⟨t', rfl⟩ := hro _ _ _ rfl
      exact .inr ⟨x, kd, t', rfl, by rw [hsv0.obj]; exact h⟩
  · unfold renMem
    cases hg : m.get p with
    | none => simp [hg]
    | some r => rw [hfit.dom p r hg] at hp; cases hp
theorem run_tplR {X : Ex Leaf} (hX : ExOk P X) {l : List Code} {T : Tpl} {Ts : List Tpl} {W : Option Win1} {asm : List (BE × Bool)} {leaf : Leaf} (hnt : nt < 65536) (hat : AtT nt mask w0 T ρ a w)
    (hW : ∀ W', W = some W' → WinOk ρ W' w0) (hfree : winFree W T = true) (hasm : AsmOk ρ asm)
    (hrun : (runL X P nt mask l T.fr (T.st W asm) (leafKR Ts W)).run ρ = some leaf) : wpL P l (LeafPost nt mask w0 Ts ρ leaf) a w := by
  obtain ⟨E, hr, hf, hb, hown, hwc⟩ := start_tpl hat hW hfree hasm
  refine wpL_mono (fun e a' w' hp => ?_) _ _ _ (runL_ok hX hnt l _ _ E w a hrun hr hf)
  obtain ⟨ae, fr', s', E', rfl, hk, hst, hr', hf'⟩ := hp
  obtain ⟨hwin, hk⟩ := run_guardB (t := firstFitR ae fr' s' Ts 0) hk
  obtain ⟨i, T', h1, h2, h3, h4⟩ := firstFitR_ok hk
  obtain ⟨m, hfit⟩ := fitsR_ok h3
  refine ⟨by rw [h4], hfit.ok, T', ?_, fun ρ' hh hsv => end_tplR hfit hwin hst hr' hf' hb hown hwc hh hsv⟩
  rw [← h1, Nat.zero_add]; exact h2
/-- .. where every leaf passes a check -/
theorem run_tplR_all {X : Ex Leaf} (hX : ExOk P X) {l : List Code} {T : Tpl} {Ts : List Tpl} {W : Option Win1} {asm : List (BE × Bool)} {p : Leaf → Bool} (hnt : nt < 65536) (hat : AtT nt mask w0 T ρ a w)
    (hW : ∀ W', W = some W' → WinOk ρ W' w0) (hfree : winFree W T = true) (hasm : AsmOk ρ asm)
    (hrun : (runL X P nt mask l T.fr (T.st W asm) (leafKR Ts W)).all p = true) : wpL P l (fun e a' w' => ∃ leaf, p leaf = true ∧ LeafPost nt mask w0 Ts ρ leaf e a' w') a w := by
  obtain ⟨leaf, h1, h2⟩ := Tree.all_run ρ hrun
  exact wpL_mono (fun e a' w' h => ⟨leaf, h2, h⟩) _ _ _ (run_tplR hX hnt hat hW hfree hasm h1)
end Go.Ab
end

section
namespace Go.Ab
open Go.RowKit (Below)
variable {ρ ρ' : Val} {E E' : Mem} {P : Program} {β : Type} {s : St} {w w0 : World} {fr : Fr} {a : Act} {nt mask : Nat}
/-! ### what a number depends on -/
def IE.only (x : Nat) : IE → Bool
  | .v y => Nat.beq x y
  | .c _ => true
  | .bin _ _ a b => a.only x && b.only x
  | .cv _ a => a.only x
  | _ => false
def BE.only (x : Nat) : BE → Bool
  | .v _ => false
  | .cmp _ a b => a.only x && b.only x
  | .not b => b.only x
  | .seq _ _ => false
theorem IE.only_ok {x : Nat} (h : ρ.iv x = ρ'.iv x) : ∀ {e : IE}, e.only x = true → e.den ρ = e.den ρ'
  | .v y, hy => by
    have : x = y := by simpa [IE.only] using hy
    subst this; exact h
  | .c _, _ => rfl
  | .bin _ _ a b, hy => by
    simp only [IE.only, Bool.and_eq_true] at hy
    simp only [IE.den, IE.only_ok h hy.1, IE.only_ok h hy.2]
  | .cv _ a, hy => by
    simp only [IE.den, IE.only_ok h (e := a) hy]
  | .sv _, hy | .sl _, hy | .app _ _, hy | .one _, hy | .sub _ _ _, hy | .len _, hy | .nth _ _, hy | .byt _ _, hy => by cases hy
theorem BE.only_ok {x : Nat} (h : ρ.iv x = ρ'.iv x) : ∀ {e : BE}, e.only x = true → e.den ρ = e.den ρ'
  | .v _, hy => by cases hy
  | .cmp _ a b, hy => by
    simp only [BE.only, Bool.and_eq_true] at hy
    simp only [BE.den, IE.only_ok h hy.1, IE.only_ok h hy.2]
  | .not b, hy => by simp only [BE.den, BE.only_ok h (e := b) hy]
  | .seq _ _, hy => by cases hy
/-- a valuation in which one number is known -/
def atV (z : Int) : Val := ⟨fun _ => z, fun _ => false, fun _ => (none, 0), fun _ => .cells #[] 0 (0, 0), fun _ => []⟩
/-- facts on one number from 0 to n - 1, checked at each -/
noncomputable def factsAt (x : Nat) (l : List (BE × Bool)) (z : Int) : Bool := l.all fun c => c.1.only x && (c.1.den (atV z) == c.2)
noncomputable def factsUpto (x : Nat) (l : List (BE × Bool)) (n : Nat) : Bool := Nat.rec (motive := fun _ => Bool) true (fun m ih => factsAt x l (.ofNat m) && ih) n
theorem factsUpto_at {x : Nat} {l : List (BE × Bool)} : ∀ {n : Nat}, factsUpto x l n = true → ∀ m, m < n → factsAt x l (.ofNat m) = true
  | 0, _, m, hm => absurd hm (Nat.not_lt_zero _)
  | n + 1, h, m, hm => by
    have h : (factsAt x l (.ofNat n) && factsUpto x l n) = true := h
    rw [Bool.and_eq_true] at h
    by_cases e : m = n
    · rw [e]; exact h.1
    · exact factsUpto_at h.2 m (by omega)
theorem factsUpto_ok {x n : Nat} {l : List (BE × Bool)} (h : factsUpto x l n = true) (h0 : 0 ≤ ρ.iv x) (h1 : ρ.iv x < n) : AsmOk ρ l := by
  intro c b hm
  have h2 := factsUpto_at h (ρ.iv x).toNat (by omega)
  have h3 := List.all_eq_true.1 h2 _ hm
  simp only [Bool.and_eq_true, beq_iff_eq] at h3
  rw [BE.only_ok (ρ' := atV (.ofNat (ρ.iv x).toNat)) _ h3.1, h3.2]
  show ρ.iv x = Int.ofNat (ρ.iv x).toNat
  have : Int.ofNat (ρ.iv x).toNat = ((ρ.iv x).toNat : Int) := rfl
  rw [this]; omega
theorem AsmOk.nil : AsmOk ρ [] := fun c b hm => by cases hm
theorem AsmOk.cons {c : BE} {b : Bool} {l : List (BE × Bool)} (h : c.den ρ = b) (hl : AsmOk ρ l) : AsmOk ρ ((c, b) :: l) := by
  intro c' b' hm
  rcases List.mem_cons.1 hm with e | hm
  · cases e; exact h
  · exact hl _ _ hm
theorem AsmOk.append {l m : List (BE × Bool)} (h : AsmOk ρ l) (h' : AsmOk ρ m) : AsmOk ρ (l ++ m) := by
  intro c b hm
  rcases List.mem_append.1 hm with e | e
  · exact h _ _ e
  · exact h' _ _ e
theorem den_leq {a b : IE} {p : Bool} (h : decide (a.den ρ ≤ b.den ρ) = p) : (BE.cmp .leq a b).den ρ = p := by rw [leq_den]; exact h
theorem den_eql {a b : IE} {p : Bool} (h : decide (a.den ρ = b.den ρ) = p) : (BE.cmp .eql a b).den ρ = p := by
  simp only [BE.den, cmpF, eqlF]
  rw [← h]
  cases hb : ieq (a.den ρ) (b.den ρ) with
  | true => have := (ieq_iff _ _).1 hb; simp [this]
  | false =>
    have : a.den ρ ≠ b.den ρ := fun e => by rw [(ieq_iff _ _).2 e] at hb; cases hb
    simp [this]
theorem den_addC {a : IE} {n : Int} (h : -10000000 ≤ a.den ρ + n ∧ a.den ρ + n ≤ 10000000) : (IE.bin .add .i64 a (.c n)).den ρ = a.den ρ + n := by
  show wrapF .i64 (a.den ρ + n) = _
  exact wrap_small h

/-! ### loops, with what holds of each template -/
theorem loop_J {b : Code} {J : Tpl → Val → Prop} {μ : Val → Nat} {Q : Exit → Act → World → Prop}
    (hstep : ∀ ρ T a w, J T ρ → AtT nt mask w0 T ρ a w → b.wp P (fun e a' w' => (e = .normal ∧ ∃ T' ρ', J T' ρ' ∧ μ ρ' < μ ρ ∧ AtT nt mask w0 T' ρ' a' w') ∨ (e ≠ .normal ∧ Q e a' w')) a w) :
    ∀ (m : Nat) (ρ : Val) (T : Tpl) (a : Act) (w : World), μ ρ < m → J T ρ → AtT nt mask w0 T ρ a w → LoopRun P none b Q a w
  | 0, _, _, _, _, h, _, _ => absurd h (Nat.not_lt_zero _)
  | m + 1, ρ, T, a, w, h, hJ, hat => by
    refine .mk (wpIn_wide.2 (wp_mono (hstep ρ T a w hJ hat) fun e a' w' hq => ?_))
    rcases hq with ⟨rfl, T', ρ', h1, h2, h3⟩ | ⟨hne, h1⟩
    · exact loop_J hstep m ρ' T' a' w' (by omega) h1 h3
    · cases e <;> first | exact absurd rfl hne | exact h1
theorem wpL_block_J {b : Code} {J : Tpl → Val → Prop} {μ : Val → Nat} {Q R : Exit → Act → World → Prop} {id : Nat} {suf : List Code}
    (hstep : ∀ ρ T a w, J T ρ → AtT nt mask w0 T ρ a w → b.wp P (fun e a' w' => (e = .normal ∧ ∃ T' ρ', J T' ρ' ∧ μ ρ' < μ ρ ∧ AtT nt mask w0 T' ρ' a' w') ∨ (e ≠ .normal ∧ Q e a' w')) a w)
    (hq : ∀ a w, Q (.exit id) a w → wpL P suf R a w) (hr : ∀ e a w, e ≠ .exit id → e ≠ .normal → Q e a w → R e a w)
    {ρ : Val} {T : Tpl} (hJ : J T ρ) (hat : AtT nt mask w0 T ρ a w) : wpL P (.block id (.loop b) :: suf) R a w := by
  show (Code.block id (.loop b)).wp P (Exit.then (wpL P suf R) R) a w
  have hl : LoopRun P none b (fun e a' w' => e ≠ .normal ∧ Q e a' w') a w := loop_J (μ := μ) (fun ρ T a w hJ hat => wp_mono (hstep ρ T a w hJ hat) fun e a' w' h => by
    rcases h with h | ⟨h1, h2⟩
    · exact .inl h
    · exact .inr ⟨h1, h1, h2⟩) (μ ρ + 1) ρ T a w (by omega) hJ hat
  refine wp_block (wp_mono (wpIn_wide.1 hl.wpIn) fun e a' w' h => ?_)
  obtain ⟨hne, h⟩ := h
  cases e with
  | normal => exact absurd rfl hne
  | exit i =>
    show (if i = id then _ else _)
    by_cases hi : i = id
    · rw [if_pos hi]; subst hi; exact hq _ _ h
    · rw [if_neg hi]; exact hr _ _ _ (by intro he; cases he; exact hi rfl) (by intro he; cases he) h
  | _ => exact hr _ _ _ (by intro he; cases he) (by intro he; cases he) h
/-! ### functions by name -/
noncomputable def infoD (P : Program) (masks : List Nat) (f : Nat) : FnInfo := match fnInfo P masks f with | some i => i | none => ⟨0, 0, .skip, []⟩
theorem infoD_eq {masks : List Nat} {f : Nat} (h : (fnInfo P masks f).isSome = true) : fnInfo P masks f = some (infoD P masks f) := by
  unfold infoD
  cases hh : fnInfo P masks f with
  | none => rw [hh] at h; cases h
  | some i => rfl
noncomputable def codeD (P : Program) (f : Nat) : Code := match funcA P f with | some g => (g.body.getD .skip) | none => .skip
theorem codeD_eq {masks : List Nat} {f : Nat} {i : FnInfo} {fn : Func} {c : Code} (h : (fnInfo P masks f).isSome = true) (hi : InfoOk P f i fn c) : c = codeD P f := by
  unfold codeD
  cases hf : funcA P f with
  | none => unfold fnInfo at h; rw [hf] at h; cases h
  | some fn' =>
    have h1 := funcA_eq hf
    rw [hi.func] at h1
    cases h1
    simp [hi.body]
/-- a closed call that is true, as a summary -/
def sumTrue : SumT := fun β args s k => match args with | [] => k (.bool true) s | _ => (.bad 300 : Tree β)
theorem sumTrue_ok (hm : P.follows .mixedOrders = true) {masks : List Nat} {f n : Nat} {p : Pos} (hf : f ≠ yieldId) (hs : (fnInfo P masks f).isSome = true)
    (h : callA (mkCtx P masks fun _ => none) (exec P (mkCtx P masks fun _ => none) n AV) f [] ⟨.lf, p, []⟩ (fun v _ => .ok v) = .ok (.bool true)) : ∀ β : Type, SumOk P f (sumTrue β) := by
  intro β
  refine sumOk_of (P := P) (f := f) (v := .bool true) (u := .bool true) (fun xs w' => ?_) (fun ρ E => by simp [cv]) (fun w => ?_) β
  · obtain ⟨fn, c, hi⟩ := fnInfo_ok (infoD_eq hs)
    exact hi.enter xs
  · exact calls_closed hm (mkCtx_ok (fun _ _ h => by cases h)) n (us := []) (u := .bool true) (atV 0) hf h (by simp [cvs]) (by simp [cv]) w
theorem mkCtx1_ok {masks : List Nat} {f : Nat} (hs : ∀ β : Type, SumOk P f (sumTrue β)) : CtxOk P (mkCtx P masks fun g => bif Nat.beq g f then some sumTrue else none) := mkCtx_ok (fun g g' h => by
  cases hb : Nat.beq g f with
  | false => rw [hb] at h; cases h
  | true =>
    rw [hb] at h
    cases h
    have : g = f := by simpa using hb
    subst this
    exact hs)
/-! ### pieces of a body -/
def takeC : Nat → List Code → List Code | 0, _ => [] | _, [] => [] | n+1, c :: l => c :: takeC n l
def dropC : Nat → List Code → List Code | 0, l => l | _, [] => [] | n+1, _ :: l => dropC n l
def loopOf : List Code → Code | .block _ (.loop b) :: _ => b | _ => .skip
def isBL (id : Nat) : List Code → Bool | .block i (.loop _) :: _ => Nat.beq i id | _ => false
theorem isBL_eq {id : Nat} {l : List Code} (h : isBL id l = true) : l = .block id (.loop (loopOf l)) :: dropC 1 l := by
  unfold isBL at h
  split at h
  · next i c r =>
    have : i = id := by simpa using h
    subst this
    cases r <;> rfl
  · cases h
theorem split_at : ∀ (n : Nat) (l : List Code), l = takeC n l ++ dropC n l
  | 0, l => rfl
  | n + 1, [] => rfl
  | n + 1, c :: l => by
    show c :: l = c :: (takeC n l ++ dropC n l)
    rw [← split_at n l]
theorem dropC_add : ∀ (m n : Nat) (l : List Code), dropC m (dropC n l) = dropC (n + m) l
  | m, 0, l => by rw [Nat.zero_add]; rfl
  | 0, n + 1, [] => rfl
  | m + 1, n + 1, [] => by
    have : n + 1 + (m + 1) = (n + m + 1) + 1 := by omega
    rw [this]; rfl
  | m, n + 1, c :: l => by
    have : n + 1 + m = (n + m) + 1 := by omega
    rw [this]
    exact dropC_add m n l
theorem split_loop {id n : Nat} {l : List Code} (h : isBL id (dropC n l) = true) : l = takeC n l ++ (.block id (.loop (loopOf (dropC n l))) :: dropC (n + 1) l) := by
  have h1 := split_at n l
  have h2 := isBL_eq h
  rw [dropC_add] at h2
  rw [← h2]
  exact h1
/-! ### leaves -/
def isNorm : AExit → Bool | .norm => true | _ => false
def isRet : AExit → Bool | .ret => true | _ => false
def isExitN (id : Nat) : AExit → Bool | .exit i => Nat.beq i id | _ => false
theorem isNorm_eq {e : AExit} (h : isNorm e = true) : e = .norm := by cases e <;> first | rfl | cases h
theorem isRet_eq {e : AExit} (h : isRet e = true) : e = .ret := by cases e <;> first | rfl | cases h
theorem isExitN_eq {id : Nat} {e : AExit} (h : isExitN id e = true) : e = .exit id := by
  cases e with
  | exit i => have : i = id := by simpa [isExitN] using h
              rw [this]
  | _ => cases h
def isI (x : Nat) (e : IE) (hs : List Hole) : Bool := if lookI x hs = some e then true else false
theorem isI_eq {x : Nat} {e : IE} {hs : List Hole} (h : isI x e hs = true) : lookI x hs = some e := ite_true h
def idHole : Hole → Bool | .i x (.v y) => Nat.beq x y | .b x (.v y) => Nat.beq x y | .q x (.sv y) => Nat.beq x y | _ => false
theorem idHole_ok {y : Hole} (h : idHole y = true) : HoleIs ρ ρ y := by
  cases y with
  | i x e => cases e <;> simp [idHole] at h; subst h; rfl
  | b x e => cases e <;> simp [idHole] at h; subst h; rfl
  | q x e => cases e <;> simp [idHole] at h; subst h; rfl
  | ql x n => cases h
theorem idHoles_ok {hs : List Hole} (h : hs.all idHole = true) : ∀ y ∈ hs, HoleIs ρ ρ y := fun y hy => idHole_ok (List.all_eq_true.1 h y hy)
theorem one_tpl {T T' : Tpl} {j : Nat} (hj : Nat.beq j 0 = true) (h : [T][j]? = some T') : T' = T := by
  have : j = 0 := by simpa using hj
  subst this
  cases h; rfl
/-- a function's end -/
theorem fin_of {f : FuncId} {i : FnInfo} {fn : Func} {c : Code} {T : Tpl} {v : AV} {u : Value} {e : Exit} (hi : InfoOk P f i fn c) (hnt : i.ntmps = nt) (hmk : i.mask = mask) (hat : AtT nt mask w0 T ρ a w)
    (hf : finish i T.fr (T.st none []) (fun v _ => .ok v) = .ok v) (hv : ∀ E, cv ρ E v = some u) (he : e = .normal ∨ e = .ret) : Fin P fn (fun e w' => e = .returned u ∧ Below w0.heap.size w0 w') e a w := by
  rw [← hnt, ← hmk] at hat
  obtain ⟨h1, u', h2, h3, E, h4⟩ := at_results hi hat hf
  rw [hv E] at h4
  cases h4
  exact ⟨he, h1, _, h2, rfl, h3⟩
end Go.Ab
end

section
/-! A FUNCTION IN SEGMENTS: what holds at the cuts is said by templates. -/
namespace Go.Ab
open Go.RowKit (Below)
variable {ρ ρ' : Val} {P : Program} {w w0 : World} {a : Act} {nt mask : Nat}
/-- from every state that J lets in, the list of codes does what R says -/
structure From (P : Program) (nt mask : Nat) (w0 : World) (J : Tpl → Val → Prop) (l : List Code) (R : Exit → Act → World → Prop) : Prop where
  ok : ∀ T ρ a w, J T ρ → AtT nt mask w0 T ρ a w → wpL P l R a w
/-- the state behind a leaf -/
def Behind (nt mask : Nat) (w0 : World) (T' : Tpl) (ρ : Val) (leaf : Leaf) (a : Act) (w : World) : Prop :=
  ∀ ρ', (∀ y ∈ leaf.hs, HoleIs ρ ρ' y) → SameV ρ ρ' → AtT nt mask w0 T' ρ' a w
/-- a run from a template, whose leaves all pass a check -/
structure RunOk (P : Program) (X : Ex Leaf) (nt mask : Nat) (w0 : World) (l : List Code) (T : Tpl) (ρ : Val) (Ts : List Tpl) (p : Leaf → Bool) : Prop where
  run : ∃ W asm, (∀ W', W = some W' → WinOk ρ W' w0) ∧ winFree W T = true ∧ AsmOk ρ asm ∧ ((runL X P nt mask l T.fr (T.st W asm) (leafKR Ts W)).all p = true ∨ (runL X P nt mask l T.fr (T.st W asm) (leafK Ts W)).all p = true)
theorem RunOk.wpL {X : Ex Leaf} (hX : ExOk P X) (hnt : nt < 65536) {l : List Code} {T : Tpl} {Ts : List Tpl} {p : Leaf → Bool} (h : RunOk P X nt mask w0 l T ρ Ts p) (hat : AtT nt mask w0 T ρ a w) :
    wpL P l (fun e a' w' => ∃ leaf T', p leaf = true ∧ leaf.hs.all (holeOk leaf.hs) = true ∧ Ts[leaf.j]? = some T' ∧ e = exA leaf.how ∧ Behind nt mask w0 T' ρ leaf a' w') a w := by
  obtain ⟨W, asm, h1, h2, h3, h4⟩ := h.run
  rcases h4 with h4 | h4
  · refine wpL_mono (fun e a' w' h => ?_) _ _ _ (run_tplR_all hX hnt hat h1 h2 h3 h4)
    obtain ⟨leaf, hp, he, hok, T', hT', hat'⟩ := h
    exact ⟨leaf, T', hp, hok, hT', he, hat'⟩
  · refine wpL_mono (fun e a' w' h => ?_) _ _ _ (run_tpl_all hX hnt hat h1 h2 h3 h4)
    obtain ⟨leaf, hp, he, hok, T', hT', hat'⟩ := h
    exact ⟨leaf, T', hp, hok, hT', he, hat'⟩
/-- straight code -/
theorem from_run {X : Ex Leaf} (hX : ExOk P X) (hnt : nt < 65536) {l1 l2 : List Code} {J J' : Tpl → Val → Prop} {R : Exit → Act → World → Prop}
    (h : ∀ T ρ, J T ρ → ∃ Ts p, RunOk P X nt mask w0 l1 T ρ Ts p ∧ ∀ leaf T', p leaf = true → leaf.hs.all (holeOk leaf.hs) = true → Ts[leaf.j]? = some T' →
      (leaf.how = .norm ∧ ∃ ρ', (∀ y ∈ leaf.hs, HoleIs ρ ρ' y) ∧ SameV ρ ρ' ∧ J' T' ρ') ∨ (leaf.how ≠ .norm ∧ ∀ a' w', Behind nt mask w0 T' ρ leaf a' w' → R (exA leaf.how) a' w'))
    (h2 : From P nt mask w0 J' l2 R) : From P nt mask w0 J (l1 ++ l2) R := by
  refine ⟨fun T ρ a w hJ hat => wpL_append _ _ _ _ ?_⟩
  obtain ⟨Ts, p, hr, hl⟩ := h T ρ hJ
  refine wpL_mono (fun e a' w' hh => ?_) _ _ _ (hr.wpL hX hnt hat)
  obtain ⟨leaf, T', hp, hok, hT', he, hb⟩ := hh
  subst he
  rcases hl leaf T' hp hok hT' with ⟨hn, ρ', g1, g2, g3⟩ | ⟨hn, hR⟩
  · rw [hn]
    exact h2.ok T' ρ' a' w' g3 (hb ρ' g1 g2)
  · have := hR a' w' hb
    cases hh : leaf.how with
    | norm => exact absurd hh hn
    | _ => rw [hh] at this; exact this
/-- the end -/
theorem from_end {X : Ex Leaf} (hX : ExOk P X) (hnt : nt < 65536) {l1 : List Code} {J : Tpl → Val → Prop} {R : Exit → Act → World → Prop}
    (h : ∀ T ρ, J T ρ → ∃ Ts p, RunOk P X nt mask w0 l1 T ρ Ts p ∧ ∀ leaf T', p leaf = true → leaf.hs.all (holeOk leaf.hs) = true → Ts[leaf.j]? = some T' → ∀ a' w', Behind nt mask w0 T' ρ leaf a' w' → R (exA leaf.how) a' w') : From P nt mask w0 J l1 R := by
  refine ⟨fun T ρ a w hJ hat => ?_⟩
  obtain ⟨Ts, p, hr, hl⟩ := h T ρ hJ
  refine wpL_mono (fun e a' w' hh => ?_) _ _ _ (hr.wpL hX hnt hat)
  obtain ⟨leaf, T', hp, hok, hT', he, hb⟩ := hh
  subst he
  exact hl leaf T' hp hok hT' a' w' hb
/-- a loop -/
theorem from_loop {X : Ex Leaf} (hX : ExOk P X) (hnt : nt < 65536) {b : Code} {l2 : List Code} {id : Nat} {J J' : Tpl → Val → Prop} {μ : Val → Nat} {R : Exit → Act → World → Prop}
    (h : ∀ T ρ, J T ρ → ∃ Ts p, RunOk P X nt mask w0 [b] T ρ Ts p ∧ ∀ leaf T', p leaf = true → leaf.hs.all (holeOk leaf.hs) = true → Ts[leaf.j]? = some T' →
      (leaf.how = .norm ∧ ∃ ρ', (∀ y ∈ leaf.hs, HoleIs ρ ρ' y) ∧ SameV ρ ρ' ∧ J T' ρ' ∧ μ ρ' < μ ρ) ∨ (leaf.how = .exit id ∧ ∃ ρ', (∀ y ∈ leaf.hs, HoleIs ρ ρ' y) ∧ SameV ρ ρ' ∧ J' T' ρ') ∨
      (leaf.how = .ret ∧ ∀ a' w', Behind nt mask w0 T' ρ leaf a' w' → R .ret a' w'))
    (h2 : From P nt mask w0 J' l2 R) : From P nt mask w0 J (.block id (.loop b) :: l2) R := by
  refine ⟨fun T ρ a w hJ hat => wpL_block_J (J := J) (μ := μ) (Q := fun e a' w' => (e = .exit id ∧ ∃ T' ρ', J' T' ρ' ∧ AtT nt mask w0 T' ρ' a' w') ∨ (e = .ret ∧ R .ret a' w')) (fun ρ T a w hJ hat => ?_) ?_ ?_ hJ hat⟩
  · obtain ⟨Ts, p, hr, hl⟩ := h T ρ hJ
    refine wp_mono (wp_one (hr.wpL hX hnt hat)) fun e a' w' hh => ?_
    obtain ⟨leaf, T', hp, hok, hT', he, hb⟩ := hh
    subst he
    rcases hl leaf T' hp hok hT' with ⟨hn, ρ', g1, g2, g3, g4⟩ | ⟨hn, ρ', g1, g2, g3⟩ | ⟨hn, hR⟩
    · rw [hn]; exact .inl ⟨rfl, T', ρ', g3, g4, hb ρ' g1 g2⟩
    · rw [hn]; exact .inr ⟨(by intro h; cases h), .inl ⟨rfl, T', ρ', g3, hb ρ' g1 g2⟩⟩
    · rw [hn]; exact .inr ⟨(by intro h; cases h), .inr ⟨rfl, hR a' w' hb⟩⟩
  · intro a w hq
    rcases hq with ⟨_, T', ρ', g3, g4⟩ | ⟨h, _⟩
    · exact h2.ok T' ρ' a w g3 g4
    · cases h
  · intro e a w hne hnn hq
    rcases hq with ⟨h, _⟩ | ⟨h, hR⟩
    · exact absurd h hne
    · subst h; exact hR
/-- A CALL, from its arguments on -/
theorem calls_from {f : FuncId} {i : FnInfo} {fn : Func} {c : Code} {l : List Code} {us : List Value} {args : List AV} {hs : List Hole} {n : Nat} {TA : Tpl} {J : Tpl → Val → Prop} {R : Ending → World → Prop} (hi : InfoOk P f i fn c) (hnt : i.ntmps = nt)
    (hl : spine c = l) (ha : cvs ρ E0w args = some us) (hle : args.length ≤ nt) (hfit : TA.fits ⟨initT mask args 0 .lf, []⟩ ⟨.lf, posOf n, []⟩ = some hs) (hid : hs.all idHole = true) (hJ : J TA ρ)
    (hF : From P nt mask w J l (Fin P fn R)) : Calls P f us.toArray w R := by
  refine calls_spine hi ?_
  rw [hl, hnt]
  exact hF.ok TA ρ _ w hJ (at_args ha hle hfit (idHoles_ok hid))
theorem RunOk.plain {X : Ex Leaf} {l : List Code} {T : Tpl} {Ts : List Tpl} {p : Leaf → Bool} {asm : List (BE × Bool)} (hasm : AsmOk ρ asm) (hw : winFree none T = true) (h : (runL X P nt mask l T.fr (T.st none asm) (leafKR Ts none)).all p = true) :
    RunOk P X nt mask w0 l T ρ Ts p := ⟨none, asm, (fun _ h => by cases h), hw, hasm, .inl h⟩
theorem RunOk.plain' {X : Ex Leaf} {l : List Code} {T : Tpl} {Ts : List Tpl} {p : Leaf → Bool} {asm : List (BE × Bool)} (hasm : AsmOk ρ asm) (hw : winFree none T = true) (h : (runL X P nt mask l T.fr (T.st none asm) (leafK Ts none)).all p = true) :
    RunOk P X nt mask w0 l T ρ Ts p := ⟨none, asm, (fun _ h => by cases h), hw, hasm, .inr h⟩
end Go.Ab
end

section
/-! The closed facts of a row, one by one. -/
namespace Go.Ab
def rowKinds (P : Program) (fn : Func) (c : OpenClaim) : List (Option IntKind) := (if c.domain.isEmpty then [] else fn.params.toList.map fun t => match P.underlying t with | some (.int k) => some k | _ => none)
theorem joined_split {P : Program} {f : FuncId} {fn : Func} {s : ChangeSpec} {c : OpenClaim}
    (k1 : c.wf (OpenSpec.ofChange s) = true) (k2 : laidOutB P = true) (k3 : mapsRowed P = true) (k4 : fn.params.all (P.readableRec ·) = true) (k5 : namedTie P c.named s.vars = true)
    (k6 : (c.stops == []) = true) (k7 : (P.stops == []) = true) (k8 : (c.knobs == []) = true) (k9 : (P.stopKnobs == []) = true)
    (k10 : (c.inPlace == P.inPlace f) = true) (k11 : (c.unfollowed == P.unfollowed f) = true) (k12 : (c.recurses == P.recurses f) = true) (k13 : (c.named == P.varsNamed f) = true)
    (k14 : (c.maps == (fn.params.toList ++ s.plain.varTypes P).any (P.mapsRec ·)) = true) (k15 : (c.ifaces == (fn.params.toList ++ s.plain.varTypes P).any (P.ifacesRec ·)) = true) (k16 : (c.mapsOut == P.mapsAmong fn.resultTypes.toList) = true)
    (k17 : (c.loops == (fn.params.toList ++ s.plain.varTypes P).any (P.loopsFrom ·)) = true) (k17b : (c.wideKeys == (fn.params.toList ++ s.plain.varTypes P ++ fn.resultTypes.toList).any (P.wideKeysFrom ·)) = true)
    (k18 : s.vars.all (P.varReadable ·) = true) (k19 : fn.resultTypes.all (fun t => P.readableRec t && decide (t < P.types.size)) = true) (k20 : (c.ifacesOut == fn.resultTypes.toList.any (P.ifacesRec ·)) = true) (k21 : (c.loopsOut == fn.resultTypes.toList.any (P.loopsFrom ·)) = true)
    (k22 : (c.plainKeys == P.plainKeys) = true) (k23 : c.shortTexts.isNone = true) (k23b : P.stopsHeard = true) (k24 : P.mayEnter = true) (k24b : (c.lifted == P.liftsFinal) = true) (k24c : (P.make == some c.make) = true)
    (k25 : (c.kinds == rowKinds P fn c) = true) (k26 : (c.pinned == c.pinnedBy) = true)
    (k27 : (c.veiled == (fn.params.toList ++ s.plain.varTypes P ++ fn.resultTypes.toList).any (P.veiledRec ·)) = true) (k28 : c.veiledFits P fn.params.toList (fn.params.toList ++ s.plain.varTypes P ++ fn.resultTypes.toList) = true) : joinedFacts P f fn s c = true := by
  unfold joinedFacts
  rw [k1, k2, k3, k4, k5, k6, k7, k8, k9, k10, k11, k12, k13, k14, k15, k16, k17, k17b, k18, k19, k20, k21, k22, k23, k23b, k24, k24b, k24c]
  simp only [Bool.true_and, Bool.and_eq_true]
  exact ⟨⟨⟨k25, k26⟩, k27⟩, k28⟩
end Go.Ab
end
