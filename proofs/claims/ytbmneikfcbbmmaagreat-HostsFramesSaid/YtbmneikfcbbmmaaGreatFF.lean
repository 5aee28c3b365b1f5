/- Regions that draw their order: what is known at each step. -/
import Derived.Test.YtbmneikfcbbmmaaGreatFE
set_option linter.unusedVariables false
set_option linter.unusedSimpArgs false
set_option linter.unusedSectionVars false
section
namespace Go.Ab
variable {β : Type} {P : Program} {ρ : Val} {E : Mem} {s : St} {w : World} {r : β} {k : Kv β}
variable {ds : List (Option Nat)} {ls : List AV} {fr : Fr} {a : Act} {nt mask : Nat}

/-! ### the order of the text: what is recorded -/
def E0 : Mem := ⟨fun _ => none, fun _ => 0⟩
theorem E0_le (E : Mem) : Mem.Le E0 E := ⟨fun p x h => (by cases h), fun p x h => (by cases h)⟩
theorem bind2_run : ∀ {t : Tree (AV × St)} {asm : List (BE × Bool)} {f : List (BE × Bool) → AV → St → Tree β}, (bind2 t asm f).run ρ = some r → AsmOk ρ asm →
    ∃ v s' asm', t.run ρ = some (v, s') ∧ AsmOk ρ asm' ∧ (f asm' v s').run ρ = some r
  | .ok (v, s'), asm, f, h, ha => ⟨v, s', asm, rfl, ha, h⟩
  | .bad n, asm, f, h, ha => by cases h
  | .br c t e, asm, f, h, ha => by
    have h : (Tree.br c (bind2 t ((c, true) :: asm) f) (bind2 e ((c, false) :: asm) f)).run ρ = some r := h
    simp only [Tree.run] at h
    by_cases hc : c.den ρ = true
    · rw [if_pos hc] at h
      obtain ⟨v, s', asm', h1, h2, h3⟩ := bind2_run h (fun c' b' hm => by
        rcases List.mem_cons.1 hm with e | hm
        · cases e; exact hc
        · exact ha _ _ hm)
      exact ⟨v, s', asm', by simp only [Tree.run]; rw [if_pos hc]; exact h1, h2, h3⟩
    · rw [if_neg hc] at h
      obtain ⟨v, s', asm', h1, h2, h3⟩ := bind2_run h (fun c' b' hm => by
        rcases List.mem_cons.1 hm with e | hm
        · cases e; simpa using hc
        · exact ha _ _ hm)
      exact ⟨v, s', asm', by simp only [Tree.run]; rw [if_neg hc]; exact h1, h2, h3⟩
theorem Pos.nat_eq : ∀ p : Pos, p.nat = p.toNat
  | .xH => rfl
  | .xO p => by show 2 * p.nat = _; rw [Pos.nat_eq p]; rfl
  | .xI p => by show 2 * p.nat + 1 = _; rw [Pos.nat_eq p]; rfl
structure TI where
  s1 : St
  ran : Bool
  v : AV
  b : Blk
  s2 : St
/-- a guard's verdict -/
def GuardR (ρ : Val) (g : Option (Nat × Bool)) (ls : List AV) (ran : Bool) : Prop :=
  match g with
  | none => ran = true
  | some (i, want) => ∃ v, nthL i ls = some v ∧ ((v.asTup.isSome = true ∧ ran = false) ∨ ∃ b, cv ρ E0 v = some (.bool b) ∧ ran = (b == want))
structure ItemOk (P : Program) (ρ : Val) (cd : CallT (AV × St)) (fr : Fr) (o : AOper) (ls : List AV) (s : St) (t : TI) : Prop where
  more : More ρ s t.s1
  asm : AsmOk ρ t.s2.asm
  guard : GuardR ρ o.guard ls t.ran
  skip : t.ran = false → t.v = undefA ∧ t.s2 = t.s1
  ran : t.ran = true → ∃ sr, (evOp P o.op cd ls fr t.s1 okP).run ρ = some (t.v, sr) ∧
      (o.op.cls = 0 → t.s2.heap = t.s1.heap ∧ t.s2.next = t.s1.next) ∧
      (o.op.cls = 1 → sr.heap.get t.s1.next = some t.b ∧ t.s2.heap = t.s1.heap.put t.s1.next (some t.b) ∧ t.s2.next = t.s1.next.succ) ∧
      (o.op.cls = 2 → t.s2.heap = sr.heap ∧ t.s2.next = sr.next ∧ t.s1.next.toNat ≤ sr.next.toNat)
def TraceOk (P : Program) (ρ : Val) (cd : CallT (AV × St)) (fr : Fr) : List AOper → List AV → St → List TI → Prop
  | [], _, _, [] => True
  | o :: l, ls, s, t :: ts => ItemOk P ρ cd fr o ls s t ∧ TraceOk P ρ cd fr l (t.v :: ls) t.s2 ts
  | _, _, _, _ => False
def dNext (o : AOper) (d : DSt) (t : TI) : DSt :=
  ⟨d.j + 1, t.v :: d.ls, ⟨t.ran, d.ls, t.v⟩ :: d.xs, bif Nat.beq o.op.cls 2 then t.s2 :: d.sts else d.sts, bif Nat.beq o.op.cls 1 && t.ran then ⟨d.j, t.s1.next, t.b⟩ :: d.ns else d.ns⟩
def dFin : List AOper → DSt → List TI → DSt
  | o :: l, d, t :: ts => dFin l (dNext o d t) ts
  | _, d, _ => d
def sFin : St → List TI → St
  | s, [] => s
  | _, t :: ts => sFin t.s2 ts
theorem cls_le (o : AOp) : o.cls = 0 ∨ o.cls = 1 ∨ o.cls = 2 := by cases o <;> simp [AOp.cls]
theorem run_guardD {g : Option (Nat × Bool)} {f : Bool → St → Tree β} (ha : AsmOk ρ s.asm) (h : (onGuard g ls s f).run ρ = some r) : ∃ b s1, More ρ s s1 ∧ GuardR ρ g ls b ∧ (f b s1).run ρ = some r := by
  rcases run_onSomeOr h with ⟨⟨i, want⟩, rfl, h⟩ | ⟨rfl, h⟩
  · obtain ⟨v, hv, h⟩ := run_onSome h
    rcases run_ifB h with ⟨hb, h⟩ | ⟨_, h⟩
    · exact ⟨false, s, .refl ha, ⟨v, hv, .inl ⟨hb, rfl⟩⟩, h⟩
    · obtain ⟨b, s', hb, hm, h⟩ := run_onBool (E := E0) ha h
      exact ⟨_, s', hm, ⟨v, hv, .inr ⟨b, hb, rfl⟩⟩, h⟩
  · exact ⟨true, s, .refl ha, rfl, h⟩
theorem runD_trace {cd : CallT (AV × St)} {K : DSt → St → Tree β} : ∀ (as : List AOper) (d : DSt) (s : St), (runD P cd fr as K d s).run ρ = some r → AsmOk ρ s.asm →
    ∃ ts, TraceOk P ρ cd fr as d.ls s ts ∧ (K (dFin as d ts) (sFin s ts)).run ρ = some r
  | [], d, s, h, ha => ⟨[], trivial, h⟩
  | o :: as, d, s, h, ha => by
    have h : (onGuard o.guard d.ls s (runDG P cd fr o (runD P cd fr as K) d)).run ρ = some r := h
    obtain ⟨yes, s1, hm, hg, h⟩ := run_guardD ha h
    have fin : ∀ (t : TI), ItemOk P ρ cd fr o d.ls s t → (runD P cd fr as K (dNext o d t) t.s2).run ρ = some r → ∃ ts, TraceOk P ρ cd fr (o :: as) d.ls s ts ∧ (K (dFin (o :: as) d ts) (sFin s ts)).run ρ = some r := by
      intro t ht h
      obtain ⟨ts, h1, h2⟩ := runD_trace as (dNext o d t) t.s2 h ht.asm
      exact ⟨t :: ts, ⟨ht, h1⟩, h2⟩
    rcases run_ifB h with ⟨rfl, h⟩ | ⟨rfl, h⟩
    · obtain ⟨v, sr, asm', hT, ha', h⟩ := bind2_run h hm.asm
      rcases cls_le o.op with hc | hc | hc
      · have h : (dQuiet (runD P cd fr as K) d s1 asm' v).run ρ = some r := by
          have h : (by3 o.op.cls (dQuiet (runD P cd fr as K) d s1 asm' v) _ _).run ρ = some r := h
          rw [hc] at h; exact h
        refine fin ⟨s1, true, v, .dead, ⟨s1.heap, s1.next, asm'⟩⟩ ⟨hm, ha', hg, fun h => (by cases h), fun _ => ⟨sr, hT, fun _ => ⟨rfl, rfl⟩, fun h1 => ?_, fun h2 => ?_⟩⟩ ?_
        · rw [hc] at h1; cases h1
        · rw [hc] at h2; cases h2
        · have e1 : dNext o d ⟨s1, true, v, .dead, ⟨s1.heap, s1.next, asm'⟩⟩ = ⟨d.j + 1, v :: d.ls, ⟨true, d.ls, v⟩ :: d.xs, d.sts, d.ns⟩ := by simp [dNext, hc]; try (constructor <;> rfl)
          rw [e1]
          exact h
      · have h : (dNew (runD P cd fr as K) d s1 asm' v sr).run ρ = some r := by
          have h : (by3 o.op.cls (dQuiet (runD P cd fr as K) d s1 asm' v) (dNew (runD P cd fr as K) d s1 asm' v sr) _).run ρ = some r := h
          rw [hc] at h; exact h
        obtain ⟨b, hb, h⟩ := run_onSome h
        refine fin ⟨s1, true, v, b, ⟨s1.heap.put s1.next (some b), s1.next.succ, asm'⟩⟩ ⟨hm, ha', hg, fun h => (by cases h), fun _ => ⟨sr, hT, fun h0 => ?_, fun _ => ⟨hb, rfl, rfl⟩, fun h2 => ?_⟩⟩ ?_
        · rw [hc] at h0; cases h0
        · rw [hc] at h2; cases h2
        · have e1 : dNext o d ⟨s1, true, v, b, ⟨s1.heap.put s1.next (some b), s1.next.succ, asm'⟩⟩ = ⟨d.j + 1, v :: d.ls, ⟨true, d.ls, v⟩ :: d.xs, d.sts, ⟨d.j, s1.next, b⟩ :: d.ns⟩ := by simp [dNext, hc]; try (constructor <;> rfl)
          rw [e1]
          exact h
      · have h : (dEff (runD P cd fr as K) d s1 asm' v sr).run ρ = some r := by
          have h : (by3 o.op.cls (dQuiet (runD P cd fr as K) d s1 asm' v) (dNew (runD P cd fr as K) d s1 asm' v sr) (dEff (runD P cd fr as K) d s1 asm' v sr)).run ρ = some r := h
          rw [hc] at h; exact h
        obtain ⟨hle, h⟩ := run_guardB h
        rw [Pos.nat_eq, Pos.nat_eq, Nat.ble_eq] at hle
        refine fin ⟨s1, true, v, .dead, ⟨sr.heap, sr.next, asm'⟩⟩ ⟨hm, ha', hg, fun h => (by cases h), fun _ => ⟨sr, hT, fun h0 => ?_, fun h1 => ?_, fun _ => ⟨rfl, rfl, hle⟩⟩⟩ ?_
        · rw [hc] at h0; cases h0
        · rw [hc] at h1; cases h1
        · have e1 : dNext o d ⟨s1, true, v, .dead, ⟨sr.heap, sr.next, asm'⟩⟩ = ⟨d.j + 1, v :: d.ls, ⟨true, d.ls, v⟩ :: d.xs, ⟨sr.heap, sr.next, asm'⟩ :: d.sts, d.ns⟩ := by simp [dNext, hc]; try (constructor <;> rfl)
          rw [e1]
          exact h
    · refine fin ⟨s1, false, undefA, .dead, s1⟩ ⟨hm, hm.asm, hg, fun _ => ⟨rfl, rfl⟩, fun h => (by cases h)⟩ ?_
      have e1 : dNext o d ⟨s1, false, undefA, .dead, s1⟩ = ⟨d.j + 1, undefA :: d.ls, ⟨false, d.ls, undefA⟩ :: d.xs, newSts o s1 d.sts, d.ns⟩ := by simp [dNext, newSts]
      rw [e1]
      exact h
/-! what the lists hold -/
theorem TraceOk.length {cd : CallT (AV × St)} : ∀ {as : List AOper} {ls : List AV} {s : St} {ts : List TI}, TraceOk P ρ cd fr as ls s ts → ts.length = as.length
  | [], _, _, [], _ => rfl
  | [], _, _, _ :: _, h => h.elim
  | _ :: _, _, _, [], h => h.elim
  | _ :: as, _, _, _ :: ts, h => by simp [TraceOk.length h.2]
def lsAt (ls : List AV) (ts : List TI) (i : Nat) : List AV := ((ts.take i).map (·.v)).reverse ++ ls
theorem TraceOk.at {cd : CallT (AV × St)} : ∀ {as : List AOper} {ls : List AV} {s : St} {ts : List TI}, TraceOk P ρ cd fr as ls s ts → ∀ i o t, as[i]? = some o → ts[i]? = some t → ItemOk P ρ cd fr o (lsAt ls ts i) (sFin s (ts.take i)) t
  | [], _, _, _, _, i, o, t, h1, _ => by simp at h1
  | _ :: _, _, _, [], h, _, _, _, _, _ => h.elim
  | o' :: as, ls, s, t' :: ts, h, 0, o, t, h1, h2 => by
    simp at h1 h2
    subst h1 h2
    exact h.1
  | o' :: as, ls, s, t' :: ts, h, i + 1, o, t, h1, h2 => by
    have := TraceOk.at h.2 i o t (by simpa using h1) (by simpa using h2)
    have e1 : lsAt ls (t' :: ts) (i + 1) = lsAt (t'.v :: ls) ts i := by simp [lsAt]
    rw [e1]
    exact this
theorem sFin_succ : ∀ (s : St) (ts : List TI) (i : Nat) (t : TI), ts[i]? = some t → sFin s (ts.take (i + 1)) = t.s2
  | s, [], i, t, h => by simp at h
  | s, t' :: ts, 0, t, h => by simp at h; subst h; simp [sFin]
  | s, t' :: ts, i + 1, t, h => by
    have := sFin_succ t'.s2 ts i t (by simpa using h)
    simpa [sFin] using this
theorem dFin_j : ∀ (as : List AOper) (d : DSt) (ts : List TI), ts.length = as.length → (dFin as d ts).j = d.j + as.length
  | [], d, [], _ => rfl
  | o :: as, d, t :: ts, h => by
    rw [dFin, dFin_j as _ ts (by simpa using h)]
    simp [dNext]; omega
  | [], _, _ :: _, h => by simp at h
  | _ :: _, _, [], h => by simp at h
def snaps : List AV → List TI → List Snap
  | _, [] => []
  | ls, t :: ts => ⟨t.ran, ls, t.v⟩ :: snaps (t.v :: ls) ts
theorem dFin_xs : ∀ (as : List AOper) (d : DSt) (ts : List TI), ts.length = as.length → (dFin as d ts).xs.reverse = d.xs.reverse ++ snaps d.ls ts
  | [], d, [], _ => by simp [dFin, snaps]
  | o :: as, d, t :: ts, h => by
    rw [dFin, dFin_xs as _ ts (by simpa using h)]
    simp [dNext, snaps]
  | [], _, _ :: _, h => by simp at h
  | _ :: _, _, [], h => by simp at h
def chainSts : List AOper → List TI → List St
  | o :: as, t :: ts => (bif Nat.beq o.op.cls 2 then [t.s2] else []) ++ chainSts as ts
  | _, _ => []
theorem dFin_sts : ∀ (as : List AOper) (d : DSt) (ts : List TI), ts.length = as.length → (dFin as d ts).sts.reverse = d.sts.reverse ++ chainSts as ts
  | [], d, [], _ => by simp [dFin, chainSts]
  | o :: as, d, t :: ts, h => by
    rw [dFin, dFin_sts as _ ts (by simpa using h)]
    simp only [dNext, chainSts]
    cases Nat.beq o.op.cls 2 <;> simp
  | [], _, _ :: _, h => by simp at h
  | _ :: _, _, [], h => by simp at h
theorem dFin_ns : ∀ (as : List AOper) (d : DSt) (ts : List TI), ts.length = as.length → ∀ n, n ∈ (dFin as d ts).ns ↔ n ∈ d.ns ∨ ∃ i o t, as[i]? = some o ∧ ts[i]? = some t ∧ o.op.cls = 1 ∧ t.ran = true ∧ n = ⟨d.j + i, t.s1.next, t.b⟩
  | [], d, [], _, n => by simp [dFin]
  | o :: as, d, t :: ts, h, n => by
    rw [dFin, dFin_ns as _ ts (by simpa using h)]
    have hd : n ∈ (dNext o d t).ns ↔ n ∈ d.ns ∨ (o.op.cls = 1 ∧ t.ran = true ∧ n = ⟨d.j, t.s1.next, t.b⟩) := by
      simp only [dNext]
      cases hb : (Nat.beq o.op.cls 1 && t.ran) with
      | true =>
        simp only [Bool.and_eq_true, Nat.beq_eq] at hb
        simp [hb.1, hb.2, or_comm]
      | false =>
        have : ¬ (o.op.cls = 1 ∧ t.ran = true) := fun ⟨h1, h2⟩ => by simp [h1, h2] at hb
        simp only [cond_false]
        constructor
        · exact .inl
        · rintro (h | ⟨h1, h2, _⟩)
          · exact h
          · exact absurd ⟨h1, h2⟩ this
    rw [hd]
    constructor
    · rintro ((h | ⟨h1, h2, h3⟩) | ⟨i, o', t', h1, h2, h3, h4, h5⟩)
      · exact .inl h
      · exact .inr ⟨0, o, t, rfl, rfl, h1, h2, h3⟩
      · refine .inr ⟨i + 1, o', t', by simpa using h1, by simpa using h2, h3, h4, ?_⟩
        rw [h5]
        simp only [dNext, New.mk.injEq, and_true]
        omega
    · rintro (h | ⟨i, o', t', h1, h2, h3, h4, h5⟩)
      · exact .inl (.inl h)
      · cases i with
        | zero =>
          simp at h1 h2
          subst h1 h2
          exact .inl (.inr ⟨h3, h4, h5⟩)
        | succ i =>
          refine .inr ⟨i, o', t', by simpa using h1, by simpa using h2, h3, h4, ?_⟩
          rw [h5]
          simp only [dNext, New.mk.injEq, and_true]
          omega
  | [], _, _ :: _, h, _ => by simp at h
  | _ :: _, _, [], h, _ => by simp at h
end Go.Ab
end

section
namespace Go.Ab

/-! ### what the static check says -/
theorem nthM_eq (n : Nat) (l : List Nat) : nthM n l = (l[n]?).getD 0 := by unfold nthM; rw [nthN_eq]
theorem masks_spec : ∀ (l : List Oper) (acc : List Nat), ∃ B, (masksOf l acc acc.length).reverse = acc.reverse ++ B ∧ B.length = l.length ∧
    ∀ i o, l[i]? = some o → B[i]? = some (maskOf (((acc.reverse ++ B).take (acc.length + i)).reverse) (acc.length + i) o.after.toList)
  | [], acc => ⟨[], by simp [masksOf], rfl, fun i o h => by simp at h⟩
  | o :: l, acc => by
    obtain ⟨B, h1, h2, h3⟩ := masks_spec l (maskOf acc acc.length o.after.toList :: acc)
    refine ⟨maskOf acc acc.length o.after.toList :: B, ?_, by simp [h2], ?_⟩
    · have : masksOf (o :: l) acc acc.length = masksOf l (maskOf acc acc.length o.after.toList :: acc) (maskOf acc acc.length o.after.toList :: acc).length := rfl
      rw [this, h1]; simp
    · intro i o' hi
      cases i with
      | zero =>
        simp at hi; subst hi
        have : ((acc.reverse ++ (maskOf acc acc.length o.after.toList :: B)).take (acc.length + 0)) = acc.reverse := by
          rw [List.take_append_of_le_length (by simp)]; exact List.take_of_length_le (by simp)
        rw [this]; simp
      | succ i =>
        have := h3 i o' (by simpa using hi)
        simp only [List.reverse_cons, List.append_assoc, List.singleton_append, List.length_cons] at this
        simp only [List.getElem?_cons_succ]
        rw [this]
        rw [show acc.length + 1 + i = acc.length + (i + 1) from by omega]
theorem maskOf_bit {acc : List Nat} {j : Nat} : ∀ (es : List Edge) (i : Nat), (maskOf acc j es).testBit i = true ↔ ∃ e ∈ es, bindsB e.ground = true ∧ (i = e.on ∨ (nthM (j - 1 - e.on) acc).testBit i = true)
  | [], i => by simp [maskOf]
  | e :: es, i => by
    have h : maskOf acc j (e :: es) = bif bindsB e.ground then Nat.lor (Nat.lor (2 ^ e.on) (nthM (j - 1 - e.on) acc)) (maskOf acc j es) else maskOf acc j es := rfl
    rw [h]
    cases hb : bindsB e.ground with
    | false =>
      simp only [cond_false, maskOf_bit es i, List.mem_cons]
      constructor
      · rintro ⟨e', h1, h2, h3⟩; exact ⟨e', .inr h1, h2, h3⟩
      · rintro ⟨e', rfl | h1, h2, h3⟩
        · rw [hb] at h2; cases h2
        · exact ⟨e', h1, h2, h3⟩
    | true =>
      have hl : ∀ a b : Nat, Nat.lor a b = a ||| b := fun _ _ => rfl
      simp only [cond_true, hl, Nat.testBit_or, Bool.or_eq_true, maskOf_bit es i, List.mem_cons, Nat.testBit_two_pow]
      constructor
      · rintro ((h1 | h1) | ⟨e', h1, h2, h3⟩)
        · exact ⟨e, .inl rfl, hb, .inl (by have h1 := of_decide_eq_true h1; exact h1.symm)⟩
        · exact ⟨e, .inl rfl, hb, .inr h1⟩
        · exact ⟨e', .inr h1, h2, h3⟩
      · rintro ⟨e', rfl | h1, h2, h3⟩
        · rcases h3 with h3 | h3
          · exact .inl (.inl (by simp [h3]))
          · exact .inl (.inr h3)
        · exact .inr ⟨e', h1, h2, h3⟩
theorem binds_any (e : Edge) : Region.binds .any e = bindsB e.ground := by
  unfold Region.binds bindsB
  cases e.ground <;> rfl
theorem edgesOk_lt {j : Nat} : ∀ {es : List Edge}, edgesOk j es = true → ∀ e ∈ es, bindsB e.ground = true → e.on < j
  | [], _, e, h, _ => by simp at h
  | e :: es, h, e', he', hb => by
    have h : (bif bindsB e.ground then (bif Nat.blt e.on j then edgesOk j es else false) else edgesOk j es) = true := h
    rcases List.mem_cons.1 he' with rfl | he'
    · rw [hb] at h
      simp only [cond_true] at h
      cases hl : Nat.blt e'.on j with
      | false => rw [hl] at h; cases h
      | true => simpa using hl
    · have : edgesOk j es = true := by
        cases hb' : bindsB e.ground with
        | false => rw [hb'] at h; exact h
        | true =>
          rw [hb'] at h
          cases hl : Nat.blt e.on j with
          | false => rw [hl] at h; cases h
          | true => rw [hl] at h; exact h
      exact edgesOk_lt this e' he' hb
theorem clsMask_bit {c : Nat} : ∀ (l : List AOper) (n i : Nat), (clsMask c l n).testBit i = true ↔ ∃ o, n ≤ i ∧ l[i - n]? = some o ∧ o.op.cls = c
  | [], n, i => by simp [clsMask]
  | o :: l, n, i => by
    have h : clsMask c (o :: l) n = Nat.lor (bif Nat.beq o.op.cls c then 2 ^ n else 0) (clsMask c l (n + 1)) := rfl
    have hl : ∀ a b : Nat, Nat.lor a b = a ||| b := fun _ _ => rfl
    rw [h, hl, Nat.testBit_or, Bool.or_eq_true, clsMask_bit l (n + 1) i]
    constructor
    · rintro (h1 | ⟨o', h1, h2, h3⟩)
      · cases hb : Nat.beq o.op.cls c with
        | false => rw [hb] at h1; simp at h1
        | true =>
          rw [hb] at h1
          simp only [cond_true, Nat.testBit_two_pow, decide_eq_true_eq] at h1
          subst h1
          exact ⟨o, Nat.le_refl _, by simp, by simpa using hb⟩
      · refine ⟨o', by omega, ?_, h3⟩
        rw [show i - n = (i - (n + 1)) + 1 from by omega]
        simpa using h2
    · rintro ⟨o', h1, h2, h3⟩
      by_cases e : i = n
      · subst e
        simp at h2
        subst h2
        left
        simp [h3]
      · right
        refine ⟨o', by omega, ?_, h3⟩
        rw [show i - n = (i - (n + 1)) + 1 from by omega] at h2
        simpa using h2
theorem subMask_bit {a b : Nat} (h : subMask a b = true) (i : Nat) (hi : a.testBit i = true) : b.testBit i = true := by
  unfold subMask at h
  have h : a &&& b = a := by simpa using h
  rw [← h, Nat.testBit_and, Bool.and_eq_true] at hi
  exact hi.2
theorem isDst_iff (t : Nat) (d : Option Nat) : isDst t d = true ↔ d = some t := by
  cases d with
  | none => simp [isDst]
  | some d => simp [isDst]
theorem distinctD_spec : ∀ {l : List (Option Nat)}, distinctD l = true → ∀ (i j t : Nat), i < j → l[i]? = some (some t) → l[j]? ≠ some (some t)
  | [], _, i, j, t, _, h, _ => by simp at h
  | d :: l, h, i, j, t, hij, hi, hj => by
    have h : ((Option.rec (motive := fun _ => Bool) true (fun d => !l.any (isDst d)) d) && distinctD l) = true := h
    simp only [Bool.and_eq_true] at h
    cases j with
    | zero => omega
    | succ j =>
      simp only [List.getElem?_cons_succ] at hj
      cases i with
      | zero =>
        simp at hi
        subst hi
        have h1 := h.1
        simp only [Bool.not_eq_true', List.any_eq_false] at h1
        exact h1 _ (List.mem_of_getElem? hj) ((isDst_iff _ _).2 rfl)
      | succ i => exact distinctD_spec h.2 i j t (by omega) (by simpa using hi) hj
theorem defOf_spec : ∀ {l : List (Option Nat)} {n i t : Nat}, l[i]? = some (some t) → (∀ i', i' < i → l[i']? ≠ some (some t)) → defOf t l n = some (n + i)
  | [], n, i, t, h, _ => by simp at h
  | d :: l, n, i, t, h, hn => by
    have hd : defOf t (d :: l) n = bif isDst t d then some n else defOf t l (n + 1) := rfl
    rw [hd]
    cases i with
    | zero =>
      simp at h
      subst h
      have : isDst t (some t) = true := (isDst_iff _ _).2 rfl
      rw [this]; rfl
    | succ i =>
      have h0 := hn 0 (by omega)
      simp at h0
      have : isDst t d = false := by
        cases hb : isDst t d with
        | false => rfl
        | true => exact absurd ((isDst_iff _ _).1 hb) h0
      rw [this]
      simp only [cond_false]
      rw [defOf_spec (by simpa using h) (fun i' hi' => by have := hn (i' + 1) (by omega); simpa using this)]
      congr 1; omega
theorem allOkD_at {b : List Nat} {chain news : Nat} {ops : Array Oper} {dsts : List (Option Nat)} : ∀ {l : List Oper} {j : Nat}, allOkD b chain news ops dsts l j = true → ∀ i o, l[i]? = some o → opOkD b chain news ops dsts (j + i) o = true
  | [], _, _, i, o, h => by simp at h
  | o' :: l, j, h, i, o, hi => by
    have h : (opOkD b chain news ops dsts j o' && allOkD b chain news ops dsts l (j + 1)) = true := h
    simp only [Bool.and_eq_true] at h
    cases i with
    | zero => simp at hi; subst hi; exact h.1
    | succ i =>
      have := allOkD_at h.2 i o (by simpa using hi)
      rw [show j + (i + 1) = j + 1 + i from by omega]
      exact this
/-- the static facts of a region that draws its order -/
structure Stat (ops : Array Oper) (as : List AOper) (bm : Nat → Nat) : Prop where
  on : ∀ (j : Nat) (o : Oper) (e : Edge), ops[j]? = some o → e ∈ o.after → Region.binds .any e = true → e.on < j ∧ (bm j).testBit e.on = true ∧ ∀ i, (bm e.on).testBit i = true → (bm j).testBit i = true
  inv : ∀ (j : Nat) (o : Oper) (i : Nat), ops[j]? = some o → (bm j).testBit i = true → ∃ e ∈ o.after, Region.binds .any e = true ∧ e.on < j ∧ (i = e.on ∨ (bm e.on).testBit i = true)
  chain : ∀ (c : Nat) (oc : AOper) (i : Nat) (oi : AOper), as[c]? = some oc → oc.op.cls = 2 → i < c → as[i]? = some oi → oi.op.cls ≠ 0 → (bm c).testBit i = true
  tmp : ∀ (j : Nat) (o : Oper) (t i : Nat) (oi : Oper), ops[j]? = some o → t ∈ o.looksAt ops → ops[i]? = some oi → oi.dst = some t → (i < j ∧ (bm j).testBit i = true) ∨ (j < i ∧ (bm i).testBit j = true)
  guard : ∀ (j : Nat) (o : Oper) (g : Nat) (want : Bool), ops[j]? = some o → o.guard = some (g, want) → g < j ∧ ∃ og t, ops[g]? = some og ∧ og.dst = some t
  dist : ∀ (i j : Nat) (oi oj : Oper) (t : Nat), ops[i]? = some oi → ops[j]? = some oj → oi.dst = some t → oj.dst = some t → i = j
  nodef : ∀ o ∈ ops.toList, isDefer o.op = false
  nosel : ∀ o ∈ ops.toList, ∀ cs b, o.op ≠ .select cs b
theorem stat_of {ops : Array Oper} {as : List AOper} (hlen : as.length = ops.size) (h : drawOk ops as = true) : Stat ops as (fun j => nthM j (masksOf ops.toList [] 0).reverse) := by
  unfold drawOk at h
  simp only [Bool.and_eq_true] at h
  obtain ⟨⟨hnd, hdist⟩, hall⟩ := h
  obtain ⟨B, hB, hBl, hBs⟩ := masks_spec ops.toList []
  simp only [List.length_nil, List.reverse_nil, List.nil_append, Nat.zero_add] at hB hBs
  rw [hB] at hall ⊢
  have hat : ∀ (j : Nat) (o : Oper), ops[j]? = some o → ops.toList[j]? = some o := fun j o h => by rw [Array.getElem?_toList]; exact h
  have hok : ∀ (j : Nat) (o : Oper), ops[j]? = some o → opOkD B (clsMask 2 as 0) (clsMask 1 as 0) ops (ops.toList.map (·.dst)) j o = true := fun j o h => by
    have := allOkD_at hall j o (hat j o h)
    simpa using this
  have hedges : ∀ (j : Nat) (o : Oper), ops[j]? = some o → edgesOk j o.after.toList = true := fun j o h => by
    have := hok j o h
    simp only [opOkD, Bool.and_eq_true] at this
    exact this.1.1.1
  have hmask : ∀ (j : Nat) (o : Oper), ops[j]? = some o → nthM j B = maskOf ((B.take j).reverse) j o.after.toList := fun j o h => by
    rw [nthM_eq, hBs j o (hat j o h)]; rfl
  have hjlt : ∀ (j : Nat) (o : Oper), ops[j]? = some o → j < B.length := fun j o h => by
    rw [hBl]
    have := (List.getElem?_eq_some_iff.1 (hat j o h)).1
    exact this
  have hacc : ∀ (j : Nat) (o : Oper) (e : Edge), ops[j]? = some o → e ∈ o.after → bindsB e.ground = true → e.on < j ∧ nthM (j - 1 - e.on) ((B.take j).reverse) = nthM e.on B := fun j o e h he hb => by
    have hlt := edgesOk_lt (hedges j o h) e (by simpa using he) hb
    refine ⟨hlt, ?_⟩
    have hj := hjlt j o h
    rw [nthM_eq, nthM_eq, List.getElem?_reverse (by simp; omega)]
    congr 1
    rw [List.getElem?_take]
    simp only [List.length_take]
    rw [if_pos (by omega)]
    congr 1
    omega
  refine ⟨?_, ?_, ?_, ?_, ?_, ?_, ?_, ?_⟩
  · intro j o e h he hb
    rw [binds_any] at hb
    obtain ⟨h1, h2⟩ := hacc j o e h he hb
    refine ⟨h1, ?_, fun i hi => ?_⟩
    · show (nthM j B).testBit _ = true
      rw [hmask j o h, maskOf_bit]
      exact ⟨e, by simpa using he, hb, .inl rfl⟩
    · show (nthM j B).testBit _ = true
      rw [hmask j o h, maskOf_bit]
      exact ⟨e, by simpa using he, hb, .inr (by rw [h2]; exact hi)⟩
  · intro j o i h hi
    have hi : (nthM j B).testBit i = true := hi
    rw [hmask j o h, maskOf_bit] at hi
    obtain ⟨e, he, hb, hi⟩ := hi
    have he : e ∈ o.after := by simpa using he
    obtain ⟨h1, h2⟩ := hacc j o e h he hb
    refine ⟨e, he, by rw [binds_any]; exact hb, h1, ?_⟩
    rw [h2] at hi
    exact hi
  · intro c oc i oi hc hcls hic hi hicls
    have hcl : c < ops.size := by rw [← hlen]; exact (List.getElem?_eq_some_iff.1 hc).1
    have := hok c ops[c] (Array.getElem?_eq_getElem hcl)
    simp only [opOkD, Bool.and_eq_true] at this
    have h2 := this.2
    have hb : (clsMask 2 as 0).testBit c = true := (clsMask_bit as 0 c).2 ⟨oc, Nat.zero_le _, by simpa using hc, hcls⟩
    rw [hb] at h2
    refine subMask_bit h2 i ?_
    have hl : ∀ a b : Nat, Nat.lor a b = a ||| b := fun _ _ => rfl
    simp only [below, hl, Nat.testBit_mod_two_pow, Nat.testBit_or, Bool.and_eq_true, decide_eq_true_eq, Bool.or_eq_true]
    refine ⟨hic, ?_⟩
    rcases cls_le oi.op with h0 | h1 | h2
    · exact absurd h0 hicls
    · exact .inr ((clsMask_bit as 0 i).2 ⟨oi, Nat.zero_le _, by simpa using hi, h1⟩)
    · exact .inl ((clsMask_bit as 0 i).2 ⟨oi, Nat.zero_le _, by simpa using hi, h2⟩)
  · intro j o t i oi hj ht hi hd
    have := hok j o hj
    simp only [opOkD, Bool.and_eq_true, List.all_eq_true] at this
    have h2 := this.1.1.2 t ht
    have hidx : (ops.toList.map (·.dst))[i]? = some (some t) := by
      rw [List.getElem?_map, hat i oi hi]; simp [hd]
    have hdef := defOf_spec (n := 0) hidx (fun i' hi' h' => distinctD_spec hdist i' i t hi' h' hidx)
    rw [Nat.zero_add] at hdef
    unfold tmpOk at h2
    rw [hdef] at h2
    have h2 : (bif Nat.blt i j then (nthM j B).testBit i else bif Nat.blt j i then (nthM i B).testBit j else false) = true := h2
    cases h3 : Nat.blt i j with
    | true => rw [h3] at h2; exact .inl ⟨by simpa using h3, h2⟩
    | false =>
      rw [h3] at h2
      cases h4 : Nat.blt j i with
      | true => rw [h4] at h2; exact .inr ⟨by simpa using h4, h2⟩
      | false => rw [h4] at h2; cases h2
  · intro j o g want hj hg
    have := hok j o hj
    simp only [opOkD, Bool.and_eq_true] at this
    have h2 := this.1.2
    rw [hg] at h2
    simp only [guardOkD, Bool.and_eq_true, Nat.blt_eq] at h2
    refine ⟨h2.1, ?_⟩
    obtain ⟨t, ht⟩ := Option.isSome_iff_exists.1 h2.2
    obtain ⟨og, h3, h4⟩ := Option.bind_eq_some_iff.1 ht
    exact ⟨og, t, h3, h4⟩
  · intro i j oi oj t hi hj hdi hdj
    have h1 : (ops.toList.map (·.dst))[i]? = some (some t) := by rw [List.getElem?_map, hat i oi hi]; simp [hdi]
    have h2 : (ops.toList.map (·.dst))[j]? = some (some t) := by rw [List.getElem?_map, hat j oj hj]; simp [hdj]
    rcases Nat.lt_trichotomy i j with h | h | h
    · exact absurd h2 (distinctD_spec hdist i j t h h1)
    · exact h
    · exact absurd h1 (distinctD_spec hdist j i t h h2)
  · intro o ho
    unfold noDefer at hnd
    have := List.all_eq_true.1 hnd o ho
    cases hop : o.op <;> rw [hop] at this <;> first | rfl | (simp at this)
  · intro o ho cs b hop
    unfold noDefer at hnd
    have := List.all_eq_true.1 hnd o ho
    rw [hop] at this
    simp at this
theorem Stat.lt {ops : Array Oper} {as : List AOper} {bm : Nat → Nat} (h : Stat ops as bm) {j : Nat} {o : Oper} (hj : ops[j]? = some o) {i : Nat} (hi : (bm j).testBit i = true) : i < j := by
  induction j using Nat.strongRecOn generalizing o with
  | _ j ih =>
    obtain ⟨e, he, hb, hlt, hi⟩ := h.inv j o i hj hi
    rcases hi with rfl | hi
    · exact hlt
    · have hsz : e.on < ops.size := Nat.lt_trans hlt (Array.getElem?_eq_some_iff.1 hj).1
      have := ih e.on hlt (Array.getElem?_eq_getElem hsz) hi
      omega
theorem Stat.trans {ops : Array Oper} {as : List AOper} {bm : Nat → Nat} (h : Stat ops as bm) {j : Nat} {o : Oper} (hj : ops[j]? = some o) {i k : Nat} (hi : (bm j).testBit i = true) (hk : (bm i).testBit k = true) : (bm j).testBit k = true := by
  induction j using Nat.strongRecOn generalizing o with
  | _ j ih =>
    obtain ⟨e, he, hb, hlt, hi⟩ := h.inv j o i hj hi
    obtain ⟨_, _, h3⟩ := h.on j o e hj he hb
    rcases hi with rfl | hi
    · exact h3 k hk
    · have hsz : e.on < ops.size := Nat.lt_trans hlt (Array.getElem?_eq_some_iff.1 hj).1
      exact h3 k (ih e.on hlt (Array.getElem?_eq_getElem hsz) hi)
end Go.Ab
end

section
namespace Go.Ab
variable {β : Type} {P : Program} {ρ : Val} {E : Mem} {s : St} {w : World} {r : β} {k : Kv β}
variable {fr : Fr} {a : Act}

theorem ER.congr {o : Oper} {a' : Act} (h : ER P ρ E s w o a k r) (he : execOp a'.eval o = execOp a.eval o) : ER P ρ E s w o a' k r := by
  unfold ER Yields at *
  rw [he]; exact h

/-! ### the translation looks at the operands alone -/
section
variable {ds ds' : List (Option Nat)}
theorem partsS_congr {fs : Array Field} : ∀ {l : List (Nat × Operand)}, (∀ x ∈ l, trArg ds x.2 = trArg ds' x.2) → partsS P ds fs l = partsS P ds' fs l
  | [], _ => rfl
  | (i, x) :: l, h => by
    unfold partsS
    rw [partsS_congr (l := l) (fun y hy => h y (List.mem_cons_of_mem _ hy)), show trArg ds x = trArg ds' x from h (i, x) (List.mem_cons_self ..)]
theorem partsA_congr {n : Nat} : ∀ {l : List (Nat × Operand)}, (∀ x ∈ l, trArg ds x.2 = trArg ds' x.2) → partsA ds n l = partsA ds' n l
  | [], _ => rfl
  | (i, x) :: l, h => by
    unfold partsA
    rw [partsA_congr (l := l) (fun y hy => h y (List.mem_cons_of_mem _ hy)), show trArg ds x = trArg ds' x from h (i, x) (List.mem_cons_self ..)]
theorem trArgs_congr {xs : Array Operand} (h : ∀ x ∈ xs, trArg ds x = trArg ds' x) : trArgs ds xs = trArgs ds' xs := by
  unfold trArgs
  exact List.map_congr_left fun x hx => h x (by simpa using hx)
theorem mapArgs_congr {l : List Operand} (h : ∀ x ∈ l, trArg ds x = trArg ds' x) : l.map (trArg ds) = l.map (trArg ds') := List.map_congr_left h
theorem trOp_congr {o : Op} (h : ∀ x ∈ o.operands, trArg ds x = trArg ds' x) : trOp P ds o = trOp P ds' o := by
  have pairs : ∀ ps : Array (Nat × Operand), (∀ x ∈ (ps.toList.map (·.2)).toArray, trArg ds x = trArg ds' x) → ∀ x ∈ ps.toList, trArg ds x.2 = trArg ds' x.2 := fun ps hp x hx =>
    hp x.2 (by simp only [List.mem_toArray]; exact List.mem_map.2 ⟨x, hx, rfl⟩)
  cases o <;> simp only [Op.operands] at h <;> simp only [trOp]
  case build t ps =>
    unfold trBuild
    simp only [partsS_congr (pairs ps h), partsA_congr (pairs ps h)]
  case buildSlice t n ps =>
    unfold trBSlice
    simp only [partsA_congr (pairs ps h)]
  case makeFunc fn x y =>
    rw [trArgs_congr (xs := x) fun z hz => h z (by simp [hz]), trArgs_congr (xs := y) fun z hz => h z (by simp [hz])]
  case makeMap t x => cases x <;> rfl
  case slice t x lo hi mx =>
    have h0 : trArg ds x = trArg ds' x := h x (by simp)
    have h1 : ∀ y : Option Operand, (∀ z, y = some z → trArg ds z = trArg ds' z) → trOpt ds y = trOpt ds' y := fun y hy => by
      cases y with
      | none => rfl
      | some z => simp [trOpt, hy z rfl]
    unfold trSlice
    rw [h0, h1 lo (fun z hz => h z (by simp [hz])), h1 hi (fun z hz => h z (by simp [hz])), h1 mx (fun z hz => h z (by simp [hz]))]
  case next x b => cases b <;> simp_all
  case call c =>
    obtain ⟨cal, args, tys⟩ := c
    have ha : ∀ z ∈ args, trArg ds z = trArg ds' z := fun z hz => h z (by simp [Call.operands, hz])
    unfold trCall
    cases cal with
    | value f =>
      have hf : trArg ds f = trArg ds' f := h f (by simp [Call.operands])
      cases f <;> simp only [trArgs_congr ha, hf]
    | invoke x n =>
      have hf : trArg ds x = trArg ds' x := h x (by simp [Call.operands])
      simp only [trArgs_congr ha, hf]
    | builtin b =>
      obtain ⟨al⟩ := args
      obtain ⟨tl⟩ := tys
      simp only [List.mem_toArray] at ha
      simp only
      unfold trBuiltin
      simp only
      split
      · rw [ha _ (by simp)]
      · rw [ha _ (by simp)]
      · unfold trAppend; rename_i x y _ _; rw [ha x (by simp), ha y (by simp)]
      · unfold trCopy; rename_i x y _ _; rw [ha x (by simp), ha y (by simp)]
      · rename_i x l; rw [ha x (by simp), mapArgs_congr (l := l) fun z hz => ha z (by simp [hz])]
      · rename_i x l; rw [ha x (by simp), mapArgs_congr (l := l) fun z hz => ha z (by simp [hz])]
      · unfold trDelete; rename_i x y _ _; rw [ha x (by simp), ha y (by simp)]
      · rfl
  case defer c =>
    obtain ⟨cal, args, tys⟩ := c
    have ha : ∀ z ∈ args, trArg ds z = trArg ds' z := fun z hz => h z (by simp [Call.operands, hz])
    cases cal with
    | value f =>
      have hf : trArg ds f = trArg ds' f := h f (by simp [Call.operands])
      simp only [trArgs_congr ha, hf]
    | invoke x n => rfl
    | builtin b => rfl
  case binOp o t x y c =>
    have h0 := h x (by simp)
    have h1 := h y (by simp)
    unfold trBin
    simp only [h0, h1]
  case convert a b x =>
    have h0 := h x (by simp)
    unfold trConv
    simp only [h0]
  all_goals first
    | rfl
    | (have h0 := fun x hx => h x hx
       simp only [List.mem_toArray, List.mem_cons, List.not_mem_nil, or_false, forall_eq_or_imp, forall_eq] at h
       first
         | (simp only [h]; done)
         | (unfold trFadr; simp only [h]; done)
         | (unfold trFld; simp only [h]; done)
         | (unfold trIxa; simp only [h]; done)
         | (unfold trIx; simp only [h]; done)
         | (unfold trLookup; simp only [h]; done)
         | (unfold trAssert; simp only [h]; done)
         | (unfold trMkSl; simp only [h]; done))
end
end Go.Ab
end

section
namespace Go.Ab
variable {P : Program} {ρ : Val}

/-! ### a region that draws its order: the setting -/
instance : Inhabited TI := ⟨⟨⟨.lf, .xH, []⟩, false, .bad, .dead, ⟨.lf, .xH, []⟩⟩⟩
def dsAt (ops : Array Oper) (i : Nat) : List (Option Nat) := ((ops.toList.take i).map (·.dst)).reverse
open Classical in
noncomputable def Mem.sub (F : Mem) (X : Pos → Prop) : Mem := ⟨fun p => if X p then F.blk p else none, F.cap⟩
theorem Mem.sub_blk {F : Mem} {X : Pos → Prop} {p : Pos} {x : Nat × Nat} : (F.sub X).blk p = some x ↔ X p ∧ F.blk p = some x := by
  unfold Mem.sub
  simp only
  split
  · rename_i h; simp [h]
  · rename_i h; simp [h]
theorem Mem.sub_eq {F : Mem} {X : Pos → Prop} {p : Pos} (h : X p) : (F.sub X).blk p = F.blk p := by simp [Mem.sub, h]
theorem Mem.sub_le {F : Mem} {X Y : Pos → Prop} (h : ∀ p x, F.blk p = some x → X p → Y p) : Mem.Le (F.sub X) (F.sub Y) :=
  ⟨fun p x hx => by rw [Mem.sub_blk] at hx ⊢; exact ⟨h p x hx.2 hx.1, hx.2⟩, fun _ _ _ => rfl⟩
theorem Mem.sub_mono {F F' : Mem} {X Y : Pos → Prop} (hF : Mem.Le F F') (h : ∀ p x, F.blk p = some x → X p → Y p) : Mem.Le (F.sub X) (F'.sub Y) :=
  ⟨fun p x hx => by rw [Mem.sub_blk] at hx ⊢; exact ⟨h p x hx.2 hx.1, hF.blk p x hx.2⟩, fun p x hx => by rw [Mem.sub_blk] at hx; exact hF.cap p x hx.2⟩
/-- the fixed data of the region -/
structure DC where
  nt : Nat
  mask : Nat
  ops : Array Oper
  bm : Nat → Nat
  fr : Fr
  Ei : Mem
  s0 : St
  w0 : World
  a0 : Act
  ts : List TI
  cd : CallT (AV × St)
  asm : List (BE × Bool)
  nx : Pos
  ns : List New
namespace DC
variable (c : DC)
def sg (i : Nat) : St := sFin c.s0 (c.ts.take i)
def tI (i : Nat) : TI := (c.ts[i]?).getD default
noncomputable def op (P : Program) (o : Oper) (i : Nat) : AOp := trOp P (dsAt c.ops i) o.op
noncomputable def clo (P : Program) (i : Nat) : Nat := match c.ops[i]? with | some o => (c.op P o i).cls | none => 0
def newRan (P : Program) (i : Nat) : Prop := c.clo P i = 1 ∧ (c.tI i).ran = true ∧ i < c.ops.size
def id (i : Nat) : Pos := (c.sg i).next
def bel (i : Nat) (p : Pos) : Prop := p.toNat < (c.sg i).next.toNat
def Y (P : Program) (q i : Nat) (p : Pos) : Prop := c.bel q p ∨ ∃ j, (c.bm i).testBit j = true ∧ c.newRan P j ∧ p = c.id j
def X (P : Program) (q i : Nat) (p : Pos) : Prop := c.bel q p ∨ ∃ j, (j = i ∨ (c.bm i).testBit j = true) ∧ c.newRan P j ∧ p = c.id j
/-- what is known of the data -/
structure Ok (P : Program) (ρ : Val) : Prop where
  cdok : CallOk P c.cd
  as : ∃ as : List AOper, Stat c.ops as c.bm ∧ ∀ i o, c.ops[i]? = some o → ∃ ao, as[i]? = some ao ∧ ao.op = c.op P o i
  len : c.ts.length = c.ops.size
  it : ∀ i o, c.ops[i]? = some o → dstOk c.nt o.dst = true ∧ ∃ g, trGuard c.ops (dsAt c.ops i) o.guard = some g ∧
    ItemOk P ρ c.cd c.fr ⟨trDst c.mask o.dst, g, c.op P o i, isDefer o.op⟩ (lsAt [] c.ts i) (c.sg i) (c.tI i)
  frel : FrRel ρ c.nt c.mask c.Ei c.fr c.a0
  asmok : AsmOk ρ c.asm
  nsok : ∀ n, n ∈ c.ns ↔ ∃ j, c.newRan P j ∧ n = ⟨j, c.id j, (c.tI j).b⟩
  nxok : ∀ i, i ≤ c.ops.size → (c.sg i).next.toNat ≤ c.nx.toNat
  chk : ∀ i o q, c.ops[i]? = some o → c.clo P i = 0 → (c.tI i).ran = true → q ≤ c.ops.size → (q = 0 ∨ c.clo P (q - 1) = 2) →
    (∀ j, c.clo P j = 2 → (c.bm i).testBit j = true → j < q) → (∀ j, j < q → c.clo P j = 2 → (c.bm j).testBit i = false) →
    isOkSame (c.tI i).v (evOp P (c.op P o i) callNo (lsAt [] c.ts i) c.fr ⟨addNews (c.bm i) (c.sg q).next.nat c.ns (c.sg q).heap, c.nx, c.asm⟩ okU) = true
variable {c}
theorem sg_zero : c.sg 0 = c.s0 := by unfold DC.sg; simp [sFin]
theorem sg_succ (h : c.ts.length = c.ops.size) {i : Nat} (hi : i < c.ops.size) : c.sg (i + 1) = (c.tI i).s2 := by
  have hlt : i < c.ts.length := by omega
  have : c.ts[i]? = some c.ts[i] := List.getElem?_eq_getElem hlt
  unfold DC.sg DC.tI
  rw [sFin_succ _ _ _ _ this, this]
  rfl
section
variable (hc : c.Ok P ρ)
include hc
theorem get_op {i : Nat} (hi : i < c.ops.size) : ∃ o, c.ops[i]? = some o := ⟨_, Array.getElem?_eq_getElem hi⟩
theorem clo_eq {i : Nat} {o : Oper} (ho : c.ops[i]? = some o) : c.clo P i = (c.op P o i).cls := by unfold DC.clo; rw [ho]
theorem clo_lt {i : Nat} (h : c.clo P i ≠ 0) : i < c.ops.size := by
  unfold DC.clo at h
  split at h
  · rename_i o ho; exact (Array.getElem?_eq_some_iff.1 ho).1
  · exact absurd rfl h
theorem step_plain {i : Nat} (hi : i < c.ops.size) (h2 : c.clo P i = 2 → (c.tI i).ran = false) (h1 : ¬ c.newRan P i) : (c.sg (i + 1)).heap = (c.sg i).heap ∧ (c.sg (i + 1)).next = (c.sg i).next := by
  obtain ⟨o, ho⟩ := get_op hc hi
  obtain ⟨_, g, _, hit⟩ := hc.it i o ho
  have hcl := clo_eq (P := P) hc ho
  rw [sg_succ hc.len hi]
  cases hran : (c.tI i).ran with
  | false => rw [(hit.skip hran).2]; exact ⟨hit.more.heap, hit.more.next⟩
  | true =>
    obtain ⟨sr, hT, hq, hn, he⟩ := hit.ran hran
    have h0 : (c.op P o i).cls = 0 := by
      rcases cls_le (c.op P o i) with h | h | h
      · exact h
      · exact absurd ⟨by rw [hcl]; exact h, hran, hi⟩ h1
      · have := h2 (by rw [hcl]; exact h); rw [hran] at this; cases this
    obtain ⟨e1, e2⟩ := hq h0
    exact ⟨e1.trans hit.more.heap, e2.trans hit.more.next⟩
theorem step_new {i : Nat} (h1 : c.newRan P i) : (c.sg (i + 1)).heap = (c.sg i).heap.put (c.sg i).next (some (c.tI i).b) ∧ (c.sg (i + 1)).next = (c.sg i).next.succ := by
  obtain ⟨h1, hran, hi⟩ := h1
  obtain ⟨o, ho⟩ := get_op hc hi
  obtain ⟨_, g, _, hit⟩ := hc.it i o ho
  have hcl := clo_eq (P := P) hc ho
  obtain ⟨sr, hT, hq, hn, he⟩ := hit.ran hran
  obtain ⟨e1, e2, e3⟩ := hn (by rw [← h1, hcl])
  rw [sg_succ hc.len hi, e2, e3, hit.more.heap, hit.more.next]
  exact ⟨rfl, rfl⟩
theorem step_mono {i : Nat} (hi : i < c.ops.size) : (c.sg i).next.toNat ≤ (c.sg (i + 1)).next.toNat := by
  by_cases h1 : c.newRan P i
  · rw [(step_new hc h1).2, Pos.toNat_succ]; omega
  · by_cases h2 : c.clo P i = 2 → (c.tI i).ran = false
    · rw [(step_plain hc hi h2 h1).2]; exact Nat.le_refl _
    · have h2' : c.clo P i = 2 ∧ (c.tI i).ran = true := by
        refine ⟨Classical.byContradiction fun h => h2 fun h' => absurd h' h, ?_⟩
        cases hr : (c.tI i).ran with
        | true => rfl
        | false => exact absurd (fun _ => hr) h2
      obtain ⟨o, ho⟩ := get_op hc hi
      obtain ⟨_, g, _, hit⟩ := hc.it i o ho
      have hcl := clo_eq (P := P) hc ho
      obtain ⟨sr, hT, hq, hn, he⟩ := hit.ran h2'.2
      obtain ⟨e1, e2, e3⟩ := he (by rw [← h2'.1, hcl])
      rw [sg_succ hc.len hi, e2, ← hit.more.next]
      exact e3
theorem mono {i j : Nat} (hij : i ≤ j) (hj : j ≤ c.ops.size) : (c.sg i).next.toNat ≤ (c.sg j).next.toNat := by
  induction j with
  | zero => have : i = 0 := by omega
            subst this; exact Nat.le_refl _
  | succ j ih =>
    by_cases e : i = j + 1
    · subst e; exact Nat.le_refl _
    · exact Nat.le_trans (ih (by omega) (by omega)) (step_mono hc (by omega))
theorem id_lt {i j : Nat} (hi : c.newRan P i) (hij : i < j) (hj : j ≤ c.ops.size) : (c.id i).toNat < (c.sg j).next.toNat := by
  have h1 : (c.sg (i + 1)).next.toNat = (c.id i).toNat + 1 := by rw [(step_new hc hi).2, Pos.toNat_succ]; rfl
  have := mono hc (show i + 1 ≤ j by omega) hj
  omega
theorem id_inj {i j : Nat} (hi : c.newRan P i) (hj : c.newRan P j) (h : c.id i = c.id j) : i = j := by
  rcases Nat.lt_trichotomy i j with h' | h' | h'
  · have := id_lt hc hi h' (Nat.le_of_lt hj.2.2)
    rw [h] at this; exact absurd this (Nat.lt_irrefl _)
  · exact h'
  · have := id_lt hc hj h' (Nat.le_of_lt hi.2.2)
    rw [← h] at this; exact absurd this (Nat.lt_irrefl _)
theorem heap_between {q m : Nat} (hqm : q ≤ m) (hm : m ≤ c.ops.size) (hno : ∀ j, q ≤ j → j < m → c.clo P j = 2 → (c.tI j).ran = false) {p : Pos} {b : Blk} (h : (c.sg m).heap.get p = some b) :
    (c.sg q).heap.get p = some b ∨ ∃ j, q ≤ j ∧ j < m ∧ c.newRan P j ∧ p = c.id j ∧ b = (c.tI j).b := by
  induction m with
  | zero => have : q = 0 := by omega
            subst this; exact .inl h
  | succ m ih =>
    by_cases e : q = m + 1
    · subst e; exact .inl h
    · have ih' := ih (by omega) (by omega) (fun j h1 h2 => hno j h1 (by omega))
      have lift : (c.sg m).heap.get p = some b → (c.sg q).heap.get p = some b ∨ ∃ j, q ≤ j ∧ j < m + 1 ∧ c.newRan P j ∧ p = c.id j ∧ b = (c.tI j).b := fun h => by
        rcases ih' h with h | ⟨j, h1, h2, h3⟩
        · exact .inl h
        · exact .inr ⟨j, h1, by omega, h3⟩
      by_cases h1 : c.newRan P m
      · rw [(step_new hc h1).1, Trie.get_put] at h
        by_cases e2 : p = (c.sg m).next
        · rw [if_pos e2] at h
          cases h
          exact .inr ⟨m, by omega, by omega, h1, e2, rfl⟩
        · rw [if_neg e2] at h
          exact lift h
      · rw [(step_plain hc (by omega) (hno m (by omega) (by omega)) h1).1] at h
        exact lift h
theorem heap_keep {q m : Nat} (hqm : q ≤ m) (hm : m ≤ c.ops.size) (hno : ∀ j, q ≤ j → j < m → c.clo P j = 2 → (c.tI j).ran = false) {p : Pos} {b : Blk} (hlt : p.toNat < (c.sg q).next.toNat) (h : (c.sg q).heap.get p = some b) :
    (c.sg m).heap.get p = some b := by
  induction m with
  | zero => have : q = 0 := by omega
            subst this; exact h
  | succ m ih =>
    by_cases e : q = m + 1
    · subst e; exact h
    · have ih' := ih (by omega) (by omega) (fun j h1 h2 => hno j h1 (by omega))
      by_cases h1 : c.newRan P m
      · rw [(step_new hc h1).1, Trie.get_put, if_neg (fun e2 => ?_)]
        · exact ih'
        · have := mono hc (show q ≤ m by omega) (show m ≤ c.ops.size by omega)
          rw [e2] at hlt; omega
      · rw [(step_plain hc (by omega) (hno m (by omega) (by omega)) h1).1]
        exact ih'
end
end DC
/-- the invariant: D: what is done · q: behind the last effect · F: where all lies -/
structure DInv (P : Program) (ρ : Val) (c : DC) (D : Nat → Bool) (q : Nat) (F : Mem) (a : Act) (w : World) : Prop where
  cl : ∀ j, D j = true → ∀ i, (c.bm j).testBit i = true → D i = true
  lt : ∀ j, D j = true → j < c.ops.size
  qle : q ≤ c.ops.size
  qch : q = 0 ∨ (c.clo P (q - 1) = 2 ∧ D (q - 1) = true)
  above : ∀ j, c.clo P j = 2 → q ≤ j → D j = false
  hr : HRel ρ (F.sub (c.bel q)) ⟨(c.sg q).heap, (c.sg q).next, c.asm⟩ w
  st : Step c.Ei c.s0 c.w0 (F.sub (c.bel q)) ⟨(c.sg q).heap, (c.sg q).next, c.asm⟩ w
  dom : ∀ p x, F.blk p = some x → c.bel q p ∨ ∃ j, D j = true ∧ c.newRan P j ∧ q ≤ j ∧ p = c.id j
  pend : ∀ j, D j = true → c.newRan P j → q ≤ j → ∃ k, F.blk (c.id j) = some (k, 0) ∧ BRel ρ (F.sub (c.X P q j)) (c.id j) (c.tI j).b w ∧ Live (c.tI j).b ∧ k < w.heap.size ∧ c.w0.heap.size ≤ k ∧
    ∀ p b o, (c.sg q).heap.get p = some b → Live b → c.bel q p → F.blk p ≠ some (k, o)
  pinj : ∀ j j' k, D j = true → D j' = true → c.newRan P j → c.newRan P j' → q ≤ j → q ≤ j' → F.blk (c.id j) = some (k, 0) → F.blk (c.id j') = some (k, 0) → j = j'
  vals : ∀ i o t, D i = true → c.ops[i]? = some o → o.dst = some t → cv ρ (F.sub (c.X P q i)) (c.tI i).v = some (a.tmps.getD t undef)
  olds : ∀ t, (∀ i o, D i = true → c.ops[i]? = some o → o.dst ≠ some t) → a.tmps.getD t undef = c.a0.tmps.getD t undef
  size : a.tmps.size = c.nt
  defs : a.defers = c.a0.defers
namespace DC
variable {c : DC} {D : Nat → Bool} {q : Nat} {F : Mem} {a : Act} {w : World}
/-- the blocks that wait are taken in -/
theorem absorb (hc : c.Ok P ρ) (h : DInv P ρ c D q F a w) {m : Nat} (hqm : q ≤ m) (hm : m ≤ c.ops.size) (hno : ∀ j, q ≤ j → j < m → c.clo P j ≠ 2) (hall : ∀ j, q ≤ j → j < m → c.newRan P j → D j = true) :
    HRel ρ (F.sub (c.bel m)) ⟨(c.sg m).heap, (c.sg m).next, c.asm⟩ w ∧ Step c.Ei c.s0 c.w0 (F.sub (c.bel m)) ⟨(c.sg m).heap, (c.sg m).next, c.asm⟩ w := by
  have hmono := mono hc hqm hm
  have hle : Mem.Le (F.sub (c.bel q)) (F.sub (c.bel m)) := Mem.sub_le fun p x _ hp => by unfold DC.bel at *; omega
  have hbt := fun {p : Pos} {b : Blk} => heap_between hc hqm hm (fun j h1 h2 h3 => absurd h3 (hno j h1 h2)) (p := p) (b := b)
  have hXm : ∀ j, j < m → Mem.Le (F.sub (c.X P q j)) (F.sub (c.bel m)) := fun j hj => Mem.sub_le fun p x _ hp => by
    rcases hp with hp | ⟨j', hj', hn, rfl⟩
    · unfold DC.bel at *; omega
    · have : j' < m := by
        rcases hj' with rfl | hb
        · exact hj
        · obtain ⟨as, hst, _⟩ := hc.as
          have hjn : j < c.ops.size := by omega
          have := hst.lt (Array.getElem?_eq_getElem hjn) hb
          omega
      exact id_lt hc hn this hm
  -- where a live block of the later state lies
  have place : ∀ p b k o, (c.sg m).heap.get p = some b → Live b → (F.sub (c.bel m)).blk p = some (k, o) →
      ((c.sg q).heap.get p = some b ∧ (F.sub (c.bel q)).blk p = some (k, o)) ∨ ∃ j, q ≤ j ∧ j < m ∧ c.newRan P j ∧ D j = true ∧ p = c.id j ∧ b = (c.tI j).b ∧ o = 0 ∧ F.blk (c.id j) = some (k, 0) := by
    intro p b k o hp hl he
    rw [Mem.sub_blk] at he
    rcases hbt hp with h1 | ⟨j, h1, h2, h3, rfl, rfl⟩
    · left
      refine ⟨h1, Mem.sub_blk.2 ⟨?_, he.2⟩⟩
      exact h.hr.dom p b h1
    · right
      have hD := hall j h1 h2 h3
      obtain ⟨k', hk', _⟩ := h.pend j hD h3 h1
      rw [hk'] at he
      cases he.2
      exact ⟨j, h1, h2, h3, hD, rfl, rfl, rfl, hk'⟩
  refine ⟨⟨?_, ?_, ?_, ?_, hc.asmok⟩, ⟨h.st.le.trans hle, Nat.le_trans h.st.next hmono, ?_, h.st.size, h.st.frame, ?_, h.st.os, h.st.out, h.st.tape, ?_⟩⟩
  · intro p b hp
    rcases hbt hp with h1 | ⟨j, h1, h2, h3, rfl, rfl⟩
    · exact (h.hr.blks p b h1).congr hle fun _ _ _ _ => rfl
    · obtain ⟨k, _, hb, _⟩ := h.pend j (hall j h1 h2 h3) h3 h1
      exact hb.congr (hXm j h2) fun _ _ _ _ => rfl
  · intro p p' b b' k o o' hp hp' hl hl' he he'
    rcases place p b k o hp hl he with ⟨g1, g2⟩ | ⟨j, j1, j2, j3, j4, rfl, rfl, rfl, j5⟩
    · rcases place p' b' k o' hp' hl' he' with ⟨g1', g2'⟩ | ⟨j, j1, j2, j3, j4, rfl, rfl, rfl, j5⟩
      · exact h.hr.inj p p' b b' k o o' g1 g1' hl hl' g2 g2'
      · left; obtain ⟨k', e1, _, _, _, _, e2⟩ := h.pend j j4 j3 j1
        rw [j5] at e1; cases e1
        rw [Mem.sub_blk] at g2
        exact absurd g2.2 (e2 p b o g1 hl g2.1)
    · rcases place p' b' k o' hp' hl' he' with ⟨g1', g2'⟩ | ⟨j', j1', j2', j3', j4', rfl, rfl, rfl, j5'⟩
      · obtain ⟨k', e1, _, _, _, _, e2⟩ := h.pend j j4 j3 j1
        rw [j5] at e1; cases e1
        rw [Mem.sub_blk] at g2'
        exact absurd g2'.2 (e2 p' b' o' g1' hl' g2'.1)
      · left; rw [h.pinj j j' k j4 j4' j3 j3' j1 j1' j5 j5']
  · intro p b hp
    rcases hbt hp with h1 | ⟨j, h1, h2, h3, rfl, rfl⟩
    · exact Nat.lt_of_lt_of_le (h.hr.dom p b h1) hmono
    · exact id_lt hc h3 h2 hm
  · intro p x hx
    exact (Mem.sub_blk.1 hx).1
  · intro p hp
    have h1 := h.st.old p hp
    have hbq : c.bel q p := Nat.lt_of_lt_of_le hp h.st.next
    rw [Mem.sub_eq hbq] at h1
    rw [Mem.sub_eq (show c.bel m p from Nat.lt_of_lt_of_le hbq hmono)]
    exact h1
  · intro p b k o hp hl he
    rcases place p b k o hp hl he with ⟨g1, g2⟩ | ⟨j, j1, j2, j3, j4, rfl, rfl, rfl, j5⟩
    · exact h.st.img p b k o g1 hl g2
    · obtain ⟨k', e1, _, _, _, e2, _⟩ := h.pend j j4 j3 j1
      rw [j5] at e1; cases e1
      exact .inl e2
  · intro p x k t hp
    have h1 := h.st.ro p x k t hp
    exact heap_keep hc hqm hm (fun j h1 h2 h3 => absurd h3 (hno j h1 h2)) (h.hr.dom p _ h1) h1
end DC
end Go.Ab
end

section
namespace Go.Ab
variable {P : Program} {ρ : Val}

theorem findD_at : ∀ (t : Nat) (ds : List (Option Nat)) (n j : Nat), findD t ds n = some j → n ≤ j ∧ ds[j - n]? = some (some t)
  | t, [], n, j, h => by cases h
  | t, none :: ds, n, j, h => by
    obtain ⟨h1, h2⟩ := findD_at t ds (n + 1) j h
    exact ⟨by omega, by rw [show j - n = (j - (n + 1)) + 1 from by omega]; simpa using h2⟩
  | t, some u :: ds, n, j, h => by
    have h' : (Bool.rec (motive := fun _ => Option Nat) (findD t ds (n + 1)) (some n) (Nat.beq u t)) = some j := h
    cases hb : Nat.beq u t with
    | true => rw [hb] at h'; cases h'; exact ⟨Nat.le_refl _, by simp; simpa using hb⟩
    | false =>
      rw [hb] at h'
      obtain ⟨h1, h2⟩ := findD_at t ds (n + 1) j h'
      exact ⟨by omega, by rw [show j - n = (j - (n + 1)) + 1 from by omega]; simpa using h2⟩
theorem findD_none : ∀ (t : Nat) (ds : List (Option Nat)) (n : Nat), findD t ds n = none → ∀ j : Nat, ds[j]? ≠ some (some t)
  | t, [], n, h, j => by simp
  | t, none :: ds, n, h, j => by
    cases j with
    | zero => simp
    | succ j => simpa using findD_none t ds (n + 1) h j
  | t, some u :: ds, n, h, j => by
    have h' : (Bool.rec (motive := fun _ => Option Nat) (findD t ds (n + 1)) (some n) (Nat.beq u t)) = none := h
    cases hb : Nat.beq u t with
    | true => rw [hb] at h'; cases h'
    | false =>
      rw [hb] at h'
      cases j with
      | zero => simp; intro e; subst e; simp at hb
      | succ j => simpa using findD_none t ds (n + 1) h' j
/-- the operands' definitions alone -/
def maskD (lk : List Nat) (d : Option Nat) : Option Nat := match d with | some d => if d ∈ lk then some d else none | none => none
theorem findD_mask (lk : List Nat) : ∀ (t : Nat) (ds : List (Option Nat)) (n : Nat), findD t (ds.map (maskD lk)) n = if t ∈ lk then findD t ds n else none
  | t, [], n => by simp [findD]
  | t, none :: ds, n => by
    have := findD_mask lk t ds (n + 1)
    exact this
  | t, some u :: ds, n => by
    have ih := findD_mask lk t ds (n + 1)
    have h2 : findD t (some u :: ds) n = (Bool.rec (motive := fun _ => Option Nat) (findD t ds (n + 1)) (some n) (Nat.beq u t)) := rfl
    by_cases hu : u ∈ lk
    · have hm : (some u :: ds).map (maskD lk) = some u :: ds.map (maskD lk) := by simp [maskD, hu]
      rw [hm]
      have h1 : findD t (some u :: ds.map (maskD lk)) n = (Bool.rec (motive := fun _ => Option Nat) (findD t (ds.map (maskD lk)) (n + 1)) (some n) (Nat.beq u t)) := rfl
      rw [h1, h2, ih]
      cases hb : Nat.beq u t with
      | true =>
        have : u = t := by simpa using hb
        subst this
        simp [hu]
      | false => rfl
    · have hm : (some u :: ds).map (maskD lk) = none :: ds.map (maskD lk) := by simp [maskD, hu]
      rw [hm]
      have h1 : findD t (none :: ds.map (maskD lk)) n = findD t (ds.map (maskD lk)) (n + 1) := rfl
      rw [h1, h2, ih]
      by_cases ht : t ∈ lk
      · rw [if_pos ht, if_pos ht]
        have : Nat.beq u t = false := by
          cases hb : Nat.beq u t with
          | false => rfl
          | true => have e : u = t := by simpa using hb
                    subst e; exact absurd ht hu
        rw [this]
      · rw [if_neg ht, if_neg ht]
namespace DC
variable {c : DC} {D : Nat → Bool} {q : Nat} {F : Mem} {a : Act} {w : World}
theorem dsAt_get {i j : Nat} {t : Nat} (h : (dsAt c.ops i)[j]? = some (some t)) (hi : i ≤ c.ops.size) : j < i ∧ ∃ o, c.ops[i - 1 - j]? = some o ∧ o.dst = some t := by
  unfold dsAt at h
  have hl : ((c.ops.toList.take i).map (·.dst)).length = i := by simp; omega
  have hj : j < i := by
    have := (List.getElem?_eq_some_iff.1 h).1
    rw [List.length_reverse, hl] at this
    exact this
  refine ⟨hj, ?_⟩
  rw [List.getElem?_reverse (by rw [hl]; exact hj), hl, List.getElem?_map, List.getElem?_take, if_pos (by omega)] at h
  obtain ⟨o, ho, hd⟩ := Option.map_eq_some_iff.1 h
  exact ⟨o, by simpa using ho, hd⟩
theorem dsAt_has {i i' t : Nat} {o : Oper} (hi : i' < i) (ho : c.ops[i']? = some o) (hd : o.dst = some t) (hin : i ≤ c.ops.size) : (dsAt c.ops i)[i - 1 - i']? = some (some t) := by
  unfold dsAt
  have hl : ((c.ops.toList.take i).map (·.dst)).length = i := by simp; omega
  rw [List.getElem?_reverse (by rw [hl]; omega), hl, List.getElem?_map, List.getElem?_take, if_pos (by omega)]
  rw [show i - 1 - (i - 1 - i') = i' from by omega]
  rw [show c.ops.toList[i']? = some o from by simpa using ho]
  simp [hd]
theorem lsAt_get {i j : Nat} {v : AV} (hlen : c.ts.length = c.ops.size) (hi : i ≤ c.ops.size) (hj : j < i) (h : nthL j (lsAt [] c.ts i) = some v) : v = (c.tI (i - 1 - j)).v := by
  rw [nthL_eq] at h
  unfold lsAt at h
  rw [List.append_nil] at h
  have hl : ((c.ts.take i).map (·.v)).length = i := by simp; omega
  rw [List.getElem?_reverse (by rw [hl]; exact hj), hl, List.getElem?_map, List.getElem?_take, if_pos (by omega)] at h
  obtain ⟨t, ht, hv⟩ := Option.map_eq_some_iff.1 h
  unfold DC.tI
  rw [ht]
  exact hv.symm
/-- the act that an operation may look at -/
def mAct (c : DC) (lk : List Nat) (a : Act) : Act := ⟨(Array.range c.nt).map fun t => if t ∈ lk then a.tmps.getD t undef else c.a0.tmps.getD t undef, a.defers⟩
theorem mAct_get (hc : c.Ok P ρ) (hs : a.tmps.size = c.nt) (lk : List Nat) (t : Nat) : (mAct c lk a).tmps.getD t undef = if t ∈ lk then a.tmps.getD t undef else c.a0.tmps.getD t undef := by
  unfold mAct
  by_cases ht : t < c.nt
  · simp [Array.getD_eq_getD_getElem?, Array.getElem?_map, ht]
  · have h1 : a.tmps.getD t undef = undef := by
      rw [Array.getD_eq_getD_getElem?, Array.getElem?_eq_none (by omega)]; rfl
    have h2 : c.a0.tmps.getD t undef = undef := by
      rw [Array.getD_eq_getD_getElem?, Array.getElem?_eq_none (by rw [hc.frel.size]; omega)]; rfl
    rw [h1, h2]
    simp [Array.getD_eq_getD_getElem?, Array.getElem?_map, ht]
/-- an operation is ready -/
structure Rdy (c : DC) (D : Nat → Bool) (i : Nat) (o : Oper) : Prop where
  op : c.ops[i]? = some o
  new : D i = false
  all : ∀ j, (c.bm i).testBit j = true → D j = true
variable {i : Nat} {o : Oper}
/-- the definitions ahead that an operation looks at -/
theorem look (hc : c.Ok P ρ) (h : DInv P ρ c D q F a w) (hr : Rdy c D i o) {t : Nat} (ht : t ∈ o.looksAt c.ops) :
    (∀ j v, findD t (dsAt c.ops i) 0 = some j → nthL j (lsAt [] c.ts i) = some v → cv ρ (F.sub (c.Y P q i)) v = some (a.tmps.getD t undef)) ∧
    (findD t (dsAt c.ops i) 0 = none → a.tmps.getD t undef = c.a0.tmps.getD t undef) := by
  obtain ⟨as, hst, _⟩ := hc.as
  have hin : i < c.ops.size := (Array.getElem?_eq_some_iff.1 hr.op).1
  constructor
  · intro j v hj hv
    obtain ⟨_, h1⟩ := findD_at t _ 0 j hj
    obtain ⟨hji, o', ho', hd'⟩ := dsAt_get (c := c) h1 (Nat.le_of_lt hin)
    simp only [Nat.sub_zero] at hji ho'
    rw [lsAt_get hc.len (Nat.le_of_lt hin) hji hv]
    rcases hst.tmp i o t _ o' hr.op ht ho' hd' with ⟨h2, h3⟩ | ⟨h2, _⟩
    · have hD := hr.all _ h3
      refine cv_mono (Mem.sub_le fun p x _ hp => ?_) (h.vals _ o' t hD ho' hd')
      rcases hp with hp | ⟨j', hj', hn, rfl⟩
      · exact .inl hp
      · refine .inr ⟨j', ?_, hn, rfl⟩
        rcases hj' with rfl | hb
        · exact h3
        · exact hst.trans hr.op h3 hb
    · omega
  · intro hno
    refine h.olds t fun i' o' hD ho' hd' => ?_
    rcases hst.tmp i o t i' o' hr.op ht ho' hd' with ⟨h2, h3⟩ | ⟨h2, h3⟩
    · exact findD_none t _ 0 hno _ (dsAt_has h2 ho' hd' (Nat.le_of_lt hin))
    · have := h.cl i' hD i h3
      rw [hr.new] at this; cases this
theorem Ei_le (h : DInv P ρ c D q F a w) : Mem.Le c.Ei (F.sub (c.bel q)) := h.st.le
/-- the operands -/
theorem res_at (hc : c.Ok P ρ) (h : DInv P ρ c D q F a w) (hr : Rdy c D i o) {Em : Mem} (hEm : Mem.Le (F.sub (c.Y P q i)) Em) :
    Res ρ Em ((dsAt c.ops i).map (maskD (o.looksAt c.ops))) (lsAt [] c.ts i) c.fr (mAct c (o.looksAt c.ops) a) := by
  intro x v hv
  cases x with
  | const u => exact cstArg_ok hv
  | global g => cases hv
  | func f => cases hv; simp [cv, cvs, Act.eval]
  | tmp t =>
    show cv ρ Em v = some ((mAct c (o.looksAt c.ops) a).tmps.getD t undef)
    rw [mAct_get hc h.size]
    unfold trArg at hv
    simp only [findD_mask] at hv
    have hEi : Mem.Le c.Ei Em := (Ei_le h).trans ((Mem.sub_le fun p x _ hp => .inl hp).trans hEm)
    by_cases ht : t ∈ o.looksAt c.ops
    · rw [if_pos ht] at hv ⊢
      obtain ⟨l1, l2⟩ := look hc h hr ht
      cases hf : findD t (dsAt c.ops i) 0 with
      | some j => rw [hf] at hv; exact cv_mono hEm (l1 j v hf hv)
      | none =>
        rw [hf] at hv
        rw [l2 hf]
        exact cv_mono hEi (hc.frel.val t v hv)
    · rw [if_neg ht] at hv ⊢
      exact cv_mono hEi (hc.frel.val t v hv)
theorem op_mask (hr : Rdy c D i o) : trOp P ((dsAt c.ops i).map (maskD (o.looksAt c.ops))) o.op = c.op P o i := by
  unfold DC.op
  refine trOp_congr fun x hx => ?_
  cases x with
  | tmp t =>
    have ht : t ∈ o.looksAt c.ops := List.mem_append_left _ (List.mem_filterMap.2 ⟨.tmp t, by simpa using hx, rfl⟩)
    unfold trArg
    simp only [findD_mask, if_pos ht]
  | _ => rfl
theorem exec_mask (hc : c.Ok P ρ) (h : DInv P ρ c D q F a w) (hr : Rdy c D i o) : execOp a.eval o = execOp (mAct c (o.looksAt c.ops) a).eval o := by
  obtain ⟨as, hst, _⟩ := hc.as
  refine execOp_congr o (hst.nosel o (by
    have := Array.getElem?_eq_some_iff.1 hr.op
    obtain ⟨h1, h2⟩ := this
    rw [← h2]; exact Array.getElem_mem_toList _)) fun x hx => ?_
  cases x with
  | tmp t =>
    have ht : t ∈ o.looksAt c.ops := List.mem_append_left _ (List.mem_filterMap.2 ⟨.tmp t, by simpa using hx, rfl⟩)
    show a.tmps.getD t undef = (mAct c (o.looksAt c.ops) a).tmps.getD t undef
    rw [mAct_get hc h.size, if_pos ht]
  | _ => rfl
theorem wanted_at (hc : c.Ok P ρ) (h : DInv P ρ c D q F a w) (hr : Rdy c D i o) : Region.wanted o (yielded c.ops a.tmps) = (c.tI i).ran := by
  obtain ⟨as, hst, _⟩ := hc.as
  obtain ⟨_, g, hg, hit⟩ := hc.it i o hr.op
  have hgr := hit.guard
  rcases trGuard_some hg with ⟨hgn, rfl⟩ | ⟨j, want, t, i', hgs, ht, hi', rfl⟩
  · have : (c.tI i).ran = true := hgr
    rw [this]
    simp [Region.wanted, hgn]
  · obtain ⟨v, hv, hcase⟩ : ∃ v, nthL i' (lsAt [] c.ts i) = some v ∧ ((v.asTup.isSome = true ∧ (c.tI i).ran = false) ∨ ∃ b, cv ρ E0 v = some (.bool b) ∧ (c.tI i).ran = (b == want)) := hgr
    have hlk : t ∈ o.looksAt c.ops := by
      unfold Oper.looksAt
      rw [hgs]
      exact List.mem_append_right _ (by simp only [ht]; simp)
    have hcv := (look hc h hr hlk).1 i' v hi' hv
    obtain ⟨hlt, og, t', ho, hd⟩ := hst.guard i o j want hr.op hgs
    have htt : t' = t := by rw [ho] at ht; simpa [hd] using ht
    subst htt
    have htn : t' < a.tmps.size := by
      rw [h.size]
      have := (hc.it j og ho).1
      rw [hd] at this
      simpa [dstOk] using this
    have hget : a.tmps[t']? = some (a.tmps.getD t' undef) := by
      rw [Array.getD_eq_getD_getElem?, Array.getElem?_eq_getElem htn]; rfl
    have hy : ((c.ops[j]?).bind (·.dst)).bind (a.tmps[·]?) = some (a.tmps.getD t' undef) := by rw [ht]; exact hget
    simp only [Region.wanted, hgs]
    unfold yielded
    rw [hy]
    rcases hcase with ⟨hb, hran⟩ | ⟨b, hb, hran⟩
    · obtain ⟨vs, hvs⟩ := Option.isSome_iff_exists.1 hb
      rw [asTup_eq hvs] at hcv
      simp only [cv, Option.map_eq_some_iff] at hcv
      obtain ⟨us, _, hu⟩ := hcv
      rw [← hu, hran]
      rfl
    · rw [cv_mono (E0_le _) hb] at hcv
      simp only [Option.some.injEq] at hcv
      rw [← hcv, hran]
      cases b <;> cases want <;> rfl
end DC
end Go.Ab
end

section
namespace Go.Ab
variable {P : Program} {ρ : Val}

theorem HRel.congr2 {E E' : Mem} {s : St} {w : World} (h : HRel ρ E s w) (h1 : Mem.Le E E') (h2 : Mem.Le E' E) : HRel ρ E' s w :=
  ⟨fun p b hp => (h.blks p b hp).congr h1 fun _ _ _ _ => rfl, fun p q b b' k o o' hp hq hl hl' he he' => h.inj p q b b' k o o' hp hq hl hl' (h2.blk _ _ he) (h2.blk _ _ he'), h.dom, fun p x hx => h.free p x (h2.blk _ _ hx), h.asm⟩
theorem Mem.Le.eq {E E' : Mem} (h1 : Mem.Le E E') (h2 : Mem.Le E' E) (p : Pos) : E'.blk p = E.blk p := by
  cases h : E.blk p with
  | some x => exact h1.blk p x h
  | none =>
    cases h' : E'.blk p with
    | none => rfl
    | some x => rw [h2.blk p x h'] at h; cases h
theorem Step.congr2 {E0 E E' : Mem} {s0 s : St} {w0 w : World} (h : Step E0 s0 w0 E s w) (h1 : Mem.Le E E') (h2 : Mem.Le E' E) : Step E0 s0 w0 E' s w :=
  ⟨h.le.trans h1, h.next, fun p hp => (h1.eq h2 p).trans (h.old p hp), h.size, h.frame, fun p b k o hp hl he => h.img p b k o hp hl (h2.blk _ _ he), h.os, h.out, h.tape, h.ro⟩
theorem HRel.grow {E : Mem} {s : St} {w : World} (h : HRel ρ E s w) (obj : Obj) : HRel ρ E s (w.alloc obj) :=
  ⟨fun p b hp => (h.blks p b hp).congr (.refl E) fun k o hl he => by
      obtain ⟨k', o', e1, e2⟩ := (h.blks p b hp).lt hl
      rw [he] at e1; cases e1
      exact heap_alloc_lt _ _ _ e2, h.inj, h.dom, h.free, h.asm⟩
theorem Step.grow {E0 E : Mem} {s0 s : St} {w0 w : World} (h : Step E0 s0 w0 E s w) (obj : Obj) : Step E0 s0 w0 E s (w.alloc obj) :=
  ⟨h.le, h.next, h.old, by have := h.size; show _ ≤ (w.heap.push obj).size; simp; omega, fun k hk hn => by rw [heap_alloc_lt _ _ _ (Nat.lt_of_lt_of_le hk h.size)]; exact h.frame k hk hn, h.img, h.os, h.out, h.tape, h.ro⟩
theorem addNews_get {m qn : Nat} {h : Trie Blk} {p : Pos} {b : Blk} : ∀ {ns : List New}, (addNews m qn ns h).get p = some b → h.get p = some b ∨ ∃ n ∈ ns, m.testBit n.j = true ∧ qn ≤ n.p.nat ∧ p = n.p ∧ b = n.b
  | [], hp => .inl hp
  | n :: ns, hp => by
    have hp : (bif m.testBit n.j && Nat.ble qn n.p.nat then (addNews m qn ns h).put n.p (some n.b) else addNews m qn ns h).get p = some b := hp
    have lift : (addNews m qn ns h).get p = some b → h.get p = some b ∨ ∃ n' ∈ n :: ns, m.testBit n'.j = true ∧ qn ≤ n'.p.nat ∧ p = n'.p ∧ b = n'.b := fun hp => by
      rcases addNews_get hp with h1 | ⟨n', h1, h2⟩
      · exact .inl h1
      · exact .inr ⟨n', List.mem_cons_of_mem _ h1, h2⟩
    cases hb : (m.testBit n.j && Nat.ble qn n.p.nat) with
    | false => rw [hb] at hp; exact lift hp
    | true =>
      rw [hb] at hp
      simp only [cond_true, Trie.get_put] at hp
      simp only [Bool.and_eq_true, Nat.ble_eq] at hb
      by_cases e : p = n.p
      · rw [if_pos e] at hp
        cases hp
        exact .inr ⟨n, List.mem_cons_self .., hb.1, hb.2, e, rfl⟩
      · rw [if_neg e] at hp
        exact lift hp
theorem put_get (a : Act) (dst : Option Nat) (u : Value) (t : Nat) : (a.put dst u).tmps.getD t undef = if dst = some t ∧ t < a.tmps.size then u else a.tmps.getD t undef := by
  cases dst with
  | none => simp [Act.put]
  | some d =>
    by_cases h : d = t
    · subst h
      by_cases hlt : d < a.tmps.size
      · simp [Act.put, hlt]
      · rw [if_neg (fun h => hlt h.2)]
        simp [Act.put, Array.getD_eq_getD_getElem?, Array.getElem?_setIfInBounds, hlt]
    · rw [if_neg (fun h' => h (by have := h'.1; simpa using this))]
      simp [Act.put, Array.getD_eq_getD_getElem?, Array.getElem?_setIfInBounds, h]
namespace DC
variable {c : DC} {D : Nat → Bool} {q : Nat} {F : Mem} {a : Act} {w : World} {i : Nat} {o : Oper}
def add (D : Nat → Bool) (i : Nat) : Nat → Bool := fun j => if j = i then true else D j
theorem add_same : add D i i = true := by simp [add]
theorem add_iff {j : Nat} : add D i j = true ↔ j = i ∨ D j = true := by
  unfold add
  by_cases h : j = i <;> simp [h]
theorem isChain (hc : c.Ok P ρ) {j : Nat} (h : c.clo P j = 2) {k : Nat} (hk : k < j) (hk0 : c.clo P k ≠ 0) : (c.bm j).testBit k = true := by
  obtain ⟨as, hst, has⟩ := hc.as
  have hj := clo_lt (P := P) hc (i := j) (by omega)
  obtain ⟨oj, hoj⟩ := get_op (P := P) hc hj
  obtain ⟨ok, hok⟩ := get_op (P := P) hc (Nat.lt_trans hk hj)
  obtain ⟨aj, h1, h2⟩ := has j oj hoj
  obtain ⟨ak, h3, h4⟩ := has k ok hok
  refine hst.chain j aj k ak h1 ?_ hk h3 ?_
  · rw [h2, ← clo_eq hc hoj]; exact h
  · rw [h4, ← clo_eq hc hok]; exact hk0
theorem rdy_lt (hr : Rdy c D i o) : i < c.ops.size := (Array.getElem?_eq_some_iff.1 hr.op).1
/-- an effect or new memory that is ready lies behind the last effect -/
theorem q_le (hc : c.Ok P ρ) (h : DInv P ρ c D q F a w) (hr : Rdy c D i o) (h0 : c.clo P i ≠ 0) : q ≤ i := by
  rcases h.qch with rfl | ⟨h1, h2⟩
  · omega
  · rcases Nat.lt_trichotomy i (q - 1) with h3 | h3 | h3
    · have := h.cl _ h2 i (isChain hc h1 h3 h0)
      rw [hr.new] at this; cases this
    · rw [← h3, hr.new] at h2; cases h2
    · omega
theorem chain_done (hc : c.Ok P ρ) (h : DInv P ρ c D q F a w) {j : Nat} (hj : c.clo P j = 2) (hq : j < q) : D j = true := by
  rcases h.qch with rfl | ⟨h1, h2⟩
  · omega
  · by_cases e : j = q - 1
    · rw [e]; exact h2
    · exact h.cl _ h2 j (isChain hc h1 (by omega) (by omega))
theorem X_mono {q q' j : Nat} (hc : c.Ok P ρ) (hqq : q ≤ q') (hq' : q' ≤ c.ops.size) {p : Pos} (h : c.X P q j p) : c.X P q' j p := by
  rcases h with h | h
  · left
    have := mono hc hqq hq'
    unfold DC.bel at *
    omega
  · exact .inr h
/-- what the frame holds behind an operation -/
theorem after_vals (hc : c.Ok P ρ) (h : DInv P ρ c D q F a w) (hr : Rdy c D i o) {u : Value} {F' : Mem} {q' : Nat} (hu : cv ρ (F'.sub (c.X P q' i)) (c.tI i).v = some u)
    (hm : ∀ j, D j = true → Mem.Le (F.sub (c.X P q j)) (F'.sub (c.X P q' j))) :
    (∀ j oj t, add D i j = true → c.ops[j]? = some oj → oj.dst = some t → cv ρ (F'.sub (c.X P q' j)) (c.tI j).v = some ((a.put o.dst u).tmps.getD t undef)) ∧
    (∀ t, (∀ j oj, add D i j = true → c.ops[j]? = some oj → oj.dst ≠ some t) → (a.put o.dst u).tmps.getD t undef = c.a0.tmps.getD t undef) := by
  obtain ⟨as, hst, _⟩ := hc.as
  constructor
  · intro j oj t hj hoj hd
    rw [put_get]
    by_cases e : j = i
    · subst e
      have : oj = o := by rw [hr.op] at hoj; exact (Option.some.inj hoj).symm
      subst this
      have htn : t < a.tmps.size := by
        rw [h.size]
        have := (hc.it j oj hoj).1
        rw [hd] at this
        simpa [dstOk] using this
      rw [if_pos ⟨hd, htn⟩]
      exact hu
    · have hDj : D j = true := (add_iff.1 hj).resolve_left e
      rw [if_neg (fun h' => e (hst.dist j i oj o t hoj hr.op hd h'.1))]
      exact cv_mono (hm j hDj) (h.vals j oj t hDj hoj hd)
  · intro t hno
    rw [put_get, if_neg (fun h' => hno i o add_same hr.op h'.1)]
    exact h.olds t fun j oj hj hoj => hno j oj (add_iff.2 (.inr hj)) hoj
theorem add_cl (h : DInv P ρ c D q F a w) (hr : Rdy c D i o) : ∀ j, add D i j = true → ∀ k, (c.bm j).testBit k = true → add D i k = true := by
  intro j hj k hk
  rcases add_iff.1 hj with rfl | hj
  · exact add_iff.2 (.inr (hr.all k hk))
  · exact add_iff.2 (.inr (h.cl j hj k hk))
theorem add_lt (h : DInv P ρ c D q F a w) (hr : Rdy c D i o) : ∀ j, add D i j = true → j < c.ops.size := by
  intro j hj
  rcases add_iff.1 hj with rfl | hj
  · exact rdy_lt hr
  · exact h.lt j hj
/-- nothing but a value -/
theorem tr_value (hc : c.Ok P ρ) (h : DInv P ρ c D q F a w) (hr : Rdy c D i o) (h2 : c.clo P i ≠ 2) (h1 : ¬ c.newRan P i) {u : Value} (hu : cv ρ (F.sub (c.X P q i)) (c.tI i).v = some u) :
    DInv P ρ c (add D i) q F (a.put o.dst u) w := by
  obtain ⟨v1, v2⟩ := after_vals hc h hr hu (fun j _ => .refl _)
  have old : ∀ j, add D i j = true → c.newRan P j → D j = true := fun j hj hn => (add_iff.1 hj).resolve_left fun e => by subst e; exact h1 hn
  refine ⟨add_cl h hr, add_lt h hr, h.qle, ?_, ?_, h.hr, h.st, ?_, ?_, ?_, v1, v2, by rw [Act.put_size]; exact h.size, by rw [Act.put_defers]; exact h.defs⟩
  · rcases h.qch with e | ⟨e1, e2⟩
    · exact .inl e
    · exact .inr ⟨e1, add_iff.2 (.inr e2)⟩
  · intro j hj hq
    have := h.above j hj hq
    have hne : j ≠ i := fun e => by subst e; exact h2 hj
    simp [add, hne, this]
  · intro p x hx
    rcases h.dom p x hx with h' | ⟨j, e1, e2⟩
    · exact .inl h'
    · exact .inr ⟨j, add_iff.2 (.inr e1), e2⟩
  · intro j hj hn hq
    exact h.pend j (old j hj hn) hn hq
  · intro j j' k hj hj' hn hn' hq hq' e e'
    exact h.pinj j j' k (old j hj hn) (old j' hj' hn') hn hn' hq hq' e e'
/-- the state in which a quiet operation may come up -/
theorem quiet_state (hc : c.Ok P ρ) (h : DInv P ρ c D q F a w) (hr : Rdy c D i o) :
    HRel ρ (F.sub (c.Y P q i)) ⟨addNews (c.bm i) (c.sg q).next.nat c.ns (c.sg q).heap, c.nx, c.asm⟩ w := by
  obtain ⟨as, hst, _⟩ := hc.as
  have hle : Mem.Le (F.sub (c.bel q)) (F.sub (c.Y P q i)) := Mem.sub_le fun p x _ hp => .inl hp
  have get : ∀ p b, (addNews (c.bm i) (c.sg q).next.nat c.ns (c.sg q).heap).get p = some b → (c.sg q).heap.get p = some b ∨ ∃ j, q ≤ j ∧ (c.bm i).testBit j = true ∧ c.newRan P j ∧ D j = true ∧ p = c.id j ∧ b = (c.tI j).b := by
    intro p b hp
    rcases addNews_get hp with h1 | ⟨n, hn, h1, h2, h3, h4⟩
    · exact .inl h1
    · obtain ⟨j, hnj, rfl⟩ := (hc.nsok n).1 hn
      simp only at h1 h2 h3 h4
      refine .inr ⟨j, ?_, h1, hnj, hr.all j h1, h3, h4⟩
      rcases Nat.lt_or_ge j q with hlt | hge
      · have := id_lt hc hnj hlt h.qle
        rw [Pos.nat_eq, Pos.nat_eq] at h2
        omega
      · exact hge
  have hXY : ∀ j, (c.bm i).testBit j = true → Mem.Le (F.sub (c.X P q j)) (F.sub (c.Y P q i)) := fun j hj => Mem.sub_le fun p x _ hp => by
    rcases hp with hp | ⟨j', hj', hn, rfl⟩
    · exact .inl hp
    · refine .inr ⟨j', ?_, hn, rfl⟩
      rcases hj' with rfl | hb
      · exact hj
      · exact hst.trans hr.op hj hb
  have hnx : ∀ j, c.newRan P j → (c.id j).toNat < c.nx.toNat := fun j hj => Nat.lt_of_lt_of_le (id_lt hc hj (Nat.lt_succ_self j) hj.2.2) (hc.nxok (j + 1) hj.2.2)
  have hbx : ∀ p, c.bel q p → p.toNat < c.nx.toNat := fun p hp => Nat.lt_of_lt_of_le hp (hc.nxok q h.qle)
  have place : ∀ p b k o, (addNews (c.bm i) (c.sg q).next.nat c.ns (c.sg q).heap).get p = some b → Live b → (F.sub (c.Y P q i)).blk p = some (k, o) →
      ((c.sg q).heap.get p = some b ∧ (F.sub (c.bel q)).blk p = some (k, o)) ∨ ∃ j, q ≤ j ∧ c.newRan P j ∧ D j = true ∧ p = c.id j ∧ b = (c.tI j).b ∧ o = 0 ∧ F.blk (c.id j) = some (k, 0) := by
    intro p b k o hp hl he
    rw [Mem.sub_blk] at he
    rcases get p b hp with h1 | ⟨j, h1, h2, h3, hD, rfl, rfl⟩
    · exact .inl ⟨h1, Mem.sub_blk.2 ⟨h.hr.dom p b h1, he.2⟩⟩
    · right
      obtain ⟨k', hk', _⟩ := h.pend j hD h3 h1
      rw [hk'] at he
      cases he.2
      exact ⟨j, h1, h3, hD, rfl, rfl, rfl, hk'⟩
  refine ⟨?_, ?_, ?_, ?_, hc.asmok⟩
  · intro p b hp
    rcases get p b hp with h1 | ⟨j, h1, h2, h3, hD, rfl, rfl⟩
    · exact (h.hr.blks p b h1).congr hle fun _ _ _ _ => rfl
    · obtain ⟨k, _, hb, _⟩ := h.pend j hD h3 h1
      exact hb.congr (hXY j h2) fun _ _ _ _ => rfl
  · intro p p' b b' k o o' hp hp' hl hl' he he'
    rcases place p b k o hp hl he with ⟨g1, g2⟩ | ⟨j, j1, j3, j4, rfl, rfl, rfl, j5⟩
    · rcases place p' b' k o' hp' hl' he' with ⟨g1', g2'⟩ | ⟨j, j1, j3, j4, rfl, rfl, rfl, j5⟩
      · exact h.hr.inj p p' b b' k o o' g1 g1' hl hl' g2 g2'
      · obtain ⟨k', e1, _, _, _, _, e2⟩ := h.pend j j4 j3 j1
        rw [j5] at e1; cases e1
        rw [Mem.sub_blk] at g2
        exact absurd g2.2 (e2 p b o g1 hl g2.1)
    · rcases place p' b' k o' hp' hl' he' with ⟨g1', g2'⟩ | ⟨j', j1', j3', j4', rfl, rfl, rfl, j5'⟩
      · obtain ⟨k', e1, _, _, _, _, e2⟩ := h.pend j j4 j3 j1
        rw [j5] at e1; cases e1
        rw [Mem.sub_blk] at g2'
        exact absurd g2'.2 (e2 p' b' o' g1' hl' g2'.1)
      · left; rw [h.pinj j j' k j4 j4' j3 j3' j1 j1' j5 j5']
  · intro p b hp
    rcases get p b hp with h1 | ⟨j, h1, h2, h3, hD, rfl, rfl⟩
    · exact hbx p (h.hr.dom p b h1)
    · exact hnx j h3
  · intro p x hx
    rcases (Mem.sub_blk.1 hx).1 with hp | ⟨j, _, hn, rfl⟩
    · exact hbx p hp
    · exact hnx j hn
/-- a quiet operation -/
theorem quiet_run (hc : c.Ok P ρ) (h : DInv P ρ c D q F a w) (hr : Rdy c D i o) (h0 : c.clo P i = 0) (hran : (c.tI i).ran = true) :
    ∃ u, (execOp a.eval o).run P w = .ok (.value u) w ∧ cv ρ (F.sub (c.X P q i)) (c.tI i).v = some u := by
  have hqs := quiet_state hc h hr
  have hchk := hc.chk i o q hr.op h0 hran h.qle (h.qch.imp (fun e => e) And.left)
    (fun j hj hb => by
      rcases Nat.lt_or_ge j q with hlt | hge
      · exact hlt
      · have := h.above j hj hge
        rw [hr.all j hb] at this; cases this)
    (fun j hj hcj => by
      cases hb : (c.bm j).testBit i with
      | false => rfl
      | true =>
        have := h.cl j (chain_done hc h hcj hj) i hb
        rw [hr.new] at this; cases this)
  have hres := res_at hc h hr (Em := F.sub (c.Y P q i)) (.refl _)
  have hT : ∃ v, evOp P (c.op P o i) callNo (lsAt [] c.ts i) c.fr ⟨addNews (c.bm i) (c.sg q).next.nat c.ns (c.sg q).heap, c.nx, c.asm⟩ okU = .ok v ∧ v = (c.tI i).v := by
    unfold isOkSame at hchk
    split at hchk
    · rename_i v hv; exact ⟨v, hv, same_eq _ _ hchk⟩
    · cases hchk
  obtain ⟨v, hT, rfl⟩ := hT
  have hrun : (evOp P (c.op P o i) callNo (lsAt [] c.ts i) c.fr ⟨addNews (c.bm i) (c.sg q).next.nat c.ns (c.sg q).heap, c.nx, c.asm⟩ okU).run ρ = some (c.tI i).v := by rw [hT]; rfl
  rw [← op_mask (P := P) hr] at hrun
  obtain ⟨v', u, s', hm, hv, hex, hk⟩ := quiet_ok hres hqs (by rw [op_mask hr, ← clo_eq hc hr.op]; exact h0) hrun
  have hv' : v' = (c.tI i).v := by
    have : some v' = some (c.tI i).v := hk
    exact Option.some.inj this
  refine ⟨u, ?_, ?_⟩
  · rw [exec_mask hc h hr]; exact hex
  · rw [← hv']
    exact cv_mono (Mem.sub_le fun p x _ hp => by
      rcases hp with hp | ⟨j, hj, hn, rfl⟩
      · exact .inl hp
      · exact .inr ⟨j, .inr hj, hn, rfl⟩) hv
end DC
end Go.Ab
end
