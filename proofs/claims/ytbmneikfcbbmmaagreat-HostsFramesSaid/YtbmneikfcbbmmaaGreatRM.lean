/- HostsFrames's contract: for every three bytes the call returns true, and the memory that was there stays as it was. -/
import Derived.Test.YtbmneikfcbbmmaaGreatRB
import Derived.Test.YtbmneikfcbbmmaaGreatRL
import Derived.Test.YtbmneikfcbbmmaaGreatFI
set_option linter.unusedVariables false
set_option linter.unusedSimpArgs false
set_option linter.unusedSectionVars false
open Go Go.Ab Go.Proofs
open Go.RowKit (Below)
namespace Go.Proofs.YtbmneikfcbbmmaaGreat.HR
open HF (masks)
theorem hm : Tryz.prog.follows .mixedOrders = true := by kernel_rfl
theorem some13 : (fnInfo Tryz.prog masks 13).isSome = true := by kernel_rfl
theorem some4 : (fnInfo Tryz.prog masks 4).isSome = true := by kernel_rfl
theorem ctx_ok : CtxOk Tryz.prog ctx := mkCtx1_ok (sumTrue_ok hm (by decide) some13 HF.lives26)
theorem hX : ExOk Tryz.prog X := exec_ok ctx_ok (drawSound hm) 1000000 Leaf
noncomputable def i4 : FnInfo := infoD Tryz.prog masks 4
theorem eq4 : fnInfo Tryz.prog masks 4 = some i4 := infoD_eq some4
theorem nt4 : i4.ntmps = 137 := by kernel_rfl
theorem mk4 : i4.mask = mask4 := by kernel_rfl
theorem fin4 : finish i4 tplR.fr (tplR.st none []) (fun v _ => .ok v) = .ok (.bool true) := by kernel_rfl
theorem bl13 : isBL 0 (dropC 13 sp4) = true := by kernel_rfl
theorem bl17 : isBL 2 (dropC 17 sp4) = true := by kernel_rfl
theorem sp4_eq : sp4 = pre ++ (.block 0 (.loop body1) :: (mid ++ (.block 2 (.loop body2) :: suf))) := by
  have h1 := split_loop (n := 13) (l := sp4) (id := 0) bl13
  have h2 := split_loop (n := 3) (l := dropC 14 sp4) (id := 2) (by rw [dropC_add]; exact bl17)
  rw [dropC_add, dropC_add] at h2
  unfold pre mid suf body1 body2
  rw [← h2]
  exact h1
/-! ### the numbers of the frames -/
def frm (i : Nat) : Int := ((i / 8 % 2048 : Nat) : Int)
def frames (m : Nat) : List Int := (List.range m).map frm
theorem frames_succ (m : Nat) : frames (m + 1) = frames m ++ [frm m] := by simp [frames, List.range_succ]
theorem frames_length (m : Nat) : (frames m).length = m := by simp [frames]
theorem frames_get {m i : Nat} (h : i < m) : (frames m).getD i 0 = frm i := by
  rw [List.getD_eq_getElem?_getD]
  simp [frames, h]
noncomputable def atEach (e : IE) (f : Nat → Int) (n : Nat) : Bool := Nat.rec (motive := fun _ => Bool) true (fun m ih => (if e.den (atV (.ofNat m)) = f m then true else false) && ih) n
theorem atEach_ok {e : IE} {f : Nat → Int} : ∀ {n : Nat}, atEach e f n = true → ∀ m, m < n → e.den (atV (.ofNat m)) = f m
  | 0, _, m, hm => absurd hm (Nat.not_lt_zero _)
  | n + 1, h, m, hm => by
    have h : ((if e.den (atV (.ofNat n)) = f n then true else false) && atEach e f n) = true := h
    rw [Bool.and_eq_true] at h
    by_cases e' : m = n
    · rw [e']; exact ite_true h.1
    · exact atEach_ok h.2 m (by omega)
theorem frame_at : atEach frameE frm 512 = true := by kernel_rfl
theorem want_at : atEach wantE frm 512 = true := by kernel_rfl
theorem den_at {e : IE} {x : Nat} {f : Nat → Int} {n m : Nat} {ρ : Val} (h : atEach e f n = true) (ho : e.only x = true) (hm : m < n) (hx : ρ.iv x = m) : e.den ρ = f m := by
  rw [IE.only_ok (ρ' := atV (.ofNat m)) (x := x) (by rw [hx]; rfl) ho]
  exact atEach_ok h m hm
/-! ### what holds at a template -/
structure Dat where
  n : Nat
  closed : Int
  n0 : n ≤ 511
  c0 : 0 ≤ closed
  c1 : closed ≤ 255
structure Inv (D : Dat) (ρ : Val) : Prop where
  n : ρ.iv 12 = D.n
  c : ρ.iv 13 = D.closed
def J1 (D : Dat) (U : Tpl) (ρ : Val) : Prop := Inv D ρ ∧ ((U = O0 ∧ ρ.iv 3 = 0) ∨ ∃ t : Nat, ρ.iv 3 = t ∧ 1 ≤ t ∧ t ≤ D.n ∧ ρ.qv 3 = frames t ∧ ((U = O1 ∧ (t : Int) ≤ D.closed) ∨ (U = C1 ∧ D.closed < t)))
/-- behind the first loop -/
def J2 (D : Dat) (U : Tpl) (ρ : Val) : Prop := Inv D ρ ∧ ((U = O0 ∧ D.n = 0) ∨ (ρ.iv 3 = D.n ∧ ρ.qv 3 = frames D.n ∧ (U = O1 ∨ U = C1)))
def J3 (D : Dat) (U : Tpl) (ρ : Val) : Prop := ρ.iv 12 = D.n ∧ ((U = L0 ∧ D.n = 0) ∨ (U = L1 ∧ ρ.qv 3 = frames D.n ∧ ∃ i : Nat, ρ.iv 14 = i ∧ i ≤ D.n))
def mu1 (ρ : Val) : Nat := 600 - (ρ.iv 3).toNat
def mu2 (ρ : Val) : Nat := 600 - (ρ.iv 14).toNat
theorem factsT : factsUpto 3 asmT 512 = true := by kernel_rfl
theorem isQ_eq {x : Nat} {e : IE} {hs : List Hole} (h : isQ x e hs = true) : lookQ x hs = some e := ite_true h
theorem closed_den {D : Dat} {ρ : Val} (h : Inv D ρ) : closedE.den ρ = D.closed := by
  show IntKind.wrap .i64 (ρ.iv 13) = _
  rw [h.c, ← wrapF_eq]
  have := D.c0; have := D.c1
  exact wrap_small (by omega)
theorem runA_eq (h : runA.all chkA = true) : (runL X Tryz.prog 137 mask4 pre tplArgs.fr (tplArgs.st none []) (leafKR [O0] none)).all chkA = true := by unfold runA at h; exact h
theorem run1_eq {T : Tpl} {asm : List (BE × Bool)} {Ts : List Tpl} {p : Leaf → Bool} (h : (run1 T asm Ts).all p = true) : (runL X Tryz.prog 137 mask4 [body1] T.fr (T.st none asm) (leafKR Ts none)).all p = true := by unfold run1 at h; exact h
theorem runM_eq {T T' : Tpl} {asm : List (BE × Bool)} {p : Leaf → Bool} (h : (runM T asm T').all p = true) : (runL X Tryz.prog 137 mask4 mid T.fr (T.st none asm) (leafKR [T'] none)).all p = true := by unfold runM at h; exact h
theorem run2_eq {T T' : Tpl} {asm : List (BE × Bool)} {p : Leaf → Bool} (h : (run2 T asm T').all p = true) : (runL X Tryz.prog 137 mask4 [body2] T.fr (T.st none asm) (leafKR [T'] none)).all p = true := by unfold run2 at h; exact h
theorem runS_eq {T : Tpl} {p : Leaf → Bool} (h : (runS T).all p = true) : (runL X Tryz.prog 137 mask4 suf T.fr (T.st none []) (leafKR [tplR] none)).all p = true := by unfold runS at h; exact h
theorem free (T : Tpl) : winFree none T = true := rfl
abbrev Step1 (D : Dat) (w0 : World) (R : Exit → Act → World → Prop) (U : Tpl) (ρ : Val) : Prop :=
    ∃ Ts p, RunOk Tryz.prog X 137 mask4 w0 [body1] U ρ Ts p ∧ ∀ leaf T', p leaf = true → leaf.hs.all (holeOk leaf.hs) = true → Ts[leaf.j]? = some T' →
      (leaf.how = .norm ∧ ∃ ρ', (∀ y ∈ leaf.hs, HoleIs ρ ρ' y) ∧ SameV ρ ρ' ∧ J1 D T' ρ' ∧ mu1 ρ' < mu1 ρ) ∨ (leaf.how = .exit 0 ∧ ∃ ρ', (∀ y ∈ leaf.hs, HoleIs ρ ρ' y) ∧ SameV ρ ρ' ∧ J2 D T' ρ') ∨
      (leaf.how = .ret ∧ ∀ a' w', Behind 137 mask4 w0 T' ρ leaf a' w' → R .ret a' w')
theorem sameV_subst (ρ : Val) (hs : List Hole) : SameV ρ (subst ρ hs) := ⟨rfl, rfl⟩
/-- the leaving of the first loop -/
theorem leave1 {D : Dat} {w0 : World} {R : Exit → Act → World → Prop} {U : Tpl} {ρ : Val} {asm : List (BE × Bool)} (ha : AsmOk ρ asm) (hr : (run1 U asm [U]).all chkX = true) (hJ : J2 D U ρ) : Step1 D w0 R U ρ := by
  refine ⟨_, _, .plain ha (free U) (run1_eq hr), fun leaf T' hp hok hT' => ?_⟩
  simp only [chkX, Bool.and_eq_true] at hp
  obtain ⟨⟨p1, p2⟩, p3⟩ := hp
  have := one_tpl p2 hT'
  subst this
  exact .inr (.inl ⟨isExitN_eq p1, ρ, idHoles_ok p3, ⟨rfl, rfl⟩, hJ⟩)
/-- the first tick -/
theorem first1 {D : Dat} {w0 : World} {R : Exit → Act → World → Prop} {U : Tpl} {ρ : Val} {asm : List (BE × Bool)} (ha : AsmOk ρ asm) (hr : (run1 O0 asm [U]).all chk0 = true) (hI : Inv D ρ) (h3 : ρ.iv 3 = 0) (hn : 1 ≤ D.n)
    (hU : (U = O1 ∧ 1 ≤ D.closed) ∨ (U = C1 ∧ D.closed < 1)) : Step1 D w0 R O0 ρ := by
  refine ⟨_, _, .plain ha (free _) (run1_eq hr), fun leaf T' hp hok hT' => ?_⟩
  simp only [chk0, Bool.and_eq_true] at hp
  obtain ⟨⟨⟨⟨⟨p1, p2⟩, p3⟩, p4⟩, p5⟩, p6⟩ := hp
  have := one_tpl p2 hT'
  subst this
  have v13 : (subst ρ leaf.hs).iv 13 = D.closed := by rw [subst_iv (isI_eq p3)]; exact hI.c
  have v12 : (subst ρ leaf.hs).iv 12 = D.n := by rw [subst_iv (isI_eq p4)]; exact hI.n
  have v3 : (subst ρ leaf.hs).iv 3 = 1 := by rw [subst_iv (isI_eq p5)]; rfl
  have q3 : (subst ρ leaf.hs).qv 3 = frames 1 := by rw [subst_qv (isQ_eq p6)]; rfl
  refine .inl ⟨isNorm_eq p1, subst ρ leaf.hs, holes_ok hok, sameV_subst _ _, ⟨⟨v12, v13⟩, .inr ⟨1, v3, Nat.le_refl _, hn, q3, hU⟩⟩, ?_⟩
  unfold mu1; rw [v3, h3]; decide
/-- a later tick -/
theorem later1 {D : Dat} {w0 : World} {R : Exit → Act → World → Prop} {T U : Tpl} {ρ : Val} {asm : List (BE × Bool)} (ha : AsmOk ρ asm) (hr : (run1 T asm [U]).all chk1 = true) (hI : Inv D ρ) {t : Nat} (h3 : ρ.iv 3 = t) (hn : t < D.n) (hq : ρ.qv 3 = frames t)
    (hU : (U = O1 ∧ ((t + 1 : Nat) : Int) ≤ D.closed) ∨ (U = C1 ∧ D.closed < ((t + 1 : Nat) : Int))) : Step1 D w0 R T ρ := by
  have hn511 := D.n0
  refine ⟨_, _, .plain ha (free _) (run1_eq hr), fun leaf T' hp hok hT' => ?_⟩
  simp only [chk1, Bool.and_eq_true] at hp
  obtain ⟨⟨⟨⟨⟨p1, p2⟩, p3⟩, p4⟩, p5⟩, p6⟩ := hp
  have := one_tpl p2 hT'
  subst this
  have e3 : (IE.v 3).den ρ = ρ.iv 3 := rfl
  have v13 : (subst ρ leaf.hs).iv 13 = D.closed := by rw [subst_iv (isI_eq p3)]; exact hI.c
  have v12 : (subst ρ leaf.hs).iv 12 = D.n := by rw [subst_iv (isI_eq p4)]; exact hI.n
  have v3 : (subst ρ leaf.hs).iv 3 = ((t + 1 : Nat) : Int) := by
    rw [subst_iv (isI_eq p5)]
    unfold nextE
    rw [den_addC (by rw [e3, h3]; omega), e3, h3]; rfl
  have q3 : (subst ρ leaf.hs).qv 3 = frames (t + 1) := by
    rw [subst_qv (isQ_eq p6), frames_succ]
    show ρ.qv 3 ++ [frameE.den ρ] = _
    rw [hq, den_at (x := 3) frame_at (by decide) (show t < 512 by omega) h3]
  refine .inl ⟨isNorm_eq p1, subst ρ leaf.hs, holes_ok hok, sameV_subst _ _, ⟨⟨v12, v13⟩, .inr ⟨t + 1, v3, by omega, by omega, q3, hU⟩⟩, ?_⟩
  unfold mu1; rw [v3, h3]; omega
theorem exit0_ok {D : Dat} {ρ : Val} (h : Inv D ρ) (hn : D.n = 0) : AsmOk ρ exit0 := by
  refine .cons (den_leq (decide_eq_true ?_)) .nil
  show ρ.iv 12 ≤ 0
  rw [h.n, hn]; decide
theorem asm0_ok {D : Dat} {ρ : Val} (h : Inv D ρ) (hn : 1 ≤ D.n) {cl : Bool} (hc : cl = decide (D.closed = 0)) : AsmOk ρ (asm0 true cl) := by
  have := D.c0
  refine .cons (den_leq ?_) (.cons (den_eql ?_) (.cons (den_leq ?_) .nil))
  · show decide (ρ.iv 12 ≤ 0) = false
    rw [h.n]; exact decide_eq_false (by omega)
  · rw [closed_den h, hc]
    show decide (0 = D.closed) = _
    congr 1; exact propext ⟨fun e => e.symm, fun e => e.symm⟩
  · rw [closed_den h, hc]
    show decide (D.closed ≤ 0) = _
    congr 1; exact propext ⟨fun e => by omega, fun e => by omega⟩
theorem asm1_ok {D : Dat} {ρ : Val} (h : Inv D ρ) {t : Nat} (h3 : ρ.iv 3 = t) (hn : t < D.n) (hq : ρ.qv 3 = frames t) {eq le : Bool} (he : eq = decide ((t : Int) = D.closed)) (hle : le = decide (D.closed ≤ t)) : AsmOk ρ (asm1 true eq le) := by
  have hn511 := D.n0
  refine .cons (den_leq ?_) (.cons (den_eql ?_) (.cons (den_leq ?_) (.cons (den_leq ?_) (.cons (den_leq ?_) (.cons (den_leq ?_) (factsUpto_ok factsT (by rw [h3]; omega) (by rw [h3]; omega)))))))
  · show decide (ρ.iv 12 ≤ ρ.iv 3) = false
    rw [h.n, h3]; exact decide_eq_false (by omega)
  · rw [closed_den h, he]
    show decide (ρ.iv 3 = D.closed) = _
    rw [h3]
  · rw [closed_den h, hle]
    show decide (D.closed ≤ ρ.iv 3) = _
    rw [h3]
  · show decide (((ρ.qv 3).length : Int) ≤ 1000) = true
    rw [hq, frames_length]; exact decide_eq_true (by omega)
  · show decide ((0 : Int) ≤ ρ.iv 3) = true
    rw [h3]; exact decide_eq_true (by omega)
  · show decide (ρ.iv 3 ≤ 1000) = true
    rw [h3]; exact decide_eq_true (by omega)
theorem round1 (D : Dat) (w0 : World) (R : Exit → Act → World → Prop) (U : Tpl) (ρ : Val) (hJ : J1 D U ρ) : Step1 D w0 R U ρ := by
  have h1 := all1_true
  have h2 := all2_true
  simp only [all1, Bool.and_eq_true] at h1
  simp only [all2, Bool.and_eq_true] at h2
  obtain ⟨⟨⟨_, r1⟩, r2⟩, r3⟩ := h1
  obtain ⟨⟨⟨⟨s1, s2⟩, s3⟩, s4⟩, s5⟩ := h2
  obtain ⟨hI, hU⟩ := hJ
  have hc0 := D.c0
  rcases hU with ⟨rfl, h3⟩ | ⟨t, h3, ht1, htn, hq, hU⟩
  · by_cases hn : D.n = 0
    · exact leave1 (exit0_ok hI hn) r1 ⟨hI, .inl ⟨rfl, hn⟩⟩
    · by_cases hc : D.closed = 0
      · exact first1 (asm0_ok hI (by omega) (by simp [hc])) r3 hI h3 (by omega) (.inr ⟨rfl, by omega⟩)
      · exact first1 (asm0_ok hI (by omega) (by simp [hc])) r2 hI h3 (by omega) (.inl ⟨rfl, by omega⟩)
  · have hx : AsmOk ρ exit1 → (t = D.n) → ∀ V, (run1 V exit1 [V]).all chkX = true → (V = O1 ∨ V = C1) → Step1 D w0 R V ρ := fun ha he V hr hV =>
      leave1 ha hr ⟨hI, .inr ⟨by rw [h3, he], by rw [hq, he], hV⟩⟩
    have hex : t = D.n → AsmOk ρ exit1 := fun he => by
      refine .cons (den_leq (decide_eq_true ?_)) .nil
      show ρ.iv 12 ≤ ρ.iv 3
      rw [hI.n, h3, he]; exact Int.le_refl _
    rcases hU with ⟨rfl, hcl⟩ | ⟨rfl, hcl⟩
    · by_cases he : t = D.n
      · exact hx (hex he) he _ s1 (.inl rfl)
      · by_cases hc : (t : Int) = D.closed
        · exact later1 (asm1_ok hI h3 (by omega) hq (by simp [hc]) (by simp [hc])) s4 hI h3 (by omega) hq (.inr ⟨rfl, by omega⟩)
        · exact later1 (asm1_ok hI h3 (by omega) hq (by simp [hc]) (by simp; omega)) s3 hI h3 (by omega) hq (.inl ⟨rfl, by omega⟩)
    · by_cases he : t = D.n
      · exact hx (hex he) he _ s2 (.inr rfl)
      · exact later1 (asm1_ok hI h3 (by omega) hq (by simp; omega) (by simp; omega)) s5 hI h3 (by omega) hq (.inr ⟨rfl, by omega⟩)
theorem midStep (D : Dat) (w0 : World) (R : Exit → Act → World → Prop) (U : Tpl) (ρ : Val) (hJ : J2 D U ρ) : ∃ Ts p, RunOk Tryz.prog X 137 mask4 w0 mid U ρ Ts p ∧ ∀ leaf T', p leaf = true → leaf.hs.all (holeOk leaf.hs) = true → Ts[leaf.j]? = some T' →
      (leaf.how = .norm ∧ ∃ ρ', (∀ y ∈ leaf.hs, HoleIs ρ ρ' y) ∧ SameV ρ ρ' ∧ J3 D T' ρ') ∨ (leaf.how ≠ .norm ∧ ∀ a' w', Behind 137 mask4 w0 T' ρ leaf a' w' → R (exA leaf.how) a' w') := by
  have h3 := all3_true
  simp only [all3, Bool.and_eq_true] at h3
  obtain ⟨⟨⟨⟨⟨⟨⟨m0, m1⟩, m2⟩, _⟩, _⟩, _⟩, _⟩, _⟩ := h3
  obtain ⟨hI, hU⟩ := hJ
  rcases hU with ⟨rfl, hn⟩ | ⟨h3, hq, hU⟩
  · have ha : AsmOk ρ mid0 := by
      refine .cons (den_eql (decide_eq_true ?_)) .nil
      show 0 = ρ.iv 12
      rw [hI.n, hn]; rfl
    refine ⟨_, _, .plain ha (free _) (runM_eq m0), fun leaf T' hp hok hT' => ?_⟩
    simp only [chkM0, Bool.and_eq_true] at hp
    obtain ⟨⟨p1, p2⟩, p3⟩ := hp
    have := one_tpl p2 hT'
    subst this
    exact .inl ⟨isNorm_eq p1, ρ, idHoles_ok p3, ⟨rfl, rfl⟩, hI.n, .inl ⟨rfl, hn⟩⟩
  · have ha : AsmOk ρ mid1 := by
      refine .cons (den_eql (decide_eq_true ?_)) (.cons (den_eql (decide_eq_true ?_)) .nil)
      · show ((ρ.qv 3).length : Int) = ρ.iv 12
        rw [hq, frames_length, hI.n]
      · show ρ.iv 3 = ρ.iv 12
        rw [h3, hI.n]
    have go : ∀ V, (runM V mid1 L1).all chkM = true → ∃ Ts p, RunOk Tryz.prog X 137 mask4 w0 mid V ρ Ts p ∧ ∀ leaf T', p leaf = true → leaf.hs.all (holeOk leaf.hs) = true → Ts[leaf.j]? = some T' →
        (leaf.how = .norm ∧ ∃ ρ', (∀ y ∈ leaf.hs, HoleIs ρ ρ' y) ∧ SameV ρ ρ' ∧ J3 D T' ρ') ∨ (leaf.how ≠ .norm ∧ ∀ a' w', Behind 137 mask4 w0 T' ρ leaf a' w' → R (exA leaf.how) a' w') := by
      intro V hr
      refine ⟨_, _, .plain ha (free _) (runM_eq hr), fun leaf T' hp hok hT' => ?_⟩
      simp only [chkM, Bool.and_eq_true] at hp
      obtain ⟨⟨⟨⟨p1, p2⟩, p3⟩, p4⟩, p5⟩ := hp
      have := one_tpl p2 hT'
      subst this
      have v12 : (subst ρ leaf.hs).iv 12 = D.n := by rw [subst_iv (isI_eq p3)]; exact hI.n
      have v14 : (subst ρ leaf.hs).iv 14 = ((0 : Nat) : Int) := by rw [subst_iv (isI_eq p4)]; rfl
      have q3 : (subst ρ leaf.hs).qv 3 = frames D.n := by rw [subst_qv (isQ_eq p5)]; exact hq
      exact .inl ⟨isNorm_eq p1, subst ρ leaf.hs, holes_ok hok, sameV_subst _ _, v12, .inr ⟨rfl, q3, 0, v14, Nat.zero_le _⟩⟩
    rcases hU with rfl | rfl
    · exact go _ m1
    · exact go _ m2
theorem round2 (D : Dat) (w0 : World) (R : Exit → Act → World → Prop) (U : Tpl) (ρ : Val) (hJ : J3 D U ρ) : ∃ Ts p, RunOk Tryz.prog X 137 mask4 w0 [body2] U ρ Ts p ∧ ∀ leaf T', p leaf = true → leaf.hs.all (holeOk leaf.hs) = true → Ts[leaf.j]? = some T' →
      (leaf.how = .norm ∧ ∃ ρ', (∀ y ∈ leaf.hs, HoleIs ρ ρ' y) ∧ SameV ρ ρ' ∧ J3 D T' ρ' ∧ mu2 ρ' < mu2 ρ) ∨ (leaf.how = .exit 2 ∧ ∃ ρ', (∀ y ∈ leaf.hs, HoleIs ρ ρ' y) ∧ SameV ρ ρ' ∧ J3 D T' ρ') ∨
      (leaf.how = .ret ∧ ∀ a' w', Behind 137 mask4 w0 T' ρ leaf a' w' → R .ret a' w') := by
  have h3 := all3_true
  simp only [all3, Bool.and_eq_true] at h3
  obtain ⟨⟨⟨⟨⟨_, x0⟩, x1⟩, m1⟩, _⟩, _⟩ := h3
  have hn511 := D.n0
  have out : ∀ (V : Tpl) (asm : List (BE × Bool)), AsmOk ρ asm → (run2 V asm V).all chkY = true → J3 D V ρ → ∃ Ts p, RunOk Tryz.prog X 137 mask4 w0 [body2] V ρ Ts p ∧ ∀ leaf T', p leaf = true → leaf.hs.all (holeOk leaf.hs) = true → Ts[leaf.j]? = some T' →
      (leaf.how = .norm ∧ ∃ ρ', (∀ y ∈ leaf.hs, HoleIs ρ ρ' y) ∧ SameV ρ ρ' ∧ J3 D T' ρ' ∧ mu2 ρ' < mu2 ρ) ∨ (leaf.how = .exit 2 ∧ ∃ ρ', (∀ y ∈ leaf.hs, HoleIs ρ ρ' y) ∧ SameV ρ ρ' ∧ J3 D T' ρ') ∨
      (leaf.how = .ret ∧ ∀ a' w', Behind 137 mask4 w0 T' ρ leaf a' w' → R .ret a' w') := by
    intro V asm ha hr hV
    refine ⟨_, _, .plain ha (free _) (run2_eq hr), fun leaf T' hp hok hT' => ?_⟩
    simp only [chkY, Bool.and_eq_true] at hp
    obtain ⟨⟨p1, p2⟩, p3⟩ := hp
    have := one_tpl p2 hT'
    subst this
    exact .inr (.inl ⟨isExitN_eq p1, ρ, idHoles_ok p3, ⟨rfl, rfl⟩, hV⟩)
  obtain ⟨h12, hU⟩ := id hJ
  rcases hU with ⟨rfl, hn⟩ | ⟨rfl, hq, i, h14, hi⟩
  · refine out _ _ (.cons (den_leq (decide_eq_true ?_)) .nil) x0 hJ
    show ρ.iv 12 ≤ 0
    rw [h12, hn]; decide
  · by_cases he : i = D.n
    · refine out _ _ (.cons (den_leq (decide_eq_true ?_)) .nil) x1 hJ
      show ρ.iv 12 ≤ ρ.iv 14
      rw [h12, h14, he]; exact Int.le_refl _
    · have hlt : i < D.n := by omega
      have ha : AsmOk ρ more2 := by
        refine .cons (den_leq (decide_eq_false ?_)) (.cons (den_leq (decide_eq_true ?_)) (.cons (den_leq (decide_eq_false ?_)) (.cons (den_eql (decide_eq_true ?_)) .nil)))
        · show ¬ ρ.iv 12 ≤ ρ.iv 14
          rw [h12, h14]; omega
        · show 0 ≤ ρ.iv 14
          rw [h14]; omega
        · show ¬ ((ρ.qv 3).length : Int) ≤ ρ.iv 14
          rw [hq, frames_length, h14]; omega
        · rw [den_at (x := 14) want_at (by decide) (show i < 512 by omega) h14]
          show IntKind.wrap .i64 ((ρ.qv 3).getD (ρ.iv 14).toNat 0) = _
          rw [hq, h14, show ((i : Nat) : Int).toNat = i from rfl, frames_get hlt, ← wrapF_eq]
          refine wrap_small ?_
          unfold frm; omega
      refine ⟨_, _, .plain ha (free _) (run2_eq m1), fun leaf T' hp hok hT' => ?_⟩
      simp only [chk2, Bool.and_eq_true] at hp
      obtain ⟨⟨⟨⟨p1, p2⟩, p3⟩, p4⟩, p5⟩ := hp
      have := one_tpl p2 hT'
      subst this
      have e14 : (IE.v 14).den ρ = ρ.iv 14 := rfl
      have v12 : (subst ρ leaf.hs).iv 12 = D.n := by rw [subst_iv (isI_eq p3)]; exact h12
      have v14 : (subst ρ leaf.hs).iv 14 = ((i + 1 : Nat) : Int) := by rw [subst_iv (isI_eq p4), den_addC (by rw [e14, h14]; omega), e14, h14]; rfl
      have q3 : (subst ρ leaf.hs).qv 3 = frames D.n := by rw [subst_qv (isQ_eq p5)]; exact hq
      refine .inl ⟨isNorm_eq p1, subst ρ leaf.hs, holes_ok hok, sameV_subst _ _, ⟨v12, .inr ⟨rfl, q3, i + 1, v14, by omega⟩⟩, ?_⟩
      unfold mu2; rw [v14, h14]; omega
theorem fitA : tplArgs.fits ⟨initT mask4 [.sint .u8 (.v 10), .sint .u8 (.v 11), .sint .u8 (.v 13)] 0 .lf, []⟩ ⟨.lf, posOf 600, []⟩ = some [.i 10 (.v 10), .i 11 (.v 11), .i 13 (.v 13)] := by kernel_rfl
def ρ0 (ticks before closed : Int) : Val := ⟨fun v => if v = 10 then ticks else if v = 11 then before else if v = 13 then closed else 0, fun _ => false, fun _ => (none, 0), fun _ => .cells #[] 0 (0, 0), fun _ => []⟩
def JA (ticks before closed : Int) (U : Tpl) (ρ : Val) : Prop := U = tplArgs ∧ ρ = ρ0 ticks before closed
theorem main {ticks before closed : Int} (t0 : 0 ≤ ticks) (t1 : ticks ≤ 255) (b0 : 0 ≤ before) (b1 : before ≤ 255) (c0 : 0 ≤ closed) (c1 : closed ≤ 255) (w : World) :
    Calls Tryz.prog 4 #[.int .u8 ticks, .int .u8 before, .int .u8 closed] w fun e w' => e = .returned (.bool true) ∧ Below w.heap.size w w' := by
  obtain ⟨fn, c, hi⟩ := fnInfo_ok eq4
  have hcode : spine c = pre ++ (.block 0 (.loop body1) :: (mid ++ (.block 2 (.loop body2) :: suf))) := by
    rw [codeD_eq some4 hi]
    exact sp4_eq
  obtain ⟨D, hDn, hDc⟩ : ∃ D : Dat, (D.n : Int) = 64 * (before % 5) + ticks ∧ D.closed = closed := ⟨⟨(64 * (before % 5) + ticks).toNat, closed, by omega, c0, c1⟩, by simp only; omega, rfl⟩
  have h1 := all1_true
  have h3 := all3_true
  simp only [all1, Bool.and_eq_true] at h1
  simp only [all3, Bool.and_eq_true] at h3
  refine calls_from (l := pre ++ (.block 0 (.loop body1) :: (mid ++ (.block 2 (.loop body2) :: suf)))) (us := [.int .u8 ticks, .int .u8 before, .int .u8 closed]) (args := [.sint .u8 (.v 10), .sint .u8 (.v 11), .sint .u8 (.v 13)]) (ρ := ρ0 ticks before closed) (J := JA ticks before closed) (mask := mask4) hi nt4 hcode (by simp [cvs, cv, IE.den, ρ0]) (by simp) fitA (by rfl) ⟨rfl, rfl⟩ ?_
  refine from_run (J' := J1 D) hX (by omega) ?_ (from_loop (J' := J2 D) (μ := mu1) hX (by omega) (fun U ρ hJ => round1 D w _ U ρ hJ) (from_run (J' := J3 D) hX (by omega) (fun U ρ hJ => midStep D w _ U ρ hJ) (from_loop (J' := J3 D) (μ := mu2) hX (by omega) (fun U ρ hJ => round2 D w _ U ρ hJ) (from_end hX (by omega) ?_))))
  · rintro U ρ ⟨rfl, rfl⟩
    refine ⟨_, _, .plain .nil (free _) (runA_eq h1.1.1.1), fun leaf T' hp hok hT' => ?_⟩
    simp only [chkA, Bool.and_eq_true] at hp
    obtain ⟨⟨⟨⟨p1, p2⟩, p3⟩, p4⟩, p5⟩ := hp
    have := one_tpl p2 hT'
    subst this
    have v13 : (subst (ρ0 ticks before closed) leaf.hs).iv 13 = D.closed := by rw [subst_iv (isI_eq p3), hDc]; rfl
    have v12 : (subst (ρ0 ticks before closed) leaf.hs).iv 12 = D.n := by
      rw [subst_iv (isI_eq p4), hDn]
      have e1 : (IE.cv .i64 (.bin .rem .u8 (.v 11) (.c 5))).den (ρ0 ticks before closed) = before % 5 := by
        show IntKind.wrap .i64 (before.tmod 5) = _
        rw [Int.tmod_eq_emod_of_nonneg b0, ← wrapF_eq]
        exact wrap_small (by omega)
      have e2 : (IE.cv .i64 (.v 10)).den (ρ0 ticks before closed) = ticks := by
        show IntKind.wrap .i64 ticks = _
        rw [← wrapF_eq]
        exact wrap_small (by omega)
      show wrapF .i64 (wrapF .i64 (64 * (IE.cv .i64 (.bin .rem .u8 (.v 11) (.c 5))).den (ρ0 ticks before closed)) + (IE.cv .i64 (.v 10)).den (ρ0 ticks before closed)) = _
      have e3 : wrapF .i64 (64 * (before % 5)) = 64 * (before % 5) := wrap_small (by omega)
      rw [e1, e2, e3]
      exact wrap_small (by omega)
    have v3 : (subst (ρ0 ticks before closed) leaf.hs).iv 3 = 0 := by rw [subst_iv_none (noI_eq p5)]; rfl
    exact .inl ⟨isNorm_eq p1, subst (ρ0 ticks before closed) leaf.hs, holes_ok hok, sameV_subst _ _, ⟨⟨v12, v13⟩, .inl ⟨rfl, v3⟩⟩⟩
  · intro U ρ hJ
    have go : ∀ V, (runS V).all chkR = true → ∃ Ts p, RunOk Tryz.prog X 137 mask4 w suf V ρ Ts p ∧ ∀ leaf T', p leaf = true → leaf.hs.all (holeOk leaf.hs) = true → Ts[leaf.j]? = some T' → ∀ a' w', Behind 137 mask4 w T' ρ leaf a' w' → Fin Tryz.prog fn (fun e w' => e = .returned (.bool true) ∧ Below w.heap.size w w') (exA leaf.how) a' w' := by
      intro V hr
      refine ⟨_, _, .plain .nil (free _) (runS_eq hr), fun leaf T' hp hok hT' a' w' hb => ?_⟩
      simp only [chkR, Bool.and_eq_true] at hp
      obtain ⟨⟨p1, p2⟩, p3⟩ := hp
      have := one_tpl p2 hT'
      subst this
      have hhs : leaf.hs = [] := by simpa using p3
      exact fin_of (u := .bool true) hi nt4 mk4 (hb ρ (fun y hy => by rw [hhs] at hy; cases hy) ⟨rfl, rfl⟩) fin4 (fun E => by simp [cv]) (.inr (by rw [isRet_eq p1]; rfl))
    rcases hJ.2 with ⟨rfl, _⟩ | ⟨rfl, _⟩
    · exact go _ h3.1.2
    · exact go _ h3.2
end Go.Proofs.YtbmneikfcbbmmaaGreat.HR
