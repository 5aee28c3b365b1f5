/- HostsFair's contract: for every two bytes the call returns true, and the memory that was there stays as it was. -/
import Derived.Test.YtbmneikfcbbmmaaGreatHA
import Derived.Test.YtbmneikfcbbmmaaGreatHB
import Derived.Test.YtbmneikfcbbmmaaGreatHC
import Derived.Test.YtbmneikfcbbmmaaGreatHD
import Derived.Test.YtbmneikfcbbmmaaGreatHE
import Derived.Test.YtbmneikfcbbmmaaGreatHF
import Derived.Test.YtbmneikfcbbmmaaGreatHG
import Derived.Test.YtbmneikfcbbmmaaGreatHH
import Derived.Test.YtbmneikfcbbmmaaGreatHI
import Derived.Test.YtbmneikfcbbmmaaGreatHJ
import Derived.Test.YtbmneikfcbbmmaaGreatHL
import Derived.Test.YtbmneikfcbbmmaaGreatEI
set_option linter.unusedVariables false
set_option linter.unusedSimpArgs false
set_option linter.unusedSectionVars false
open Go Go.Ab Go.Proofs
open Go.RowKit (Below)
namespace Go.Proofs.YtbmneikfcbbmmaaGreat.HF
theorem hm : Tryz.prog.follows .mixedOrders = true := by kernel_rfl
theorem some13 : (fnInfo Tryz.prog masks 13).isSome = true := by kernel_rfl
theorem some3 : (fnInfo Tryz.prog masks 3).isSome = true := by kernel_rfl
theorem ctx_ok : CtxOk Tryz.prog ctx := mkCtx1_ok (sumTrue_ok hm (by decide) some13 lives26)
theorem hX : ExOk Tryz.prog X := exec_ok ctx_ok (drawSound hm) 1000000 Leaf
noncomputable def i3 : FnInfo := infoD Tryz.prog masks 3
theorem eq3 : fnInfo Tryz.prog masks 3 = some i3 := infoD_eq some3
theorem nt3 : i3.ntmps = 90 := by kernel_rfl
theorem mk3 : i3.mask = mask3 := by kernel_rfl
theorem fin3 : finish i3 tplR.fr (tplR.st none []) (fun v _ => .ok v) = .ok (.bool true) := by kernel_rfl
theorem bl8 : isBL 0 (dropC 8 sp3) = true := by kernel_rfl
theorem sp3_eq : sp3 = preA ++ (preB ++ (.block 0 (.loop bodyL) :: suf3)) := by
  have h1 := split_at 5 sp3
  have h2 := split_loop (n := 3) (l := dropC 5 sp3) (id := 0) (by rw [dropC_add]; exact bl8)
  rw [dropC_add, dropC_add] at h2
  unfold preA preB suf3 bodyL
  rw [← h2]
  exact h1
/-! ### what holds at a template -/
structure Inv (ticks : Int) (ρ : Val) : Prop where
  t : ρ.iv 11 = ticks
  t0 : 0 ≤ ticks
  t1 : ticks ≤ 255
  n0 : 0 ≤ ρ.iv 3
  n1 : ρ.iv 3 ≤ 30
  a0 : 0 ≤ ρ.iv 1
  a1 : ρ.iv 1 ≤ 12 * ρ.iv 3
  l : ρ.iv 5 = 12 * ρ.iv 3
def J (n : Nat) (ticks : Int) (U : Tpl) (ρ : Val) : Prop := Inv ticks ρ ∧ ((U = T0 n ∧ ρ.iv 3 = 0) ∨ ∃ r, r ∈ turnsOf n ∧ U = T n r)
def mu (ρ : Val) : Nat := 31 - (ρ.iv 3).toNat
theorem ticks_den {ticks : Int} {ρ : Val} (h : Inv ticks ρ) : ticksE.den ρ = ticks % 31 := by
  have e : (IE.bin .rem .u8 (.v 11) (.c 31)).den ρ = ticks % 31 := by
    show (ρ.iv 11).tmod 31 = _
    rw [h.t]
    exact Int.tmod_eq_emod_of_nonneg h.t0
  show IntKind.wrap .i64 _ = _
  rw [e, ← wrapF_eq]
  have := h.t0
  exact wrap_small (by omega)
theorem factsT : factsUpto 3 asmT 31 = true := by kernel_rfl
theorem asmV_ok {ρ : Val} (h0 : 0 ≤ ρ.iv 1) (h1 : ρ.iv 1 ≤ 1000) : AsmOk ρ (asmV 14) := by
  have step : ∀ (m i : Nat), 1 ≤ i → i + m ≤ 20 → AsmOk ρ (tab (fun i => (BE.cmp .eql (.bin .add .i64 (.v 1) (.c (.ofNat i))) (.c 0), false)) m i []) := by
    intro m
    induction m with
    | zero => intro i _ _; exact .nil
    | succ m ih =>
      intro i hi hm
      refine .cons (den_eql ?_) (ih (i + 1) (by omega) (by omega))
      have e : (IE.v 1).den ρ = ρ.iv 1 := rfl
      have hof : Int.ofNat i = (i : Int) := rfl
      rw [den_addC (by rw [e, hof]; omega), e, hof]
      show decide (ρ.iv 1 + (i : Int) = 0) = false
      exact decide_eq_false (by omega)
  exact step 14 1 (by omega) (by omega)
theorem bnd_ok {ρ : Val} {x : Nat} {l : List (BE × Bool)} (h0 : 0 ≤ ρ.iv x) (h1 : ρ.iv x ≤ 1000000) (hl : AsmOk ρ l) : AsmOk ρ (bnd x l) := by
  refine .cons (den_leq (decide_eq_true ?_)) (.cons (den_leq (decide_eq_true ?_)) hl)
  · exact h0
  · exact h1
theorem asmB_ok {ticks : Int} {ρ : Val} (h : Inv ticks ρ) {more : Bool} (hmore : decide (ticks % 31 ≤ ρ.iv 3) = !more) : AsmOk ρ (asmB more) := by
  obtain ⟨_, _, _, n0, n1, a0, a1, l⟩ := id h
  refine .cons (den_leq ?_) (.append (.append (factsUpto_ok factsT n0 (by omega)) (asmV_ok a0 (by omega))) (bnd_ok a0 (by omega) (bnd_ok n0 (by omega) (bnd_ok (by omega) (by omega) .nil))))
  rw [ticks_den h]
  exact hmore
theorem asm0_ok {ticks : Int} {ρ : Val} (h : Inv ticks ρ) {more : Bool} (hmore : decide (ticks % 31 ≤ 0) = !more) : AsmOk ρ (asm0 more) := by
  refine .cons (den_leq ?_) .nil
  rw [ticks_den h]
  exact hmore
theorem toldB {ρ : Val} {hs : List Hole} (h : toldE true hs = true) (h0 : 0 ≤ ρ.iv 1) (h1 : ρ.iv 1 ≤ 1000) : ρ.iv 1 ≤ (subst ρ hs).iv 1 ∧ (subst ρ hs).iv 1 ≤ ρ.iv 1 + 12 := by
  unfold toldE at h
  split at h
  · simp at h
  · next hl =>
    rw [subst_iv hl]
    show ρ.iv 1 ≤ ρ.iv 1 ∧ ρ.iv 1 ≤ ρ.iv 1 + 12
    omega
  · next z hl =>
    simp only [Bool.true_and, Bool.and_eq_true] at h
    have g0 := (ile_iff _ _).1 h.1
    have g1 := (ile_iff _ _).1 h.2
    have e : (IE.v 1).den ρ = ρ.iv 1 := rfl
    rw [subst_iv hl, den_addC (by rw [e]; omega), e]
    omega
  · cases h
theorem told0 {ρ : Val} {hs : List Hole} (h : toldE false hs = true) : 0 ≤ (subst ρ hs).iv 1 ∧ (subst ρ hs).iv 1 ≤ 12 := by
  unfold toldE at h
  split at h
  · next z hl =>
    simp only [Bool.not_false, Bool.true_and, Bool.and_eq_true] at h
    rw [subst_iv hl]
    exact ⟨(ile_iff _ _).1 h.1, (ile_iff _ _).1 h.2⟩
  · cases h
  · simp at h
  · cases h
theorem run0_eq (n : Nat) (h : (run0 n true).all chk0 = true) : (runL X Tryz.prog 90 mask3 [bodyL] (T0 n).fr ((T0 n).st none (asm0 true)) (leafKR [T n (12 % n)] none)).all chk0 = true := by unfold run0 at h; exact h
theorem run0x_eq (n : Nat) (h : (run0x n).all chkE = true) : (runL X Tryz.prog 90 mask3 [bodyL] (T0 n).fr ((T0 n).st none (asm0 false)) (leafKR [T0 n] none)).all chkE = true := by unfold run0x at h; exact h
theorem runB_eq (n r : Nat) (h : (runB n r true).all chkB = true) : (runL X Tryz.prog 90 mask3 [bodyL] (T n r).fr ((T n r).st none (asmB true)) (leafKR [T n ((r + 12) % n)] none)).all chkB = true := by unfold runB at h; exact h
theorem runBx_eq (n r : Nat) (h : (runBx n r).all chkE = true) : (runL X Tryz.prog 90 mask3 [bodyL] (T n r).fr ((T n r).st none (asmB false)) (leafKR [T n r] none)).all chkE = true := by unfold runBx at h; exact h
theorem runS_eq (U : Tpl) (h : (runS U).all chkR = true) : (runL X Tryz.prog 90 mask3 suf3 U.fr (U.st none []) (leafK [tplR] none)).all chkR = true := by unfold runS at h; exact h
theorem runA_eq (n : Nat) (h : (runA n).all chkA = true) : (runL X Tryz.prog 90 mask3 preA tplArgs.fr (tplArgs.st none (asmA n)) (leafKR [TA n] none)).all chkA = true := by unfold runA at h; exact h
theorem runM_eq (n : Nat) (h : (runM n).all chkA = true) : (runL X Tryz.prog 90 mask3 preB (TA n).fr ((TA n).st none []) (leafKR [T0 n] none)).all chkA = true := by unfold runM at h; exact h
theorem round {n : Nat} {ticks : Int} (h0 : chkT0 n = true) (hT : ∀ r, r ∈ turnsOf n → chkT n r = true) (h12 : 12 % n ∈ turnsOf n) (hnext : ∀ r, r ∈ turnsOf n → (r + 12) % n ∈ turnsOf n) {w0 : World} {R : Exit → Act → World → Prop} (U : Tpl) (ρ : Val) (hJ : J n ticks U ρ) :
    ∃ Ts p, RunOk Tryz.prog X 90 mask3 w0 [bodyL] U ρ Ts p ∧ ∀ leaf T', p leaf = true → leaf.hs.all (holeOk leaf.hs) = true → Ts[leaf.j]? = some T' →
      (leaf.how = .norm ∧ ∃ ρ', (∀ y ∈ leaf.hs, HoleIs ρ ρ' y) ∧ ρ'.sv = ρ.sv ∧ J n ticks T' ρ' ∧ mu ρ' < mu ρ) ∨ (leaf.how = .exit 0 ∧ ∃ ρ', (∀ y ∈ leaf.hs, HoleIs ρ ρ' y) ∧ ρ'.sv = ρ.sv ∧ J n ticks T' ρ') ∨
      (leaf.how = .ret ∧ ∀ a' w', Behind 90 mask3 w0 T' ρ leaf a' w' → R .ret a' w') := by
  obtain ⟨hI, hU⟩ := hJ
  have hJ : J n ticks U ρ := ⟨hI, hU⟩
  have hmod : 0 ≤ ticks % 31 ∧ ticks % 31 < 31 := by omega
  rcases hU with ⟨rfl, h3⟩ | ⟨r, hr, rfl⟩
  · simp only [chkT0, Bool.and_eq_true] at h0
    obtain ⟨⟨⟨c1, c2⟩, c3⟩, c4⟩ := h0
    by_cases hlt : ticks % 31 ≤ 0
    · refine ⟨_, _, .plain (asm0_ok (more := false) hI (by simp [hlt])) c4 (run0x_eq n c2), fun leaf T' hp hok hT' => ?_⟩
      simp only [chkE, Bool.and_eq_true] at hp
      obtain ⟨⟨p1, p2⟩, p3⟩ := hp
      have := one_tpl p2 hT'
      subst this
      exact .inr (.inl ⟨isExitN_eq p1, ρ, idHoles_ok p3, rfl, hJ⟩)
    · refine ⟨_, _, .plain (asm0_ok (more := true) hI (by simp; omega)) c4 (run0_eq n c1), fun leaf T' hp hok hT' => ?_⟩
      simp only [chk0, Bool.and_eq_true] at hp
      obtain ⟨⟨⟨⟨⟨p1, p2⟩, p3⟩, p4⟩, p5⟩, p6⟩ := hp
      have := one_tpl p2 hT'
      subst this
      have v11 : (subst ρ leaf.hs).iv 11 = ticks := by rw [subst_iv (isI_eq p3)]; exact hI.t
      have v3 : (subst ρ leaf.hs).iv 3 = 1 := by rw [subst_iv (isI_eq p4)]; rfl
      have v5 : (subst ρ leaf.hs).iv 5 = 12 := by rw [subst_iv (isI_eq p5)]; rfl
      have v1 := told0 (ρ := ρ) p6
      refine .inl ⟨isNorm_eq p1, subst ρ leaf.hs, holes_ok hok, rfl, ⟨⟨v11, hI.t0, hI.t1, by omega, by omega, v1.1, by omega, by omega⟩, .inr ⟨_, h12, rfl⟩⟩, ?_⟩
      unfold mu; rw [v3, h3]; decide
  · have hc := hT r hr
    simp only [chkT, Bool.and_eq_true] at hc
    obtain ⟨⟨⟨c1, c2⟩, c3⟩, c4⟩ := hc
    by_cases hlt : ticks % 31 ≤ ρ.iv 3
    · refine ⟨_, _, .plain (asmB_ok (more := false) hI (by simp [hlt])) c4 (runBx_eq n r c2), fun leaf T' hp hok hT' => ?_⟩
      simp only [chkE, Bool.and_eq_true] at hp
      obtain ⟨⟨p1, p2⟩, p3⟩ := hp
      have := one_tpl p2 hT'
      subst this
      exact .inr (.inl ⟨isExitN_eq p1, ρ, idHoles_ok p3, rfl, hJ⟩)
    · refine ⟨_, _, .plain (asmB_ok (more := true) hI (by simp; omega)) c4 (runB_eq n r c1), fun leaf T' hp hok hT' => ?_⟩
      simp only [chkB, Bool.and_eq_true] at hp
      obtain ⟨⟨⟨⟨⟨p1, p2⟩, p3⟩, p4⟩, p5⟩, p6⟩ := hp
      have := one_tpl p2 hT'
      subst this
      obtain ⟨_, _, _, n0, n1, a0, a1, l⟩ := id hI
      have e3 : (IE.v 3).den ρ = ρ.iv 3 := rfl
      have e5 : (IE.v 5).den ρ = ρ.iv 5 := rfl
      have v11 : (subst ρ leaf.hs).iv 11 = ticks := by rw [subst_iv (isI_eq p3)]; exact hI.t
      have v3 : (subst ρ leaf.hs).iv 3 = ρ.iv 3 + 1 := by rw [subst_iv (isI_eq p4), den_addC (by rw [e3]; omega), e3]
      have v5 : (subst ρ leaf.hs).iv 5 = ρ.iv 5 + 12 := by rw [subst_iv (isI_eq p5), den_addC (by rw [e5]; omega), e5]
      have v1 := toldB (ρ := ρ) p6 a0 (by omega)
      refine .inl ⟨isNorm_eq p1, subst ρ leaf.hs, holes_ok hok, rfl, ⟨⟨v11, hI.t0, hI.t1, by omega, by omega, by omega, by omega, by omega⟩, .inr ⟨_, hnext r hr, rfl⟩⟩, ?_⟩
      unfold mu; rw [v3]; omega
theorem fitA : tplArgs.fits ⟨initT mask3 [.sint .u8 (.v 10), .sint .u8 (.v 11)] 0 .lf, []⟩ ⟨.lf, posOf 600, []⟩ = some [.i 10 (.v 10), .i 11 (.v 11)] := by kernel_rfl
theorem freeA : winFree none tplArgs = true := rfl
def ρ0 (many ticks : Int) : Val := ⟨fun v => if v = 10 then many else if v = 11 then ticks else 0, fun _ => false, fun _ => (none, 0), fun _ => .cells #[] 0 (0, 0)⟩
theorem start_all (n : Nat) (h1 : 1 ≤ n) (h2 : n ≤ 12) : chkStart n = true ∧ chkT0 n = true ∧ (∀ r, r ∈ turnsOf n → chkT n r = true) ∧ 12 % n ∈ turnsOf n ∧ (∀ r, r ∈ turnsOf n → (r + 12) % n ∈ turnsOf n) := by
  have all : ∀ (l : List Nat) (p : Nat → Prop), (l.foldr (fun r q => p r ∧ q) True) → ∀ r, r ∈ l → p r := by
    intro l p
    induction l with
    | nil => intro _ r hr; cases hr
    | cons a l ih =>
      intro h r hr
      rcases List.mem_cons.1 hr with rfl | hr
      · exact h.1
      · exact ih h.2 r hr
  have hn : n = 1 ∨ n = 2 ∨ n = 3 ∨ n = 4 ∨ n = 5 ∨ n = 6 ∨ n = 7 ∨ n = 8 ∨ n = 9 ∨ n = 10 ∨ n = 11 ∨ n = 12 := by omega
  rcases hn with rfl | rfl | rfl | rfl | rfl | rfl | rfl | rfl | rfl | rfl | rfl | rfl
  · exact ⟨s_1, z_1, all _ _ ⟨t_1_0, trivial⟩, by decide, by decide⟩
  · exact ⟨s_2, z_2, all _ _ ⟨t_2_0, trivial⟩, by decide, by decide⟩
  · exact ⟨s_3, z_3, all _ _ ⟨t_3_0, trivial⟩, by decide, by decide⟩
  · exact ⟨s_4, z_4, all _ _ ⟨t_4_0, trivial⟩, by decide, by decide⟩
  · exact ⟨s_5, z_5, all _ _ ⟨t_5_2, t_5_4, t_5_1, t_5_3, t_5_0, trivial⟩, by decide, by decide⟩
  · exact ⟨s_6, z_6, all _ _ ⟨t_6_0, trivial⟩, by decide, by decide⟩
  · exact ⟨s_7, z_7, all _ _ ⟨t_7_5, t_7_3, t_7_1, t_7_6, t_7_4, t_7_2, t_7_0, trivial⟩, by decide, by decide⟩
  · exact ⟨s_8, z_8, all _ _ ⟨t_8_4, t_8_0, trivial⟩, by decide, by decide⟩
  · exact ⟨s_9, z_9, all _ _ ⟨t_9_3, t_9_6, t_9_0, trivial⟩, by decide, by decide⟩
  · exact ⟨s_10, z_10, all _ _ ⟨t_10_2, t_10_4, t_10_6, t_10_8, t_10_0, trivial⟩, by decide, by decide⟩
  · exact ⟨s_11, z_11, all _ _ ⟨t_11_1, t_11_2, t_11_3, t_11_4, t_11_5, t_11_6, t_11_7, t_11_8, t_11_9, t_11_10, t_11_0, trivial⟩, by decide, by decide⟩
  · exact ⟨s_12, z_12, all _ _ ⟨t_12_0, trivial⟩, by decide, by decide⟩
/-- the states at the cuts -/
def JA (many ticks : Int) (U : Tpl) (ρ : Val) : Prop := U = tplArgs ∧ ρ = ρ0 many ticks
def JB (n : Nat) (many ticks : Int) (U : Tpl) (ρ : Val) : Prop := U = TA n ∧ ρ = ρ0 many ticks
theorem main {many ticks : Int} (m0 : 0 ≤ many) (m1 : many ≤ 255) (k0 : 0 ≤ ticks) (k1 : ticks ≤ 255) (w : World) :
    Calls Tryz.prog 3 #[.int .u8 many, .int .u8 ticks] w fun e w' => e = .returned (.bool true) ∧ Below w.heap.size w w' := by
  obtain ⟨fn, c, hi⟩ := fnInfo_ok eq3
  have hcode : spine c = preA ++ (preB ++ (.block 0 (.loop bodyL) :: suf3)) := by
    rw [codeD_eq some3 hi]
    exact sp3_eq
  obtain ⟨n, hn1, hn2, hn⟩ : ∃ n : Nat, 1 ≤ n ∧ n ≤ 12 ∧ (n : Int) = 1 + many % 12 := ⟨(1 + many % 12).toNat, by omega, by omega, by omega⟩
  obtain ⟨hS, hz, hT, h12, hnext⟩ := start_all n hn1 hn2
  simp only [chkStart, Bool.and_eq_true] at hS
  obtain ⟨⟨hA, hM⟩, hfA⟩ := hS
  have hasmA : AsmOk (ρ0 many ticks) (asmA n) := by
    refine .cons (den_eql (decide_eq_true ?_)) .nil
    have e : (IE.bin .rem .u8 (.v 10) (.c 12)).den (ρ0 many ticks) = many % 12 := by
      show many.tmod 12 = _
      exact Int.tmod_eq_emod_of_nonneg m0
    have e2 : (IE.cv .i64 (.bin .rem .u8 (.v 10) (.c 12))).den (ρ0 many ticks) = many % 12 := by
      show IntKind.wrap .i64 _ = _
      rw [e, ← wrapF_eq]
      exact wrap_small (by omega)
    have e3 : nE.den (ρ0 many ticks) = 1 + many % 12 := by
      show wrapF .i64 (1 + (IE.cv .i64 (.bin .rem .u8 (.v 10) (.c 12))).den (ρ0 many ticks)) = _
      rw [e2]
      exact wrap_small (by omega)
    rw [e3, ← hn]; rfl
  have hI0 : Inv ticks (ρ0 many ticks) := ⟨rfl, k0, k1, Int.le_refl 0, (by show (0 : Int) ≤ 30; decide), Int.le_refl 0, (by show (0 : Int) ≤ 12 * 0; decide), (by show (0 : Int) = 12 * 0; decide)⟩
  refine calls_from (l := preA ++ (preB ++ (.block 0 (.loop bodyL) :: suf3))) (us := [.int .u8 many, .int .u8 ticks]) (args := [.sint .u8 (.v 10), .sint .u8 (.v 11)]) (ρ := ρ0 many ticks) (J := JA many ticks) (mask := mask3) hi nt3 hcode (by simp [cvs, cv, IE.den, ρ0]) (by simp) fitA (by rfl) ⟨rfl, rfl⟩ ?_
  refine from_run (J' := JB n many ticks) hX (by omega) ?_ (from_run (J' := J n ticks) hX (by omega) ?_ (from_loop (J' := J n ticks) (μ := mu) hX (by omega) (round hz hT h12 hnext) (from_end hX (by omega) ?_)))
  · rintro U ρ ⟨rfl, rfl⟩
    refine ⟨_, _, .plain hasmA freeA (runA_eq n hA), fun leaf T' hp hok hT' => ?_⟩
    simp only [chkA, Bool.and_eq_true] at hp
    obtain ⟨⟨p1, p2⟩, p3⟩ := hp
    have := one_tpl p2 hT'
    subst this
    exact .inl ⟨isNorm_eq p1, _, idHoles_ok p3, rfl, rfl, rfl⟩
  · rintro U ρ ⟨rfl, rfl⟩
    refine ⟨_, _, .plain .nil hfA (runM_eq n hM), fun leaf T' hp hok hT' => ?_⟩
    simp only [chkA, Bool.and_eq_true] at hp
    obtain ⟨⟨p1, p2⟩, p3⟩ := hp
    have := one_tpl p2 hT'
    subst this
    exact .inl ⟨isNorm_eq p1, _, idHoles_ok p3, rfl, hI0, .inl ⟨rfl, rfl⟩⟩
  · intro U ρ hJ
    have hs : (runS U).all chkR = true ∧ winFree none U = true := by
      rcases hJ.2 with ⟨rfl, _⟩ | ⟨r, hr, rfl⟩
      · simp only [chkT0, Bool.and_eq_true] at hz; exact ⟨hz.1.2, hz.2⟩
      · have := hT r hr
        simp only [chkT, Bool.and_eq_true] at this
        exact ⟨this.1.2, this.2⟩
    refine ⟨_, _, .plain' .nil hs.2 (runS_eq U hs.1), fun leaf T' hp hok hT' a' w' hb => ?_⟩
    simp only [chkR, Bool.and_eq_true] at hp
    obtain ⟨⟨p1, p2⟩, p3⟩ := hp
    have := one_tpl p2 hT'
    subst this
    have hhs : leaf.hs = [] := by simpa using p3
    exact fin_of (hs := []) (u := .bool true) hi nt3 mk3 (hb ρ (fun y hy => by rw [hhs] at hy; cases hy) rfl) fin3 (fun E => by simp [cv]) (.inr (by rw [isRet_eq p1]; rfl))
end Go.Proofs.YtbmneikfcbbmmaaGreat.HF
