/- HostsErrors: for every pipe and number the call returns true, and the memory that was there stays as it was. -/
import Derived.Test.YtbmneikfcbbmmaaGreatB0
import Derived.Test.YtbmneikfcbbmmaaGreatB1
import Derived.Test.YtbmneikfcbbmmaaGreatB2
import Derived.Test.YtbmneikfcbbmmaaGreatB3
import Derived.Test.YtbmneikfcbbmmaaGreatB4
import Derived.Test.YtbmneikfcbbmmaaGreatB5
import Derived.Test.YtbmneikfcbbmmaaGreatB6
import Derived.Test.YtbmneikfcbbmmaaGreatB7
import Derived.Test.YtbmneikfcbbmmaaGreatB8
import Derived.Test.YtbmneikfcbbmmaaGreatB9
import Derived.Test.YtbmneikfcbbmmaaGreatB10
import Derived.Test.YtbmneikfcbbmmaaGreatB11
import Derived.Test.YtbmneikfcbbmmaaGreatB12
import Derived.Test.YtbmneikfcbbmmaaGreatB13
import Derived.Test.YtbmneikfcbbmmaaGreatB14
import Derived.Test.YtbmneikfcbbmmaaGreatB15
import Derived.Test.YtbmneikfcbbmmaaGreatB16
import Derived.Test.YtbmneikfcbbmmaaGreatB17
import Derived.Test.YtbmneikfcbbmmaaGreatC0
import Derived.Test.YtbmneikfcbbmmaaGreatC1
import Derived.Test.YtbmneikfcbbmmaaGreatC2
import Derived.Test.YtbmneikfcbbmmaaGreatC3
import Derived.Test.YtbmneikfcbbmmaaGreatC4
import Derived.Test.YtbmneikfcbbmmaaGreatC5
import Derived.Test.YtbmneikfcbbmmaaGreatC6
import Derived.Test.YtbmneikfcbbmmaaGreatC7
import Derived.Test.YtbmneikfcbbmmaaGreatC8
import Derived.Test.YtbmneikfcbbmmaaGreatC9
import Derived.Test.YtbmneikfcbbmmaaGreatC10
import Derived.Test.YtbmneikfcbbmmaaGreatC11
import Derived.Test.YtbmneikfcbbmmaaGreatC12
import Derived.Test.YtbmneikfcbbmmaaGreatC13
import Derived.Test.YtbmneikfcbbmmaaGreatC14
import Derived.Test.YtbmneikfcbbmmaaGreatC15
import Derived.Test.YtbmneikfcbbmmaaGreatC16
import Derived.Test.YtbmneikfcbbmmaaGreatC17
import Derived.Test.YtbmneikfcbbmmaaGreatMC
import Derived.Test.YtbmneikfcbbmmaaGreatX0
import Derived.Test.YtbmneikfcbbmmaaGreatQD
set_option linter.unusedVariables false
set_option linter.unusedSimpArgs false
set_option linter.unusedSectionVars false
section
open Go Go.Ab Go.Proofs
namespace Go.Proofs.YtbmneikfcbbmmaaGreat.HX
theorem rounds_succ {T : Nat → Tpl} {n i : Nat} (h : rounds T (n + 1) i = true) : (run1 (T i) (T (i + 1))).all chk1 = true ∧ rounds T n (i + 1) = true := by
  have h : ((run1 (T i) (T (Nat.succ i))).all chk1 && rounds T n (Nat.succ i)) = true := h
  rw [Bool.and_eq_true] at h
  exact h
theorem roundsOk {T : Nat → Tpl} {n : Nat} : ∀ {i : Nat}, rounds T n i = true → ∀ k, i ≤ k → k < i + n → (run1 (T k) (T (k + 1))).all chk1 = true := by
  induction n with
  | zero => intro i _ k h1 h2; omega
  | succ n ih =>
    intro i h k h1 h2
    have h' := rounds_succ h
    by_cases e : k = i
    · rw [e]; exact h'.1
    · exact ih h'.2 k (by omega) (by omega)
theorem allB (k : Nat) (h1 : 1 ≤ k) (h2 : k < 256) : (run1 (B k) (B (k + 1))).all chk1 = true := by
  by_cases q1 : k < 59
  · exact roundsOk b0 k (by omega) (by omega)
  by_cases q59 : k < 87
  · exact roundsOk b1 k (by omega) (by omega)
  by_cases q87 : k < 108
  · exact roundsOk b2 k (by omega) (by omega)
  by_cases q108 : k < 125
  · exact roundsOk b3 k (by omega) (by omega)
  by_cases q125 : k < 140
  · exact roundsOk b4 k (by omega) (by omega)
  by_cases q140 : k < 153
  · exact roundsOk b5 k (by omega) (by omega)
  by_cases q153 : k < 165
  · exact roundsOk b6 k (by omega) (by omega)
  by_cases q165 : k < 176
  · exact roundsOk b7 k (by omega) (by omega)
  by_cases q176 : k < 186
  · exact roundsOk b8 k (by omega) (by omega)
  by_cases q186 : k < 196
  · exact roundsOk b9 k (by omega) (by omega)
  by_cases q196 : k < 205
  · exact roundsOk b10 k (by omega) (by omega)
  by_cases q205 : k < 213
  · exact roundsOk b11 k (by omega) (by omega)
  by_cases q213 : k < 221
  · exact roundsOk b12 k (by omega) (by omega)
  by_cases q221 : k < 229
  · exact roundsOk b13 k (by omega) (by omega)
  by_cases q229 : k < 236
  · exact roundsOk b14 k (by omega) (by omega)
  by_cases q236 : k < 243
  · exact roundsOk b15 k (by omega) (by omega)
  by_cases q243 : k < 250
  · exact roundsOk b16 k (by omega) (by omega)
  exact roundsOk b17 k (by omega) (by omega)
theorem allC (k : Nat) (h1 : 1 ≤ k) (h2 : k < 256) : (run1 (C k) (C (k + 1))).all chk1 = true := by
  by_cases q1 : k < 59
  · exact roundsOk c0 k (by omega) (by omega)
  by_cases q59 : k < 87
  · exact roundsOk c1 k (by omega) (by omega)
  by_cases q87 : k < 108
  · exact roundsOk c2 k (by omega) (by omega)
  by_cases q108 : k < 125
  · exact roundsOk c3 k (by omega) (by omega)
  by_cases q125 : k < 140
  · exact roundsOk c4 k (by omega) (by omega)
  by_cases q140 : k < 153
  · exact roundsOk c5 k (by omega) (by omega)
  by_cases q153 : k < 165
  · exact roundsOk c6 k (by omega) (by omega)
  by_cases q165 : k < 176
  · exact roundsOk c7 k (by omega) (by omega)
  by_cases q176 : k < 186
  · exact roundsOk c8 k (by omega) (by omega)
  by_cases q186 : k < 196
  · exact roundsOk c9 k (by omega) (by omega)
  by_cases q196 : k < 205
  · exact roundsOk c10 k (by omega) (by omega)
  by_cases q205 : k < 213
  · exact roundsOk c11 k (by omega) (by omega)
  by_cases q213 : k < 221
  · exact roundsOk c12 k (by omega) (by omega)
  by_cases q221 : k < 229
  · exact roundsOk c13 k (by omega) (by omega)
  by_cases q229 : k < 236
  · exact roundsOk c14 k (by omega) (by omega)
  by_cases q236 : k < 243
  · exact roundsOk c15 k (by omega) (by omega)
  by_cases q243 : k < 250
  · exact roundsOk c16 k (by omega) (by omega)
  exact roundsOk c17 k (by omega) (by omega)
end Go.Proofs.YtbmneikfcbbmmaaGreat.HX
end

section
open Go Go.Ab Go.Proofs
open Go.RowKit (Below)
namespace Go.Proofs.YtbmneikfcbbmmaaGreat.HX
open HF (masks)
theorem hm : Tryz.prog.follows .mixedOrders = true := by kernel_rfl
theorem some13 : (fnInfo Tryz.prog masks 13).isSome = true := by kernel_rfl
theorem some7 : (fnInfo Tryz.prog masks 7).isSome = true := by kernel_rfl
theorem ctx_ok : CtxOk Tryz.prog ctx := mkCtx1_ok (sumTrue_ok hm (by decide) some13 HF.lives26)
theorem hX : ExOk Tryz.prog X := exec_ok ctx_ok (drawSound hm) 1000000 Leaf
noncomputable def i7 : FnInfo := infoD Tryz.prog masks 7
theorem eq7 : fnInfo Tryz.prog masks 7 = some i7 := infoD_eq some7
theorem nt7 : i7.ntmps = 193 := by kernel_rfl
theorem mk7 : i7.mask = mask7 := by kernel_rfl
theorem fin7 : finish i7 tplR.fr (tplR.st none []) (fun v _ => .ok v) = .ok (.bool true) := by kernel_rfl
theorem bl11 : isBL 0 (dropC 11 sp7) = true := by kernel_rfl
theorem sp7_eq : sp7 = pre ++ (.block 0 (.loop body1) :: suf) := by
  have h1 := split_loop (n := 11) (l := sp7) (id := 0) bl11
  unfold pre suf body1
  exact h1
/-! ### the number of pipes, which no template bears -/
def upd (ρ : Val) (n : Int) : Val := { ρ with iv := fun x => if x = 3 then n else ρ.iv x }
theorem upd_3 (ρ : Val) (n : Int) : (upd ρ n).iv 3 = n := by simp [upd]
theorem holes_upd {ρ ρ' : Val} {hs : List Hole} {n : Int} (h : ∀ y ∈ hs, HoleIs ρ ρ' y) (h3 : hs.all noThree = true) : ∀ y ∈ hs, HoleIs ρ (upd ρ' n) y := by
  intro y hy
  have h1 := h y hy
  have h2 := List.all_eq_true.1 h3 y hy
  cases y with
  | i x e =>
    have hx : ¬ x = 3 := by
      intro hx
      subst hx
      cases h2
    show (if x = 3 then n else ρ'.iv x) = e.den ρ
    rw [if_neg hx]; exact h1
  | b x e => exact h1
  | q x e => exact h1
  | ql x n => exact h1
theorem sameV_upd (ρ : Val) (hs : List Hole) (n : Int) : SameV ρ (upd (subst ρ hs) n) := ⟨rfl, rfl⟩
def J1 (U : Tpl) (ρ : Val) : Prop := (U = A ∧ ρ.iv 3 = 0) ∨ ∃ n : Nat, 1 ≤ n ∧ n ≤ 256 ∧ ρ.iv 3 = n ∧ (U = B n ∨ U = C n)
def J2 (U : Tpl) (_ : Val) : Prop := U = B 256 ∨ U = C 256
def mu1 (ρ : Val) : Nat := 300 - (ρ.iv 3).toNat
theorem run1_eq {T U : Tpl} {p : Leaf → Bool} (h : (run1 T U).all p = true) : (runL X Tryz.prog 193 mask7 [body1] T.fr (T.st none []) (leafKR [U] none)).all p = true := by unfold run1 at h; exact h
theorem runS_eq {T : Tpl} {p : Leaf → Bool} (h : (runS T).all p = true) : (runL X Tryz.prog 193 mask7 suf T.fr (T.st none []) (leafKR [tplR] none)).all p = true := by unfold runS at h; exact h
theorem runA_eq {kd sp pe : Option Nat} {asm : List (BE × Bool)} {p : Leaf → Bool} (h : (runA kd sp pe asm).all p = true) : (runL X Tryz.prog 193 mask7 pre (tplArgs kd sp pe).fr ((tplArgs kd sp pe).st none asm) (leafKR [A, B 1, C 1] none)).all p = true := by unfold runA at h; exact h
theorem free (T : Tpl) : winFree none T = true := rfl
abbrev Step1 (w0 : World) (R : Exit → Act → World → Prop) (U : Tpl) (ρ : Val) : Prop :=
    ∃ Ts p, RunOk Tryz.prog X 193 mask7 w0 [body1] U ρ Ts p ∧ ∀ leaf T', p leaf = true → leaf.hs.all (holeOk leaf.hs) = true → Ts[leaf.j]? = some T' →
      (leaf.how = .norm ∧ ∃ ρ', (∀ y ∈ leaf.hs, HoleIs ρ ρ' y) ∧ SameV ρ ρ' ∧ J1 T' ρ' ∧ mu1 ρ' < mu1 ρ) ∨ (leaf.how = .exit 0 ∧ ∃ ρ', (∀ y ∈ leaf.hs, HoleIs ρ ρ' y) ∧ SameV ρ ρ' ∧ J2 T' ρ') ∨
      (leaf.how = .ret ∧ ∀ a' w', Behind 193 mask7 w0 T' ρ leaf a' w' → R .ret a' w')
theorem go1 {w0 : World} {R : Exit → Act → World → Prop} {T U : Tpl} {ρ : Val} (n : Nat) (h3 : ρ.iv 3 = n) (hn : n < 256) (hr : (run1 T U).all chk1 = true) (hU : U = B (n + 1) ∨ U = C (n + 1)) : Step1 w0 R T ρ := by
  refine ⟨_, _, .plain .nil (free _) (run1_eq hr), fun leaf T' hp hok hT' => ?_⟩
  simp only [chk1, Bool.and_eq_true] at hp
  obtain ⟨⟨p1, p2⟩, p3⟩ := hp
  have := one_tpl p2 hT'
  subst this
  refine .inl ⟨isNorm_eq p1, upd (subst ρ leaf.hs) ((n + 1 : Nat) : Int), holes_upd (holes_ok hok) p3, sameV_upd _ _ _, .inr ⟨n + 1, by omega, by omega, upd_3 _ _, hU⟩, ?_⟩
  unfold mu1; rw [upd_3, h3]; omega
theorem leave1 {w0 : World} {R : Exit → Act → World → Prop} {T : Tpl} {ρ : Val} (hr : (run1 T T).all chkX = true) (hJ : J2 T ρ) : Step1 w0 R T ρ := by
  refine ⟨_, _, .plain .nil (free _) (run1_eq hr), fun leaf T' hp hok hT' => ?_⟩
  simp only [chkX, Bool.and_eq_true] at hp
  obtain ⟨⟨p1, p2⟩, p3⟩ := hp
  have := one_tpl p2 hT'
  subst this
  exact .inr (.inl ⟨isExitN_eq p1, ρ, idHoles_ok p3, ⟨rfl, rfl⟩, hJ⟩)
theorem round1 (w0 : World) (R : Exit → Act → World → Prop) (U : Tpl) (ρ : Val) (hJ : J1 U ρ) : Step1 w0 R U ρ := by
  rcases hJ with ⟨rfl, h3⟩ | ⟨n, h1, h2, h3, hU⟩
  · exact go1 0 h3 (by omega) a0 (.inl rfl)
  · by_cases hn : n = 256
    · subst hn
      rcases hU with rfl | rfl
      · exact leave1 xB (.inl rfl)
      · exact leave1 xC (.inr rfl)
    · rcases hU with rfl | rfl
      · exact go1 n h3 (by omega) (allB n h1 (by omega)) (.inl rfl)
      · exact go1 n h3 (by omega) (allC n h1 (by omega)) (.inr rfl)
/-! ### the start -/
def JA (kd sp pe : Option Nat) (p : Pipe) (id : Int) (U : Tpl) (ρ : Val) : Prop := U = tplArgs kd sp pe ∧ ρ = ρ0 p id
theorem main_start {p : Pipe} {id : Int} (hs : Start p id) (w : World) : Calls Tryz.prog 7 #[p.val, .int .i64 id] w fun e w' => e = .returned (.bool true) ∧ Below w.heap.size w w' := by
  obtain ⟨kd, sp, pe, asm, hok, hasm, h1, h2, h3⟩ := hs
  unfold okA at hok
  rw [Bool.and_eq_true] at hok
  obtain ⟨hfit, hrun⟩ := hok
  obtain ⟨fn, c, hi⟩ := fnInfo_ok eq7
  have hcode : spine c = pre ++ (.block 0 (.loop body1) :: suf) := by
    rw [codeD_eq some7 hi]
    exact sp7_eq
  obtain ⟨hs, hf, hid⟩ : ∃ hs, (tplArgs kd sp pe).fits ⟨initT mask7 [pipeArg kd sp pe, .sint .i64 (.v 21)] 0 .lf, []⟩ ⟨.lf, posOf 600, []⟩ = some hs ∧ hs.all idHole = true := by
    unfold fitOk at hfit
    split at hfit
    · next hs hf => exact ⟨hs, hf, hfit⟩
    · cases hfit
  refine calls_from (l := pre ++ (.block 0 (.loop body1) :: suf)) (us := [p.val, .int .i64 id]) (args := [pipeArg kd sp pe, .sint .i64 (.v 21)]) (ρ := ρ0 p id) (J := JA kd sp pe p id) (mask := mask7) hi nt7 hcode (args_ok h1 h2 h3) (by simp) hf hid ⟨rfl, rfl⟩ ?_
  refine from_run (J' := J1) hX (by omega) ?_ (from_loop (J' := J2) (μ := mu1) hX (by omega) (fun U ρ hJ => round1 w _ U ρ hJ) (from_end hX (by omega) ?_))
  · rintro U ρ ⟨rfl, rfl⟩
    refine ⟨_, _, .plain hasm (free _) (runA_eq hrun), fun leaf T' hp hok hT' => ?_⟩
    simp only [chkA, Bool.and_eq_true] at hp
    obtain ⟨⟨p1, p2⟩, p3⟩ := hp
    have p2 : leaf.j ≤ 2 := Nat.le_of_ble_eq_true p2
    have hj : (leaf.j = 0 ∧ T' = A) ∨ (leaf.j = 1 ∧ T' = B 1) ∨ (leaf.j = 2 ∧ T' = C 1) := by
      have : leaf.j = 0 ∨ leaf.j = 1 ∨ leaf.j = 2 := by omega
      rcases this with e | e | e <;> rw [e] at hT' <;> simp at hT' <;> simp [e, hT']
    rcases hj with ⟨_, rfl⟩ | ⟨_, rfl⟩ | ⟨_, rfl⟩
    · exact .inl ⟨isNorm_eq p1, upd (subst _ leaf.hs) 0, holes_upd (holes_ok hok) p3, sameV_upd _ _ _, .inl ⟨rfl, upd_3 _ _⟩⟩
    · exact .inl ⟨isNorm_eq p1, upd (subst _ leaf.hs) 1, holes_upd (holes_ok hok) p3, sameV_upd _ _ _, .inr ⟨1, Nat.le_refl _, by omega, upd_3 _ _, .inl rfl⟩⟩
    · exact .inl ⟨isNorm_eq p1, upd (subst _ leaf.hs) 1, holes_upd (holes_ok hok) p3, sameV_upd _ _ _, .inr ⟨1, Nat.le_refl _, by omega, upd_3 _ _, .inr rfl⟩⟩
  · intro U ρ hJ
    have go : ∀ V, (runS V).all chkR = true → ∃ Ts p, RunOk Tryz.prog X 193 mask7 w suf V ρ Ts p ∧ ∀ leaf T', p leaf = true → leaf.hs.all (holeOk leaf.hs) = true → Ts[leaf.j]? = some T' → ∀ a' w', Behind 193 mask7 w T' ρ leaf a' w' → Fin Tryz.prog fn (fun e w' => e = .returned (.bool true) ∧ Below w.heap.size w w') (exA leaf.how) a' w' := by
      intro V hr
      refine ⟨_, _, .plain .nil (free _) (runS_eq hr), fun leaf T' hp hok hT' a' w' hb => ?_⟩
      simp only [chkR, Bool.and_eq_true] at hp
      obtain ⟨⟨p1, p2⟩, p3⟩ := hp
      have := one_tpl p2 hT'
      subst this
      have hhs : leaf.hs = [] := by simpa using p3
      exact fin_of (u := .bool true) hi nt7 mk7 (hb ρ (fun y hy => by rw [hhs] at hy; cases hy) ⟨rfl, rfl⟩) fin7 (fun E => by simp [cv]) (.inr (by rw [isRet_eq p1]; rfl))
    rcases hJ with rfl | rfl
    · exact go _ sB
    · exact go _ sC
theorem main {p : Pipe} {id : Int} (h : Bytes p) (w : World) : Calls Tryz.prog 7 #[p.val, .int .i64 id] w fun e w' => e = .returned (.bool true) ∧ Below w.heap.size w w' :=
  main_start (start h) w
end Go.Proofs.YtbmneikfcbbmmaaGreat.HX
end
