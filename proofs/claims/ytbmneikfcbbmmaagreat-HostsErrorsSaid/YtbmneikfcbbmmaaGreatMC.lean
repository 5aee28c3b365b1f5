/- HostsErrors: every pipe has a start that was checked. -/
import Derived.Test.YtbmneikfcbbmmaaGreatTA
import Derived.Test.YtbmneikfcbbmmaaGreatQD
import Derived.Test.YtbmneikfcbbmmaaGreatS0
import Derived.Test.YtbmneikfcbbmmaaGreatS1
import Derived.Test.YtbmneikfcbbmmaaGreatS2
import Derived.Test.YtbmneikfcbbmmaaGreatS3
import Derived.Test.YtbmneikfcbbmmaaGreatS4
import Derived.Test.YtbmneikfcbbmmaaGreatS5
import Derived.Test.YtbmneikfcbbmmaaGreatS6
set_option linter.unusedVariables false
set_option linter.unusedSimpArgs false
set_option linter.unusedSectionVars false
section
open Go Go.Ab Go.Proofs
namespace Go.Proofs.YtbmneikfcbbmmaaGreat.HX
/-! what a start is -/
structure Pipe where
  (addr endp : Int)
  (inn : Bool)
  (kind max period speed hub port : Int)
  (toggle halted : Bool)
def Pipe.val (p : Pipe) : Value := .agg #[.int .u8 p.addr, .int .u8 p.endp, .bool p.inn, .int .u8 p.kind, .int .i64 p.max, .int .i64 p.period, .int .u8 p.speed, .int .u8 p.hub, .int .u8 p.port, .bool p.toggle, .bool p.halted]
def ρ0 (p : Pipe) (id : Int) : Val :=
  ⟨fun v => if v = 10 then p.addr else if v = 11 then p.endp else if v = 13 then p.kind else if v = 14 then p.max else if v = 15 then p.period else if v = 16 then p.speed else if v = 17 then p.hub else if v = 18 then p.port else if v = 21 then id else 0,
   fun v => if v = 12 then p.inn else if v = 19 then p.toggle else if v = 20 then p.halted else false, fun _ => (none, 0), fun _ => .cells #[] 0 (0, 0), fun _ => []⟩
def Is (k : Option Nat) (z : Int) : Prop := match k with | some n => z = n | none => True
theorem cv_u8 {ρ : Val} {E : Mem} {k : Option Nat} {x : Nat} (h : Is k (ρ.iv x)) : cv ρ E (ku k x) = some (.int .u8 (ρ.iv x)) := by
  cases k with
  | none => rfl
  | some n => have h : ρ.iv x = n := h; rw [h]; rfl
theorem cv_i64 {ρ : Val} {E : Mem} {k : Option Nat} {x : Nat} (h : Is k (ρ.iv x)) : cv ρ E (ki k x) = some (.int .i64 (ρ.iv x)) := by
  cases k with
  | none => rfl
  | some n => have h : ρ.iv x = n := h; rw [h]; rfl
/-- a start that was checked -/
def Start (p : Pipe) (id : Int) : Prop := ∃ kd sp pe asm, okA kd sp pe asm = true ∧ AsmOk (ρ0 p id) asm ∧ Is kd p.kind ∧ Is sp p.speed ∧ Is pe p.period
theorem args_ok {p : Pipe} {id : Int} {kd sp pe : Option Nat} (h1 : Is kd p.kind) (h2 : Is sp p.speed) (h3 : Is pe p.period) : cvs (ρ0 p id) E0w [pipeArg kd sp pe, .sint .i64 (.v 21)] = some [p.val, .int .i64 id] := by
  have e1 : cv (ρ0 p id) E0w (ku kd 13) = some (.int .u8 p.kind) := cv_u8 (ρ := ρ0 p id) (x := 13) h1
  have e2 : cv (ρ0 p id) E0w (ku sp 16) = some (.int .u8 p.speed) := cv_u8 (ρ := ρ0 p id) (x := 16) h2
  have e3 : cv (ρ0 p id) E0w (ki pe 15) = some (.int .i64 p.period) := cv_i64 (ρ := ρ0 p id) (x := 15) h3
  simp [cvs, cv, pipeArg, e1, e2, e3, Pipe.val]
  simp [IE.den, BE.den, ρ0]
end Go.Proofs.YtbmneikfcbbmmaaGreat.HX
end

section
open Go Go.Ab Go.Proofs
namespace Go.Proofs.YtbmneikfcbbmmaaGreat.HX
/-! every pipe has a start that was checked -/
def eachTo (f : Nat → Bool) (n : Nat) : Bool := Nat.rec (motive := fun _ => Bool) true (fun m ih => f m && ih) n
theorem eachTo_ok {f : Nat → Bool} : ∀ {n : Nat}, eachTo f n = true → ∀ m, m < n → f m = true
  | 0, _, m, hm => absurd hm (Nat.not_lt_zero _)
  | n + 1, h, m, hm => by
    have h : (f n && eachTo f n) = true := h
    rw [Bool.and_eq_true] at h
    by_cases e : m = n
    · rw [e]; exact h.1
    · exact eachTo_ok h.2 m (by omega)
def isPow (m : Nat) : Bool := Nat.beq m 1 || Nat.beq m 2 || Nat.beq m 4 || Nat.beq m 8 || Nat.beq m 16 || Nat.beq m 32 || Nat.beq m 64 || Nat.beq m 128 || Nat.beq m 256
noncomputable def powAt (m : Nat) : Bool := Nat.beq m 0 || isPow m || factsAt 15 mixed (.ofNat m)
theorem pow_all : eachTo powAt 257 = true := by kernel_rfl
theorem factsAt_ok {ρ : Val} {x : Nat} {l : List (BE × Bool)} {z : Int} (h : factsAt x l z = true) (hz : ρ.iv x = z) : AsmOk ρ l := by
  intro c b hm
  have h3 := List.all_eq_true.1 h _ hm
  simp only [Bool.and_eq_true, beq_iff_eq] at h3
  rw [BE.only_ok (ρ' := atV z) (x := x) (by rw [hz]; rfl) h3.1, h3.2]
theorem pow_cases {p : Pipe} {id : Int} (h1 : 1 ≤ p.period) (h2 : p.period ≤ 256) : (∃ m : Nat, p.period = m ∧ isPow m = true) ∨ AsmOk (ρ0 p id) mixed := by
  have h := eachTo_ok pow_all p.period.toNat (by omega)
  unfold powAt at h
  simp only [Bool.or_eq_true] at h
  rcases h with (h | h) | h
  · have : p.period.toNat = 0 := Nat.eq_of_beq_eq_true h
    omega
  · exact .inl ⟨p.period.toNat, by omega, h⟩
  · exact .inr (factsAt_ok h (by show p.period = ((p.period.toNat : Nat) : Int); omega))
theorem isPow_mem {m sp : Nat} (h : isPow m = true) (h8 : sp = 2 ∨ 8 ≤ m) : m ∈ periods sp := by
  unfold isPow at h
  simp only [Bool.or_eq_true, Nat.beq_eq] at h
  unfold periods
  rcases h8 with rfl | h8
  · rcases h with (((((((h | h) | h) | h) | h) | h) | h) | h) | h <;> subst h <;> decide
  · refine List.mem_append_right _ ?_
    rcases h with (((((((h | h) | h) | h) | h) | h) | h) | h) | h <;> subst h <;> first | omega | decide
structure Bytes (p : Pipe) : Prop where
  addr : 0 ≤ p.addr ∧ p.addr ≤ 255
  endp : 0 ≤ p.endp ∧ p.endp ≤ 255
  kind : 0 ≤ p.kind ∧ p.kind ≤ 255
  speed : 0 ≤ p.speed ∧ p.speed ≤ 255
  hub : 0 ≤ p.hub ∧ p.hub ≤ 255
  port : 0 ≤ p.port ∧ p.port ≤ 255
variable {p : Pipe} {id : Int}
theorem leT {e : IE} {n : Int} (h : e.den (ρ0 p id) ≤ n) : (BE.cmp .leq e (.c n)).den (ρ0 p id) = true := den_leq (decide_eq_true h)
theorem leF {e : IE} {n : Int} (h : ¬ e.den (ρ0 p id) ≤ n) : (BE.cmp .leq e (.c n)).den (ρ0 p id) = false := den_leq (decide_eq_false h)
theorem geT {e : IE} {n : Int} (h : n ≤ e.den (ρ0 p id)) : (BE.cmp .leq (.c n) e).den (ρ0 p id) = true := den_leq (decide_eq_true h)
theorem geF {e : IE} {n : Int} (h : ¬ n ≤ e.den (ρ0 p id)) : (BE.cmp .leq (.c n) e).den (ρ0 p id) = false := den_leq (decide_eq_false h)
theorem eqF {e : IE} {n : Int} (h : ¬ e.den (ρ0 p id) = n) : (BE.cmp .eql e (.c n)).den (ρ0 p id) = false := den_eql (decide_eq_false h)
theorem d10 : (IE.v 10).den (ρ0 p id) = p.addr := rfl
theorem d11 : (IE.v 11).den (ρ0 p id) = p.endp := rfl
theorem d13 : (IE.v 13).den (ρ0 p id) = p.kind := rfl
theorem d14 : (IE.v 14).den (ρ0 p id) = p.max := rfl
theorem d15 : (IE.v 15).den (ρ0 p id) = p.period := rfl
theorem d16 : (IE.v 16).den (ρ0 p id) = p.speed := rfl
theorem d17 : (IE.v 17).den (ρ0 p id) = p.hub := rfl
theorem d18 : (IE.v 18).den (ρ0 p id) = p.port := rfl
theorem kind_ok (h : 3 < p.kind) : AsmOk (ρ0 p id) okind :=
  .cons (leF (by rw [d13]; omega)) (.cons (eqF (by rw [d13]; omega)) (.cons (eqF (by rw [d13]; omega)) (.cons (eqF (by rw [d13]; omega)) (.cons (eqF (by rw [d13]; omega)) .nil))))
theorem speed_ok (h : 2 < p.speed) : AsmOk (ρ0 p id) ospeed := .cons (leF (by rw [d16]; omega)) .nil
theorem u16_den (h0 : 0 ≤ p.max) (h1 : p.max ≤ 1024) : (IE.cv .u16 (.v 14)).den (ρ0 p id) = p.max := by
  show IntKind.wrap .u16 p.max = _
  simp [IntKind.wrap, IntKind.signed, IntKind.bits]
  omega
/-- a periodic pipe of a valid speed -/
theorem per_start {iso : Bool} {sp : Nat} (hb : badOk iso sp = true) (hg : 1 ≤ lim iso sp → ∀ P ∈ periods sp, goodOk iso sp P = true)
    (hz : 1 ≤ p.max → p.max ≤ lim iso sp → AsmOk (ρ0 p id) (sizeFacts iso sp)) (hk : p.kind = kindOf iso) (hs : p.speed = sp) (h2 : sp ≤ 2) (h : Bytes p) : Start p id := by
  have hr : ∀ r ∈ reasons iso sp, AsmOk (ρ0 p id) r → Start p id := fun r hr ha => by
    unfold badOk at hb
    exact ⟨some (kindOf iso), some sp, none, r, List.all_eq_true.1 hb r hr, ha, hk, hs, trivial⟩
  have two : ∀ b : Bool, Nat.beq sp 2 = decide (sp = 2) := fun _ => by
    cases hq : Nat.beq sp 2 with
    | true => have := Nat.eq_of_beq_eq_true hq; simp [this]
    | false =>
      have : sp ≠ 2 := fun e => by rw [e] at hq; cases hq
      simp [this]
  have two := two true
  by_cases a1 : p.addr ≤ 127
  rotate_left
  · exact hr _ (List.mem_append_left _ (.head _)) (.cons (leF a1) .nil)
  by_cases a2 : p.addr ≤ 0
  · exact hr _ (List.mem_append_left _ (.tail _ (.head _))) (.cons (leT a2) .nil)
  by_cases a3 : p.hub ≤ 127
  rotate_left
  · exact hr _ (List.mem_append_left _ (.tail _ (.tail _ (.head _)))) (.cons (leF a3) .nil)
  by_cases a4 : p.port ≤ 7
  rotate_left
  · exact hr _ (List.mem_append_left _ (.tail _ (.tail _ (.tail _ (.head _))))) (.cons (leF a4) .nil)
  have port0 := h.port.1
  by_cases a5 : decide (p.port = 0) = Nat.beq sp 2
  rotate_left
  · refine hr _ (List.mem_append_left _ (.tail _ (.tail _ (.tail _ (.tail _ (.head _)))))) (.cons (den_eql ?_) (.cons (den_leq ?_) .nil))
    · show decide (p.port = 0) = !(Nat.beq sp 2)
      cases hq : Nat.beq sp 2 <;> rw [hq] at a5 <;> revert a5 <;> cases decide (p.port = 0) <;> simp
    · show decide (p.port ≤ 0) = !(Nat.beq sp 2)
      have : decide (p.port ≤ 0) = decide (p.port = 0) := by congr 1; exact propext ⟨fun e => by omega, fun e => by omega⟩
      rw [this]
      cases hq : Nat.beq sp 2 <;> rw [hq] at a5 <;> revert a5 <;> cases decide (p.port = 0) <;> simp
  by_cases a6 : 1 ≤ p.endp
  rotate_left
  · exact hr _ (List.mem_append_left _ (.tail _ (.tail _ (.tail _ (.tail _ (.tail _ (.head _))))))) (.cons (geF a6) .nil)
  by_cases a7 : p.endp ≤ 15
  rotate_left
  · exact hr _ (List.mem_append_left _ (.tail _ (.tail _ (.tail _ (.tail _ (.tail _ (.tail _ (.head _)))))))) (.cons (leF a7) .nil)
  by_cases a8 : 1 ≤ (IE.cv .u16 (.v 14)).den (ρ0 p id)
  rotate_left
  · exact hr _ (List.mem_append_left _ (.tail _ (.tail _ (.tail _ (.tail _ (.tail _ (.tail _ (.tail _ (.head _))))))))) (.cons (geF a8) .nil)
  by_cases a9 : 0 ≤ p.max
  rotate_left
  · exact hr _ (List.mem_append_left _ (.tail _ (.tail _ (.tail _ (.tail _ (.tail _ (.tail _ (.tail _ (.tail _ (.head _)))))))))) (.cons (geF a9) .nil)
  by_cases b1 : p.max ≤ 1024
  rotate_left
  · exact hr _ (List.mem_append_left _ (.tail _ (.tail _ (.tail _ (.tail _ (.tail _ (.tail _ (.tail _ (.tail _ (.tail _ (.head _))))))))))) (.cons (leF b1) .nil)
  by_cases b2 : (IE.cv .u16 (.v 14)).den (ρ0 p id) ≤ lim iso sp
  rotate_left
  · exact hr _ (List.mem_append_left _ (.tail _ (.tail _ (.tail _ (.tail _ (.tail _ (.tail _ (.tail _ (.tail _ (.tail _ (.tail _ (.head _)))))))))))) (.cons (leF b2) .nil)
  have hu := u16_den (id := id) a9 b1
  have a8' := a8
  rw [hu] at a8' b2
  have hmix : high ∈ reasons iso sp := List.mem_append_left _ (.tail _ (.tail _ (.tail _ (.tail _ (.tail _ (.tail _ (.tail _ (.tail _ (.tail _ (.tail _ (.tail _ (.tail _ (.head _)))))))))))))
  have hmix2 : mixed ∈ reasons iso sp := List.mem_append_left _ (.tail _ (.tail _ (.tail _ (.tail _ (.tail _ (.tail _ (.tail _ (.tail _ (.tail _ (.tail _ (.tail _ (.tail _ (.tail _ (.head _))))))))))))))
  have hlow : (bif Nat.beq sp 2 then low1 false else low8) ∈ reasons iso sp := List.mem_append_left _ (.tail _ (.tail _ (.tail _ (.tail _ (.tail _ (.tail _ (.tail _ (.tail _ (.tail _ (.tail _ (.tail _ (.head _))))))))))))
  by_cases c1 : p.period ≤ 256
  rotate_left
  · exact hr _ hmix (.cons (leF c1) .nil)
  by_cases c2 : (if sp = 2 then 1 else 8) ≤ p.period
  rotate_left
  · refine hr _ hlow ?_
    rw [two]
    by_cases e : sp = 2
    · rw [if_pos e] at c2
      simp only [e, decide_true, cond_true]
      exact .cons (geF c2) (.cons (geF (by rw [d15]; omega)) .nil)
    · rw [if_neg e] at c2
      simp only [e, decide_false, cond_false]
      exact .cons (geF c2) .nil
  have c3 : 1 ≤ p.period := by split at c2 <;> omega
  rcases pow_cases (id := id) c3 c1 with ⟨P, hP, hpow⟩ | hm
  rotate_left
  · exact hr _ hmix2 hm
  have hmem : P ∈ periods sp := isPow_mem hpow (by
    by_cases e : sp = 2
    · exact .inl e
    · rw [if_neg e] at c2; exact .inr (by omega))
  by_cases d1 : sp = 2 ∧ ¬ p.hub = 0
  · refine hr [((.cmp .eql (.v 17) (.c 0) : BE), false)] (List.mem_append_right _ (List.mem_append_left _ ?_)) (.cons (eqF d1.2) .nil)
    rw [two, d1.1]
    exact .head _
  by_cases d2 : iso = true ∧ p.toggle = true
  · refine hr [((.v 19 : BE), true)] (List.mem_append_right _ (List.mem_append_right _ ?_)) (.cons d2.2 .nil)
    rw [d2.1]
    exact .head _
  by_cases d3 : iso = true ∧ p.halted = true
  · refine hr [((.v 20 : BE), true)] (List.mem_append_right _ (List.mem_append_right _ ?_)) (.cons d3.2 .nil)
    rw [d3.1]
    exact .tail _ (.head _)
  have hok := hg (by omega) P hmem
  unfold goodOk at hok
  refine ⟨some (kindOf iso), some sp, some P, goodFacts iso sp, hok, ?_, hk, hs, hP⟩
  unfold goodFacts
  refine .cons (leT a1) (.cons (leF a2) (.cons (leT a3) (.cons (leT a4) (.cons (den_eql ?_) (.cons (den_leq ?_) (.cons (geT a6) (.cons (leT a7) (.cons (geT a8) (.append (.append ?_ ?_) (hz a8' b2))))))))))
  · exact a5
  · show decide (p.port ≤ 0) = Nat.beq sp 2
    rw [← a5]
    congr 1; exact propext ⟨fun e => by omega, fun e => by omega⟩
  · rw [two]
    by_cases e : sp = 2
    · simp only [e, decide_true, cond_true]
      refine .cons (den_eql (decide_eq_true ?_)) .nil
      show p.hub = 0
      by_cases e' : p.hub = 0
      · exact e'
      · exact absurd ⟨e, e'⟩ d1
    · simp only [e, decide_false, cond_false]
      exact .nil
  · cases iso with
    | false => exact .nil
    | true =>
      refine .cons ?_ (.cons ?_ .nil)
      · show p.toggle = false
        cases ht : p.toggle with
        | false => rfl
        | true => exact absurd ⟨rfl, ht⟩ d2
      · show p.halted = false
        cases ht : p.halted with
        | false => rfl
        | true => exact absurd ⟨rfl, ht⟩ d3
theorem sz {iso : Bool} {sp n : Nat} (h : factsUpto 14 (sizeFacts iso sp) n = true) (hn : lim iso sp < n) : 1 ≤ p.max → p.max ≤ lim iso sp → AsmOk (ρ0 p id) (sizeFacts iso sp) := fun h1 h2 =>
  factsUpto_ok (x := 14) h (by show 0 ≤ p.max; omega) (by show p.max < n; omega)
theorem good1 (P : Nat) (h0 : P ∈ periods 1) : goodOk true 1 P = true := by
  have h : P ∈ [8, 16, 32, 64, 128, 256] := h0
  have h : P = 8 ∨ P = 16 ∨ P = 32 ∨ P = 64 ∨ P = 128 ∨ P = 256 := by simpa using h
  rcases h with rfl | rfl | rfl | rfl | rfl | rfl
  · exact good_11_8
  · exact good_11_16
  · exact good_11_32
  · exact good_11_64
  · exact good_11_128
  · exact good_11_256
theorem good2 (P : Nat) (h0 : P ∈ periods 2) : goodOk true 2 P = true := by
  have h : P ∈ [1, 2, 4, 8, 16, 32, 64, 128, 256] := h0
  have h : P = 1 ∨ P = 2 ∨ P = 4 ∨ P = 8 ∨ P = 16 ∨ P = 32 ∨ P = 64 ∨ P = 128 ∨ P = 256 := by simpa using h
  rcases h with rfl | rfl | rfl | rfl | rfl | rfl | rfl | rfl | rfl
  · exact good_12_1
  · exact good_12_2
  · exact good_12_4
  · exact good_12_8
  · exact good_12_16
  · exact good_12_32
  · exact good_12_64
  · exact good_12_128
  · exact good_12_256
theorem good3 (P : Nat) (h0 : P ∈ periods 0) : goodOk false 0 P = true := by
  have h : P ∈ [8, 16, 32, 64, 128, 256] := h0
  have h : P = 8 ∨ P = 16 ∨ P = 32 ∨ P = 64 ∨ P = 128 ∨ P = 256 := by simpa using h
  rcases h with rfl | rfl | rfl | rfl | rfl | rfl
  · exact good_00_8
  · exact good_00_16
  · exact good_00_32
  · exact good_00_64
  · exact good_00_128
  · exact good_00_256
theorem good4 (P : Nat) (h0 : P ∈ periods 1) : goodOk false 1 P = true := by
  have h : P ∈ [8, 16, 32, 64, 128, 256] := h0
  have h : P = 8 ∨ P = 16 ∨ P = 32 ∨ P = 64 ∨ P = 128 ∨ P = 256 := by simpa using h
  rcases h with rfl | rfl | rfl | rfl | rfl | rfl
  · exact good_01_8
  · exact good_01_16
  · exact good_01_32
  · exact good_01_64
  · exact good_01_128
  · exact good_01_256
theorem good5 (P : Nat) (h0 : P ∈ periods 2) : goodOk false 2 P = true := by
  have h : P ∈ [1, 2, 4, 8, 16, 32, 64, 128, 256] := h0
  have h : P = 1 ∨ P = 2 ∨ P = 4 ∨ P = 8 ∨ P = 16 ∨ P = 32 ∨ P = 64 ∨ P = 128 ∨ P = 256 := by simpa using h
  rcases h with rfl | rfl | rfl | rfl | rfl | rfl | rfl | rfl | rfl
  · exact good_02_1
  · exact good_02_2
  · exact good_02_4
  · exact good_02_8
  · exact good_02_16
  · exact good_02_32
  · exact good_02_64
  · exact good_02_128
  · exact good_02_256
theorem start (h : Bytes p) : Start p id := by
  have hp := plain_ok
  unfold plainOk at hp
  simp only [Bool.and_eq_true] at hp
  obtain ⟨⟨⟨⟨⟨⟨⟨q0, q1⟩, q2⟩, q3⟩, q4⟩, q5⟩, q6⟩, q7⟩ := hp
  have hr0 := ring0_ok
  have hr2 := ring2_ok
  unfold ringOk at hr0 hr2
  simp only [Bool.and_eq_true] at hr0 hr2
  obtain ⟨⟨u0, u1⟩, u2⟩ := hr0
  obtain ⟨⟨v0, v1⟩, v2⟩ := hr2
  have hk0 := h.kind.1
  have hs0 := h.speed.1
  by_cases hs : 2 < p.speed
  · by_cases hk : 3 < p.kind
    · exact ⟨none, none, none, _, q0, (kind_ok hk).append (speed_ok hs), trivial, trivial, trivial⟩
    · have : p.kind = 0 ∨ p.kind = 1 ∨ p.kind = 2 ∨ p.kind = 3 := by omega
      rcases this with e | e | e | e
      · exact ⟨some 0, none, none, _, q1, speed_ok hs, e, trivial, trivial⟩
      · exact ⟨some 1, none, none, _, q2, speed_ok hs, e, trivial, trivial⟩
      · exact ⟨some 2, none, none, _, q3, speed_ok hs, e, trivial, trivial⟩
      · exact ⟨some 3, none, none, _, q4, speed_ok hs, e, trivial, trivial⟩
  · have hsp : p.speed = 0 ∨ p.speed = 1 ∨ p.speed = 2 := by omega
    by_cases hk : 3 < p.kind
    · rcases hsp with e | e | e
      · exact ⟨none, some 0, none, _, q5, kind_ok hk, trivial, e, trivial⟩
      · exact ⟨none, some 1, none, _, q6, kind_ok hk, trivial, e, trivial⟩
      · exact ⟨none, some 2, none, _, q7, kind_ok hk, trivial, e, trivial⟩
    · have hkk : p.kind = 0 ∨ p.kind = 1 ∨ p.kind = 2 ∨ p.kind = 3 := by omega
      rcases hkk with k | k | k | k
      · rcases hsp with e | e | e
        · exact ⟨some 0, some 0, none, _, u0, .nil, k, e, trivial⟩
        · exact ⟨some 0, some 1, none, _, u1, .nil, k, e, trivial⟩
        · exact ⟨some 0, some 2, none, _, u2, .nil, k, e, trivial⟩
      · rcases hsp with e | e | e
        · exact per_start (iso := true) (sp := 0) bad_10 (fun hl => absurd hl (by decide)) (fun h1 h2 => absurd (Int.le_trans h1 h2) (by decide)) k e (by omega) h
        · exact per_start (iso := true) (sp := 1) bad_11 (fun _ P hP => good1 P hP) (sz size_11 (by decide)) k e (by omega) h
        · exact per_start (iso := true) (sp := 2) bad_12 (fun _ P hP => good2 P hP) (sz size_12 (by decide)) k e (by omega) h
      · rcases hsp with e | e | e
        · exact ⟨some 2, some 0, none, _, v0, .nil, k, e, trivial⟩
        · exact ⟨some 2, some 1, none, _, v1, .nil, k, e, trivial⟩
        · exact ⟨some 2, some 2, none, _, v2, .nil, k, e, trivial⟩
      · rcases hsp with e | e | e
        · exact per_start (iso := false) (sp := 0) bad_00 (fun _ P hP => good3 P hP) (sz size_00 (by decide)) k e (by omega) h
        · exact per_start (iso := false) (sp := 1) bad_01 (fun _ P hP => good4 P hP) (sz size_01 (by decide)) k e (by omega) h
        · exact per_start (iso := false) (sp := 2) bad_02 (fun _ P hP => good5 P hP) (sz size_02 (by decide)) k e (by omega) h
end Go.Proofs.YtbmneikfcbbmmaaGreat.HX
end
