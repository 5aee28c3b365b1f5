/- Regions that draw their order: every order gives what the executor found; the executor is sound. -/
import Derived.Test.YtbmneikfcbbmmaaGreatFF
set_option linter.unusedVariables false
set_option linter.unusedSimpArgs false
set_option linter.unusedSectionVars false
section
namespace Go.Ab
variable {P : Program} {ρ : Val}
namespace DC
variable {c : DC} {D : Nat → Bool} {q : Nat} {F : Mem} {a : Act} {w : World} {i : Nat} {o : Oper}
/-- new memory -/
theorem new_run (hc : c.Ok P ρ) (h : DInv P ρ c D q F a w) (hr : Rdy c D i o) (hn : c.newRan P i) :
    ∃ u obj F', (execOp a.eval o).run P w = .ok (.value u) (w.alloc obj) ∧ DInv P ρ c (add D i) q F' (a.put o.dst u) (w.alloc obj) := by
  obtain ⟨as, hst, _⟩ := hc.as
  obtain ⟨hcl1, hran, hin⟩ := hn
  have hn : c.newRan P i := ⟨hcl1, hran, hin⟩
  obtain ⟨_, g, _, hit⟩ := hc.it i o hr.op
  obtain ⟨sr, hT, _, hnw, _⟩ := hit.ran hran
  have hcls : (c.op P o i).cls = 1 := by rw [← clo_eq hc hr.op]; exact hcl1
  obtain ⟨hb1, _, _⟩ := hnw hcls
  have hqi := q_le hc h hr (by omega)
  have hid : (c.tI i).s1.next = c.id i := hit.more.next
  -- the outcome
  have hres := res_at hc h hr (Em := F.sub (c.Y P q i)) (.refl _)
  rw [← op_mask (P := P) hr] at hT
  obtain ⟨v, b, s1', hm, hlive, hk, hw⟩ := alloc_ok hres hit.more.asm (by rw [op_mask hr]; exact hcls) hT
  have hk : some (v, s1'.new b) = some ((c.tI i).v, sr) := hk
  simp only [Option.some.injEq, Prod.mk.injEq] at hk
  obtain ⟨rfl, rfl⟩ := hk
  have hbb : b = (c.tI i).b := by
    have : (s1'.new b).heap.get (c.tI i).s1.next = some b := by
      show (s1'.heap.put s1'.next (some b)).get _ = _
      rw [hm.next, Trie.get_put, if_pos rfl]
    rw [hb1] at this
    exact (Option.some.inj this).symm
  subst hbb
  obtain ⟨obj, u, hrun, hE⟩ := hw w
  rw [hid] at hE
  -- its place
  have hnone : F.blk (c.id i) = none := by
    cases hF : F.blk (c.id i) with
    | none => rfl
    | some x =>
      rcases h.dom _ x hF with h1 | ⟨j, h1, h2, _, h3⟩
      · have := mono hc hqi (Nat.le_of_lt hin)
        unfold DC.bel DC.id at h1
        omega
      · have := id_inj hc hn h2 h3
        subst this
        rw [hr.new] at h1; cases h1
  have hFF : Mem.Le F (F.addAt (c.id i) w.heap.size 0 0) := Mem.le_addAt hnone
  have hnb : ¬ c.bel q (c.id i) := fun h1 => by
    have := mono hc hqi (Nat.le_of_lt hin)
    unfold DC.bel DC.id at h1
    omega
  have hsame : ∀ p, p ≠ c.id i → (F.addAt (c.id i) w.heap.size 0 0).blk p = F.blk p := fun p hp => by simp [Mem.addAt, hp]
  have hself : (F.addAt (c.id i) w.heap.size 0 0).blk (c.id i) = some (w.heap.size, 0) := by simp [Mem.addAt]
  have hq1 : Mem.Le (F.sub (c.bel q)) ((F.addAt (c.id i) w.heap.size 0 0).sub (c.bel q)) := Mem.sub_mono hFF fun _ _ _ hp => hp
  have hq2 : Mem.Le ((F.addAt (c.id i) w.heap.size 0 0).sub (c.bel q)) (F.sub (c.bel q)) := by
    refine ⟨fun p x hx => ?_, fun p x hx => ?_⟩
    · rw [Mem.sub_blk] at hx ⊢
      have hne : p ≠ c.id i := fun e => hnb (by rw [← e]; exact hx.1)
      rw [hsame p hne] at hx
      exact hx
    · rw [Mem.sub_blk] at hx
      have hne : p ≠ c.id i := fun e => hnb (by rw [← e]; exact hx.1)
      simp [Mem.sub, Mem.addAt, hne]
  have hXle : ∀ j, Mem.Le (F.sub (c.X P q j)) ((F.addAt (c.id i) w.heap.size 0 0).sub (c.X P q j)) := fun j => Mem.sub_mono hFF fun _ _ _ hp => hp
  have hEle : Mem.Le (F.sub (c.Y P q i)) ((F.addAt (c.id i) w.heap.size 0 0).sub (c.X P q i)) := Mem.sub_mono hFF fun p x _ hp => by
    rcases hp with hp | ⟨j, hj, hnj, rfl⟩
    · exact .inl hp
    · exact .inr ⟨j, .inr hj, hnj, rfl⟩
  obtain ⟨hcv, hBR⟩ := hE ((F.addAt (c.id i) w.heap.size 0 0).sub (c.X P q i)) hEle (Mem.sub_blk.2 ⟨.inr ⟨i, .inl rfl, hn, rfl⟩, hself⟩)
  obtain ⟨v1, v2⟩ := after_vals hc h hr (F' := F.addAt (c.id i) w.heap.size 0 0) (q' := q) hcv (fun j _ => hXle j)
  have idne : ∀ j, c.newRan P j → j ≠ i → c.id j ≠ c.id i := fun j hj hne e => hne (id_inj hc hj hn e)
  have old : ∀ j, add D i j = true → j ≠ i → D j = true := fun j hj hne => (add_iff.1 hj).resolve_left hne
  refine ⟨u, obj, F.addAt (c.id i) w.heap.size 0 0, by rw [exec_mask hc h hr]; exact hrun, add_cl h hr, add_lt h hr, h.qle, ?_, ?_, ((h.hr.congr2 hq1 hq2).grow obj), ((h.st.congr2 hq1 hq2).grow obj), ?_, ?_, ?_, v1, v2, by rw [Act.put_size]; exact h.size, by rw [Act.put_defers]; exact h.defs⟩
  · rcases h.qch with e | ⟨e1, e2⟩
    · exact .inl e
    · exact .inr ⟨e1, add_iff.2 (.inr e2)⟩
  · intro j hj hq
    have := h.above j hj hq
    have hne : j ≠ i := fun e => by subst e; omega
    simp [add, hne, this]
  · intro p x hx
    by_cases e : p = c.id i
    · exact .inr ⟨i, add_same, hn, hqi, e⟩
    · rw [hsame p e] at hx
      rcases h.dom p x hx with h' | ⟨j, e1, e2⟩
      · exact .inl h'
      · exact .inr ⟨j, add_iff.2 (.inr e1), e2⟩
  · intro j hj hnj hq
    by_cases e : j = i
    · subst e
      refine ⟨w.heap.size, hself, hBR (w.alloc obj) (heap_alloc_new w obj), hlive, by show _ < (w.heap.push obj).size; simp, h.st.size, ?_⟩
      intro p b o' hp hl hb he
      have hne : p ≠ c.id j := fun e => hnb (by rw [← e]; exact hb)
      rw [hsame p hne] at he
      obtain ⟨k', o2, e1, e2⟩ := (h.hr.blks p b hp).lt hl
      rw [Mem.sub_blk, he] at e1
      have := e1.2
      cases this
      exact Nat.lt_irrefl _ e2
    · obtain ⟨k, p1, p2, p3, p4, p5, p6⟩ := h.pend j (old j hj e) hnj hq
      refine ⟨k, by rw [hsame _ (idne j hnj e)]; exact p1, p2.congr (hXle j) fun k' o' _ he => ?_, p3, by show _ < (w.heap.push obj).size; simp; omega, p5, fun p b o' hp hl hb he => ?_⟩
      · rw [Mem.sub_blk, p1] at he
        cases he.2
        exact heap_alloc_lt _ _ _ p4
      · have hne : p ≠ c.id i := fun e => hnb (by rw [← e]; exact hb)
        rw [hsame p hne] at he
        exact p6 p b o' hp hl hb he
  · intro j j' k hj hj' hnj hnj' hq hq' e e'
    by_cases ej : j = i
    · by_cases ej' : j' = i
      · rw [ej, ej']
      · rw [ej, hself] at e
        cases e
        rw [hsame _ (idne j' hnj' ej')] at e'
        obtain ⟨k', p1, _, _, p4, _⟩ := h.pend j' (old j' hj' ej') hnj' hq'
        rw [e'] at p1; cases p1
        exact absurd p4 (Nat.lt_irrefl _)
    · rw [hsame _ (idne j hnj ej)] at e
      by_cases ej' : j' = i
      · rw [ej', hself] at e'
        cases e'
        obtain ⟨k', p1, _, _, p4, _⟩ := h.pend j (old j hj ej) hnj hq
        rw [e] at p1; cases p1
        exact absurd p4 (Nat.lt_irrefl _)
      · rw [hsame _ (idne j' hnj' ej')] at e'
        exact h.pinj j j' k (old j hj ej) (old j' hj' ej') hnj hnj' hq hq' e e'
end DC
end Go.Ab
end

section
namespace Go.Ab
variable {P : Program} {ρ : Val}
namespace DC
variable {c : DC} {D : Nat → Bool} {q : Nat} {F : Mem} {a : Act} {w : World} {i : Nat} {o : Oper}
theorem no_chain (hc : c.Ok P ρ) (h : DInv P ρ c D q F a w) (hr : Rdy c D i o) (h2 : c.clo P i = 2) : ∀ j, q ≤ j → j < i → c.clo P j ≠ 2 := by
  intro j hq hj hcj
  have := h.above j hcj hq
  rw [hr.all j (isChain hc h2 hj (by omega))] at this; cases this
theorem news_done (hc : c.Ok P ρ) (hr : Rdy c D i o) (h2 : c.clo P i = 2) : ∀ j, j < i → c.newRan P j → D j = true := fun j hj hn =>
  hr.all j (isChain hc h2 hj (by have := hn.1; omega))
open Classical in
/-- where all lies behind an effect -/
noncomputable def over (c : DC) (i : Nat) (E F : Mem) : Mem := ⟨fun p => if c.bel (i + 1) p then E.blk p else F.blk p, fun p => if c.bel (i + 1) p then E.cap p else F.cap p⟩
theorem over_in {E F : Mem} {p : Pos} (h : c.bel (i + 1) p) : (over c i E F).blk p = E.blk p ∧ (over c i E F).cap p = E.cap p := by simp [over, h]
theorem over_out {E F : Mem} {p : Pos} (h : ¬ c.bel (i + 1) p) : (over c i E F).blk p = F.blk p ∧ (over c i E F).cap p = F.cap p := by simp [over, h]
/-- an effect, once it is known what the memory is behind it -/
theorem chain_go (hc : c.Ok P ρ) (h : DInv P ρ c D q F a w) (hr : Rdy c D i o) (h2 : c.clo P i = 2) {u : Value} {w' : World} {E' : Mem}
    (hst : Step (F.sub (c.bel i)) ⟨(c.sg i).heap, (c.sg i).next, c.asm⟩ w E' ⟨(c.sg (i + 1)).heap, (c.sg (i + 1)).next, c.asm⟩ w')
    (hrel : HRel ρ E' ⟨(c.sg (i + 1)).heap, (c.sg (i + 1)).next, c.asm⟩ w') (hv : cv ρ E' (c.tI i).v = some u) :
    DInv P ρ c (add D i) (i + 1) (over c i E' F) (a.put o.dst u) w' := by
  have hin := rdy_lt hr
  have hqi := q_le hc h hr (by omega)
  have hno := no_chain hc h hr h2
  have hnews := news_done hc hr h2
  obtain ⟨hr0, hs0⟩ := absorb hc h hqi (Nat.le_of_lt hin) hno (fun j _ hj hn => hnews j hj hn)
  have hle1 : ∀ p, c.bel q p → c.bel i p := fun p hp => by have := mono hc hqi (Nat.le_of_lt hin); unfold DC.bel at *; omega
  have hle2 : ∀ p, c.bel i p → c.bel (i + 1) p := fun p hp => by have := step_mono hc hin; unfold DC.bel at *; omega
  have hni : ¬ c.newRan P i := fun hn => by have := hn.1; omega
  -- the blocks that wait behind
  have hout : ∀ j, c.newRan P j → i + 1 ≤ j → ¬ c.bel (i + 1) (c.id j) := fun j hn hj hb => by
    have := mono hc hj (Nat.le_of_lt hn.2.2)
    unfold DC.bel DC.id at hb
    omega
  have hbel : ∀ p x, F.blk p = some x → c.bel (i + 1) p → c.bel i p := by
    intro p x hx hb
    rcases h.dom p x hx with h1 | ⟨j, h1, h2', h3, rfl⟩
    · exact hle1 p h1
    · rcases Nat.lt_trichotomy j i with h4 | h4 | h4
      · exact id_lt hc h2' h4 (Nat.le_of_lt hin)
      · subst h4; exact absurd h2' hni
      · exact absurd hb (hout j h2' h4)
  have hFF : Mem.Le F (over c i E' F) := by
    refine ⟨fun p x hx => ?_, fun p x hx => ?_⟩
    · by_cases hb : c.bel (i + 1) p
      · rw [(over_in hb).1]
        exact hst.le.blk p x (Mem.sub_blk.2 ⟨hbel p x hx hb, hx⟩)
      · rw [(over_out hb).1]; exact hx
    · by_cases hb : c.bel (i + 1) p
      · rw [(over_in hb).2]
        exact hst.le.cap p x (Mem.sub_blk.2 ⟨hbel p x hx hb, hx⟩)
      · rw [(over_out hb).2]
  have hE1 : Mem.Le E' ((over c i E' F).sub (c.bel (i + 1))) := by
    have hb : ∀ p x, E'.blk p = some x → c.bel (i + 1) p := fun p x hx => hrel.free p x hx
    refine ⟨fun p x hx => Mem.sub_blk.2 ⟨hb p x hx, by rw [(over_in (hb p x hx)).1]; exact hx⟩, fun p x hx => (over_in (hb p x hx)).2⟩
  have hE2 : Mem.Le ((over c i E' F).sub (c.bel (i + 1))) E' := by
    refine ⟨fun p x hx => ?_, fun p x hx => ?_⟩
    · rw [Mem.sub_blk] at hx
      rw [(over_in hx.1).1] at hx
      exact hx.2
    · rw [Mem.sub_blk] at hx
      exact (over_in hx.1).2.symm
  have hqn : i + 1 ≤ c.ops.size := hin
  have hXle : ∀ j, Mem.Le (F.sub (c.X P q j)) ((over c i E' F).sub (c.X P (i + 1) j)) := fun j => Mem.sub_mono hFF fun p _ _ hp => X_mono hc (by omega) hqn hp
  obtain ⟨v1, v2⟩ := after_vals hc h hr (F' := over c i E' F) (q' := i + 1) (cv_mono (hE1.trans (Mem.sub_le fun p _ _ hp => .inl hp)) hv) (fun j _ => hXle j)
  have old : ∀ j, add D i j = true → i + 1 ≤ j → D j = true := fun j hj hij => (add_iff.1 hj).resolve_left (by omega)
  -- a live block of the state ahead is no waiting block
  have apart : ∀ j k, D j = true → c.newRan P j → i + 1 ≤ j → F.blk (c.id j) = some (k, 0) → ∀ p b o', (c.sg i).heap.get p = some b → Live b → (F.sub (c.bel i)).blk p ≠ some (k, o') := by
    intro j k hD hn hij hk p b o' hp hl he
    rw [Mem.sub_blk] at he
    obtain ⟨k', p1, _, _, _, _, p6⟩ := h.pend j hD hn (by omega)
    rw [hk] at p1; cases p1
    rcases heap_between hc hqi (Nat.le_of_lt hin) (fun j h1 h2 h3 => absurd h3 (hno j h1 h2)) hp with h3 | ⟨j', h3, h4, h5, rfl, rfl⟩
    · exact p6 p b o' h3 hl (h.hr.dom p b h3) he.2
    · have hD' := hnews j' h4 h5
      obtain ⟨k2, e1, _⟩ := h.pend j' hD' h5 h3
      rw [he.2] at e1
      cases e1
      have := h.pinj j' j k hD' hD h5 hn h3 (by omega) he.2 hk
      omega
  refine ⟨add_cl h hr, add_lt h hr, hqn, .inr ⟨by simpa using h2, by simp [add]⟩, ?_, hrel.congr2 hE1 hE2, (hs0.trans hst).congr2 hE1 hE2, ?_, ?_, ?_, v1, v2, by rw [Act.put_size]; exact h.size, by rw [Act.put_defers]; exact h.defs⟩
  · intro j hj hij
    have := h.above j hj (by omega)
    have hne : j ≠ i := by omega
    simp [add, hne, this]
  · intro p x hx
    by_cases hb : c.bel (i + 1) p
    · exact .inl hb
    · rw [(over_out hb).1] at hx
      rcases h.dom p x hx with h1 | ⟨j, h1, h3, h4, rfl⟩
      · exact absurd (hle2 p (hle1 p h1)) hb
      · refine .inr ⟨j, add_iff.2 (.inr h1), h3, ?_, rfl⟩
        rcases Nat.lt_trichotomy j i with h5 | h5 | h5
        · exact absurd (hle2 _ (id_lt hc h3 h5 (Nat.le_of_lt hin))) hb
        · subst h5; exact absurd h3 hni
        · exact h5
  · intro j hj hn hij
    have hD := old j hj hij
    obtain ⟨k, p1, p2, p3, p4, p5, p6⟩ := h.pend j hD hn (by omega)
    have hap := apart j k hD hn hij p1
    refine ⟨k, by rw [(over_out (hout j hn hij)).1]; exact p1, p2.congr (hXle j) fun k' o' _ he => ?_, p3, Nat.lt_of_lt_of_le p4 hst.size, p5, fun p b o' hp hl hb he => ?_⟩
    · rw [Mem.sub_blk, p1] at he
      cases he.2
      exact hst.frame _ p4 fun p b o' hp hl he' => hap p b o' hp hl he'
    · rw [(over_in hb).1] at he
      rcases hst.img p b k o' hp hl he with h5 | ⟨p', b', o2, h5, h6, h7⟩
      · omega
      · exact hap p' b' o2 h5 h6 h7
  · intro j j' k hj hj' hn hn' hij hij' e e'
    rw [(over_out (hout j hn hij)).1] at e
    rw [(over_out (hout j' hn' hij')).1] at e'
    exact h.pinj j j' k (old j hj hij) (old j' hj' hij') hn hn' (by omega) (by omega) e e'
/-- an effect that is left out -/
theorem chain_skip (hc : c.Ok P ρ) (h : DInv P ρ c D q F a w) (hr : Rdy c D i o) (h2 : c.clo P i = 2) (hran : (c.tI i).ran = false) : ∃ F', DInv P ρ c (add D i) (i + 1) F' (a.put o.dst undef) w := by
  have hin := rdy_lt hr
  have hqi := q_le hc h hr (by omega)
  obtain ⟨hr0, hs0⟩ := absorb hc h hqi (Nat.le_of_lt hin) (no_chain hc h hr h2) (fun j _ hj hn => news_done hc hr h2 j hj hn)
  obtain ⟨e1, e2⟩ := step_plain hc hin (fun _ => hran) (fun hn => by have := hn.1; omega)
  obtain ⟨_, g, _, hit⟩ := hc.it i o hr.op
  refine ⟨_, chain_go hc h hr h2 (E' := F.sub (c.bel i)) ?_ ?_ ?_⟩
  · rw [e1, e2]; exact .refl ..
  · rw [e1, e2]; exact hr0
  · rw [(hit.skip hran).1]; exact undefA_cv
/-- an effect that is carried out -/
theorem chain_run (hc : c.Ok P ρ) (h : DInv P ρ c D q F a w) (hr : Rdy c D i o) (h2 : c.clo P i = 2) (hran : (c.tI i).ran = true) :
    Yields P o a w fun u w' => ∃ F', DInv P ρ c (add D i) (i + 1) F' (a.put o.dst u) w' := by
  obtain ⟨as, hst, _⟩ := hc.as
  have hin := rdy_lt hr
  have hqi := q_le hc h hr (by omega)
  obtain ⟨hr0, hs0⟩ := absorb hc h hqi (Nat.le_of_lt hin) (no_chain hc h hr h2) (fun j _ hj hn => news_done hc hr h2 j hj hn)
  obtain ⟨_, g, _, hit⟩ := hc.it i o hr.op
  obtain ⟨sr, hT, _, _, hef⟩ := hit.ran hran
  have hcls : (c.op P o i).cls = 2 := by rw [← clo_eq hc hr.op]; exact h2
  obtain ⟨e1, e2, _⟩ := hef hcls
  rw [← sg_succ hc.len hin] at e1 e2
  have hYb : Mem.Le (F.sub (c.Y P q i)) (F.sub (c.bel i)) := Mem.sub_le fun p x _ hp => by
    rcases hp with hp | ⟨j, hj, hn, rfl⟩
    · have := mono hc hqi (Nat.le_of_lt hin)
      unfold DC.bel at *
      omega
    · exact id_lt hc hn (hst.lt hr.op hj) (Nat.le_of_lt hin)
  have hres := res_at hc h hr hYb
  have hm1 : More ρ ⟨(c.sg i).heap, (c.sg i).next, c.asm⟩ (c.tI i).s1 := ⟨hit.more.heap, hit.more.next, hit.more.asm⟩
  have hrs := hr0.more hm1
  rw [← op_mask (P := P) hr] at hT
  have hnd : isDefer o.op = false := hst.nodef o (by
    obtain ⟨h1, h2⟩ := Array.getElem?_eq_some_iff.1 hr.op
    rw [← h2]; exact Array.getElem_mem_toList _)
  have her := (op_ok hres hc.cdok hrs hnd hT).congr (exec_mask hc h hr)
  unfold ER at her
  unfold Yields YieldsR at her ⊢
  have key : ∀ u w', (∃ v s' E', cv ρ E' v = some u ∧ Step (F.sub (c.bel i)) (c.tI i).s1 w E' s' w' ∧ HRel ρ E' s' w' ∧ (okP v s').run ρ = some ((c.tI i).v, sr)) → ∃ F', DInv P ρ c (add D i) (i + 1) F' (a.put o.dst u) w' := by
    rintro u w' ⟨v, s', E', hv, hs, hr', hk⟩
    have hk : some (v, s') = some ((c.tI i).v, sr) := hk
    simp only [Option.some.injEq, Prod.mk.injEq] at hk
    obtain ⟨rfl, rfl⟩ := hk
    have hm2 : More ρ s' ⟨(c.sg (i + 1)).heap, (c.sg (i + 1)).next, c.asm⟩ := ⟨e1, e2, hc.asmok⟩
    exact ⟨_, chain_go hc h hr h2 (((Step.more hm1).trans hs).trans (.more hm2)) (hr'.more hm2) hv⟩
  generalize (execOp a.eval o).run P w = x at her
  cases x with
  | halt _ _ => exact her.elim
  | ok n w1 =>
    cases n <;> try (exact (her : False).elim)
    case value u => exact key _ _ her
    case skip => exact key _ _ her
    case enter f args =>
      refine Calls.mono (her : Calls P f args w1 _) ?_
      rintro e w'' ⟨u, rfl, hu⟩
      exact ⟨u, rfl, key _ _ hu⟩
    case round l f tmps assign body =>
      refine RoundIn.mono (her : RoundIn Fence.wide 0 P l f tmps assign body w1 _) ?_
      rintro e w'' ⟨u, rfl, hu⟩
      exact ⟨u, rfl, key _ _ hu⟩
end DC
end Go.Ab
end

section
namespace Go.Ab
variable {P : Program} {ρ : Val}
/-- how many operations are left -/
def cntF (D : Nat → Bool) : Nat → Nat
  | 0 => 0
  | n + 1 => cntF D n + (if D n = true then 0 else 1)
theorem cntF_congr {D D' : Nat → Bool} : ∀ n, (∀ j, j < n → D j = D' j) → cntF D n = cntF D' n
  | 0, _ => rfl
  | n + 1, h => by unfold cntF; rw [cntF_congr n fun j hj => h j (by omega), h n (by omega)]
theorem cntF_add {D : Nat → Bool} {i : Nat} (hD : D i = false) : ∀ n, i < n → cntF (DC.add D i) n + 1 = cntF D n
  | 0, h => by omega
  | n + 1, h => by
    unfold cntF
    by_cases e : i = n
    · subst e
      rw [cntF_congr i (D := DC.add D i) (D' := D) fun j hj => by simp [DC.add]; omega]
      simp [DC.add, hD]
    · have := cntF_add hD n (by omega)
      have h2 : DC.add D i n = D n := by simp [DC.add]; omega
      rw [h2]; omega
theorem cntF_zero {D : Nat → Bool} : ∀ n, cntF D n = 0 → ∀ j, j < n → D j = true
  | 0, _, j, hj => by omega
  | n + 1, h, j, hj => by
    unfold cntF at h
    have h1 : D n = true := Classical.byContradiction fun h' => by rw [if_neg h'] at h; omega
    by_cases e : j = n
    · subst e; exact h1
    · exact cntF_zero n (by omega) j (by omega)
theorem cntF_all {D : Nat → Bool} : ∀ n, (∀ j, j < n → D j = false) → cntF D n = n
  | 0, _ => rfl
  | n + 1, h => by unfold cntF; rw [cntF_all n fun j hj => h j (by omega), h n (by omega)]; simp
namespace DC
variable {c : DC} {D : Nat → Bool} {q : Nat} {F : Mem} {a : Act} {w : World} {i : Nat} {o : Oper}
theorem ready_rdy (hc : c.Ok P ρ) {listed : Array Bool} (hs : listed.size = c.ops.size) (h : DInv P ρ c (fun j => listed.getD j false) q F a w) (hi : i ∈ Region.ready .any c.ops listed) : ∃ o, Rdy c (fun j => listed.getD j false) i o := by
  obtain ⟨as, hst, _⟩ := hc.as
  unfold Region.ready at hi
  rw [List.mem_filter] at hi
  obtain ⟨hin, hi⟩ := hi
  have hin : i < c.ops.size := by simpa using hin
  simp only [Bool.and_eq_true] at hi
  obtain ⟨h1, h2⟩ := hi
  have ho : c.ops[i]? = some c.ops[i] := Array.getElem?_eq_getElem hin
  rw [ho] at h2
  simp only [Option.map_some, Option.getD_some] at h2
  have hall : ∀ e ∈ c.ops[i].after, Region.binds .any e = true → listed.getD e.on false = true := by
    intro e he hb
    have := (Array.all_eq_true'.1 h2) e he
    rw [hb] at this
    simpa using this
  refine ⟨c.ops[i], ho, ?_, fun j hj => ?_⟩
  · have hlt : i < listed.size := by omega
    simp [Array.getD_eq_getD_getElem?, hlt] at h1 ⊢
    exact h1
  · obtain ⟨e, he, hb, _, hor⟩ := hst.inv i _ j ho hj
    rcases hor with rfl | hbit
    · exact hall e he hb
    · exact h.cl _ (hall e he hb) j hbit
theorem ready_nil (hc : c.Ok P ρ) {listed : Array Bool} (hs : listed.size = c.ops.size) (h : Region.ready .any c.ops listed = []) : ∀ j, j < c.ops.size → listed.getD j false = true := by
  obtain ⟨as, hst, _⟩ := hc.as
  intro j
  induction j using Nat.strongRecOn with
  | _ j ih =>
    intro hj
    refine Classical.byContradiction fun hn => ?_
    have hmem : j ∈ Region.ready .any c.ops listed := by
      unfold Region.ready
      rw [List.mem_filter]
      refine ⟨by simpa using hj, ?_⟩
      have hlt : j < listed.size := by omega
      have ho : c.ops[j]? = some c.ops[j] := Array.getElem?_eq_getElem hj
      rw [ho]
      simp only [Option.map_some, Option.getD_some, Bool.and_eq_true]
      refine ⟨?_, ?_⟩
      · simp [Array.getD_eq_getD_getElem?, hlt] at hn ⊢
        exact hn
      · rw [Array.all_eq_true']
        intro e he
        cases hb : Region.binds .any e with
        | false => rfl
        | true =>
          obtain ⟨h1, _⟩ := hst.on j _ e ho he hb
          simpa using ih e.on h1 (by omega)
    rw [h] at hmem; cases hmem
/-- any order -/
theorem any_ok {rd : Option Nat} (hc : c.Ok P ρ) {Q : Exit → Act → World → Prop} (hQ : ∀ D q F a w, DInv P ρ c D q F a w → (∀ j, j < c.ops.size → D j = true) → Q .normal a w) : ∀ (fuel : Nat) (listed : Array Bool) (q : Nat) (F : Mem) (a : Act) (w : World),
    listed.size = c.ops.size → cntF (fun j => listed.getD j false) c.ops.size = fuel → DInv P ρ c (fun j => listed.getD j false) q F a w → wpAnyIn (Fw rd) 0 P .any c.ops Q fuel listed a w
  | 0, listed, q, F, a, w, hs, hf, h => by
    have hall := cntF_zero _ hf
    refine ⟨?_, hQ _ q F a w h hall⟩
    unfold Region.ready
    rw [List.filter_eq_nil_iff]
    intro j hj
    have hj : j < c.ops.size := by simpa using hj
    have := hall j hj
    have hlt : j < listed.size := by omega
    simp [Array.getD_eq_getD_getElem?, hlt] at this ⊢
    simp [this]
  | fuel + 1, listed, q, F, a, w, hs, hf, h => by
    refine ⟨fun hr => hQ _ q F a w h (ready_nil hc hs hr), fun i hi => ?_⟩
    obtain ⟨o, hr⟩ := ready_rdy hc hs h hi
    have hin := rdy_lt hr
    have hset : (fun j => (listed.setIfInBounds i true).getD j false) = add (fun j => listed.getD j false) i := by
      funext j
      have hlt : i < listed.size := by omega
      by_cases e : j = i
      · subst e; simp [add, Array.getD_eq_getD_getElem?, hlt]
      · simp [add, e, Array.getD_eq_getD_getElem?, Array.getElem?_setIfInBounds, Ne.symm e]
    have next : ∀ q' F' a' w', DInv P ρ c (add (fun j => listed.getD j false) i) q' F' a' w' → wpAnyIn (Fw rd) 0 P .any c.ops Q fuel (listed.setIfInBounds i true) a' w' := by
      intro q' F' a' w' h'
      refine any_ok hc hQ fuel _ q' F' a' w' (by simpa using hs) ?_ (by rw [hset]; exact h')
      rw [hset]
      have := cntF_add (D := fun j => listed.getD j false) hr.new c.ops.size hin
      omega
    unfold wpOpIn
    rw [hr.op]
    simp only
    rw [wanted_at hc h hr]
    obtain ⟨_, g, _, hit⟩ := hc.it i o hr.op
    have hnd : ∀ x, o.op ≠ .defer x := fun x hx => by
      obtain ⟨as, hst, _⟩ := hc.as
      have h3 := hst.nodef o (by
        obtain ⟨h1, h2⟩ := Array.getElem?_eq_some_iff.1 hr.op
        rw [← h2]; exact Array.getElem_mem_toList _)
      rw [hx] at h3; cases h3
    cases hran : (c.tI i).ran with
    | true =>
      rw [if_pos rfl]
      rcases cls_le (c.op P o i) with h0 | h1 | h2
      · have h0' : c.clo P i = 0 := by rw [clo_eq hc hr.op]; exact h0
        obtain ⟨u, hrun, hv⟩ := quiet_run hc h hr h0' hran
        refine (Yields.value hrun (R := fun u' w' => u' = u ∧ w' = w) ⟨rfl, rfl⟩).wpIn (rd := rd) (.inr hnd) ?_
        rintro _ _ ⟨rfl, rfl⟩
        exact next _ _ _ _ (tr_value hc h hr (by omega) (fun hn => by have := hn.1; omega) hv)
      · have h1' : c.clo P i = 1 := by rw [clo_eq hc hr.op]; exact h1
        obtain ⟨u, obj, F', hrun, hinv⟩ := new_run hc h hr ⟨h1', hran, hin⟩
        refine (Yields.value hrun (R := fun u' w' => u' = u ∧ DInv P ρ c (add (fun j => listed.getD j false) i) q F' (a.put o.dst u') w') ⟨rfl, hinv⟩).wpIn (rd := rd) (.inr hnd) ?_
        rintro u2 w2 ⟨_, hinv2⟩
        exact next _ _ _ _ hinv2
      · have h2' : c.clo P i = 2 := by rw [clo_eq hc hr.op]; exact h2
        refine (chain_run hc h hr h2' hran).wpIn (rd := rd) (.inr hnd) fun u w' ⟨F', hinv⟩ => ?_
        exact next _ _ _ _ hinv
    | false =>
      rw [if_neg (by simp)]
      by_cases h2 : c.clo P i = 2
      · obtain ⟨F', hinv⟩ := chain_skip hc h hr h2 hran
        exact ⟨fun f _ => fw_fn rd f, next _ _ _ _ hinv⟩
      · refine ⟨fun f _ => fw_fn rd f, next _ _ _ _ (tr_value hc h hr h2 (fun hn => by have := hn.2.1; rw [hran] at this; cases this) ?_)⟩
        rw [(hit.skip hran).1]; exact undefA_cv
theorem init_inv {hc : c.Ok P ρ} (hr : HRel ρ c.Ei c.s0 c.w0) : DInv P ρ c (fun _ => false) 0 c.Ei c.a0 c.w0 := by
  have e0 : c.sg 0 = c.s0 := sg_zero
  have hb : ∀ p x, c.Ei.blk p = some x → c.bel 0 p := fun p x hx => by
    unfold DC.bel; rw [e0]; exact hr.free p x hx
  have h1 : Mem.Le c.Ei (c.Ei.sub (c.bel 0)) := ⟨fun p x hx => Mem.sub_blk.2 ⟨hb p x hx, hx⟩, fun _ _ _ => rfl⟩
  have h2 : Mem.Le (c.Ei.sub (c.bel 0)) c.Ei := ⟨fun p x hx => (Mem.sub_blk.1 hx).2, fun _ _ _ => rfl⟩
  have hm : More ρ c.s0 ⟨(c.sg 0).heap, (c.sg 0).next, c.asm⟩ := by rw [e0]; exact ⟨rfl, rfl, hc.asmok⟩
  refine ⟨fun j h => (by cases h), fun j h => (by cases h), Nat.zero_le _, .inl rfl, fun _ _ _ => rfl, (hr.more hm).congr2 h1 h2, (Step.more hm).congr2 h1 h2, fun p x hx => .inl (hb p x hx), fun j h => (by cases h), fun j j' k h => (by cases h), fun i o t h => (by cases h), fun t _ => rfl, hc.frel.size, rfl⟩
end DC
end Go.Ab
end

section
namespace Go.Ab
variable {P : Program} {ρ : Val}

/-! ### the data of the region, from the run -/
theorem trOps_length {nt mask : Nat} {ops : Array Oper} : ∀ (l : List Oper) (ds : List (Option Nat)), (trOps P nt mask ops l ds).length = l.length
  | [], _ => rfl
  | o :: l, ds => by
    have : trOps P nt mask ops (o :: l) ds = trOper P nt mask ops ds o :: trOps P nt mask ops l (o.dst :: ds) := rfl
    rw [this]; simp [trOps_length l]
theorem trOps_at {nt mask : Nat} {ops : Array Oper} : ∀ (l : List Oper) (ds : List (Option Nat)) (i : Nat) (o : Oper), l[i]? = some o → (trOps P nt mask ops l ds)[i]? = some (trOper P nt mask ops (((l.take i).map (·.dst)).reverse ++ ds) o)
  | [], _, i, o, h => by simp at h
  | o' :: l, ds, 0, o, h => by
    simp at h; subst h
    rfl
  | o' :: l, ds, i + 1, o, h => by
    have e : trOps P nt mask ops (o' :: l) ds = trOper P nt mask ops ds o' :: trOps P nt mask ops l (o'.dst :: ds) := rfl
    rw [e]
    simp only [List.getElem?_cons_succ]
    rw [trOps_at l (o'.dst :: ds) i o (by simpa using h)]
    simp
theorem snaps_at : ∀ (ls : List AV) (ts : List TI) (i : Nat) (t : TI), ts[i]? = some t → (snaps ls ts)[i]? = some ⟨t.ran, lsAt ls ts i, t.v⟩
  | ls, [], i, t, h => by simp at h
  | ls, t' :: ts, 0, t, h => by simp at h; subst h; simp [snaps, lsAt]
  | ls, t' :: ts, i + 1, t, h => by
    have := snaps_at (t'.v :: ls) ts i t (by simpa using h)
    have e1 : lsAt ls (t' :: ts) (i + 1) = lsAt (t'.v :: ls) ts i := by simp [lsAt]
    rw [e1]
    simpa [snaps] using this
theorem winsFrom_at {b chain : List Nat} : ∀ (l : List Nat) (n i m : Nat), l[i]? = some m → (winsFrom b chain l n)[i]? = some (winOf b chain (n + i) m)
  | [], n, i, m, h => by simp at h
  | m' :: l, n, 0, m, h => by simp at h; subst h; rfl
  | m' :: l, n, i + 1, m, h => by
    have e : winsFrom b chain (m' :: l) n = winOf b chain n m' :: winsFrom b chain l (n + 1) := rfl
    rw [e]
    simp only [List.getElem?_cons_succ]
    rw [winsFrom_at l (n + 1) i m (by simpa using h)]
    congr 2; omega
theorem checkD_at {fr : Fr} {nx : Pos} {asm : List (BE × Bool)} {sts : List St} {ns : List New} : ∀ {as : List AOper} {xs : List Snap} {ws : List Win}, checkD P fr nx asm sts ns as xs ws = true →
    ∀ (i : Nat) (ao : AOper) (x : Snap) (w : Win), as[i]? = some ao → xs[i]? = some x → ws[i]? = some w → ao.op.cls = 0 → x.ran = true → sameIn P ao.op x.ls fr x.val nx asm w.m ns (window w.lo w.hi sts) = true
  | [], xs, ws, _, i, ao, x, w, h, _, _, _, _ => by simp at h
  | _ :: _, [], ws, _, i, ao, x, w, _, h, _, _, _ => by simp at h
  | _ :: _, _ :: _, [], _, i, ao, x, w, _, _, h, _, _ => by simp at h
  | o :: as, x' :: xs, w' :: ws, h, i, ao, x, w, h1, h2, h3, h4, h5 => by
    unfold checkD at h
    simp only [Bool.and_eq_true] at h
    cases i with
    | zero =>
      simp at h1 h2 h3
      subst h1 h2 h3
      have := h.1
      rw [h4, h5] at this
      exact this
    | succ i => exact checkD_at h.2 i ao x w (by simpa using h1) (by simpa using h2) (by simpa using h3) h4 h5
theorem sameIn_mem {o : AOp} {ls : List AV} {fr : Fr} {v : AV} {nx : Pos} {asm : List (BE × Bool)} {m : Nat} {ns : List New} : ∀ {l : List St}, sameIn P o ls fr v nx asm m ns l = true → ∀ s ∈ l,
    isOkSame v (evOp P o callNo ls fr ⟨addNews m s.next.nat ns s.heap, nx, asm⟩ okU) = true
  | [], _, s, hs => by cases hs
  | s' :: l, h, s, hs => by
    have h : (isOkSame v (evOp P o callNo ls fr ⟨addNews m s'.next.nat ns s'.heap, nx, asm⟩ okU) && sameIn P o ls fr v nx asm m ns l) = true := h
    simp only [Bool.and_eq_true] at h
    rcases List.mem_cons.1 hs with rfl | hs
    · exact h.1
    · exact sameIn_mem h.2 s hs
theorem window_mem {sts : List St} {lo hi k : Nat} {s : St} (hk : sts[k]? = some s) (h1 : lo ≤ k) (h2 : k ≤ hi) : s ∈ window lo hi sts := by
  unfold window
  have : ((sts.drop lo).take (hi + 1 - lo))[k - lo]? = some s := by
    rw [List.getElem?_take, if_pos (by omega), List.getElem?_drop, show lo + (k - lo) = k from by omega]
    exact hk
  exact List.mem_of_getElem? this
theorem filter_le {p q : Nat → Bool} : ∀ (l : List Nat), (∀ x ∈ l, p x = true → q x = true) → (l.filter p).length ≤ (l.filter q).length
  | [], _ => by simp
  | x :: l, h => by
    have ih := filter_le l fun y hy => h y (List.mem_cons_of_mem _ hy)
    cases hp : p x with
    | true =>
      have hq := h x (List.mem_cons_self ..) hp
      simp [hp, hq]; exact ih
    | false =>
      cases hq : q x with
      | true => simp [hp, hq]; omega
      | false => simp [hp, hq]; exact ih
theorem chainOf_mem : ∀ (l : List AOper) (n j : Nat), j ∈ chainOf l n → n ≤ j ∧ ∃ o, l[j - n]? = some o ∧ o.op.cls = 2
  | [], n, j, h => by cases h
  | o :: l, n, j, h => by
    have h : j ∈ (bif Nat.beq o.op.cls 2 then n :: chainOf l (n + 1) else chainOf l (n + 1)) := h
    have lift : j ∈ chainOf l (n + 1) → n ≤ j ∧ ∃ o', (o :: l)[j - n]? = some o' ∧ o'.op.cls = 2 := fun h => by
      obtain ⟨h1, o', h2, h3⟩ := chainOf_mem l (n + 1) j h
      exact ⟨by omega, o', by rw [show j - n = (j - (n + 1)) + 1 from by omega]; simpa using h2, h3⟩
    cases hb : Nat.beq o.op.cls 2 with
    | true =>
      rw [hb] at h
      rcases List.mem_cons.1 h with rfl | h
      · exact ⟨Nat.le_refl _, o, by simp, by simpa using hb⟩
      · exact lift h
    | false => rw [hb] at h; exact lift h
/-- the state behind an effect, among the states -/
theorem chainSts_at : ∀ (as : List AOper) (ts : List TI) (n j : Nat) (t : TI), ts.length = as.length → n ≤ j → (∃ o, as[j - n]? = some o ∧ o.op.cls = 2) → ts[j - n]? = some t →
    ∃ k, ((chainOf as n).filter fun x => decide (x < j + 1)).length = k + 1 ∧ (chainSts as ts)[k]? = some t.s2
  | [], ts, n, j, t, _, _, ⟨o, h, _⟩, _ => by simp at h
  | o :: as, [], n, j, t, h, _, _, _ => by simp at h
  | o :: as, t' :: ts, n, j, t, hl, hnj, ⟨o', h1, h2⟩, h3 => by
    have e1 : chainOf (o :: as) n = (bif Nat.beq o.op.cls 2 then n :: chainOf as (n + 1) else chainOf as (n + 1)) := rfl
    by_cases e : j = n
    · subst e
      simp at h1 h3
      subst h1 h3
      have hnil : (chainOf as (j + 1)).filter (fun x => decide (x < j + 1)) = [] := by
        rw [List.filter_eq_nil_iff]
        intro x hx
        have := (chainOf_mem as (j + 1) x hx).1
        simp; omega
      refine ⟨0, ?_, ?_⟩
      · rw [e1, h2]
        simp [hnil]
      · simp [chainSts, h2]
    · obtain ⟨k, hk1, hk2⟩ := chainSts_at as ts (n + 1) j t (by simpa using hl) (by omega) ⟨o', by rw [show j - n = (j - (n + 1)) + 1 from by omega] at h1; simpa using h1, h2⟩ (by rw [show j - n = (j - (n + 1)) + 1 from by omega] at h3; simpa using h3)
      cases hb : Nat.beq o.op.cls 2 with
      | true =>
        refine ⟨k + 1, ?_, ?_⟩
        · rw [e1, hb]
          simp only [cond_true, List.filter_cons]
          rw [if_pos (by simp; omega)]
          simp [hk1]
        · simp only [chainSts, hb, cond_true, List.singleton_append, List.getElem?_cons_succ]
          exact hk2
      | false =>
        refine ⟨k, ?_, ?_⟩
        · rw [e1, hb]; exact hk1
        · simp only [chainSts, hb, cond_false, List.nil_append]
          exact hk2
theorem trace_asm {cd : CallT (AV × St)} {fr : Fr} : ∀ {as : List AOper} {ls : List AV} {s : St} {ts : List TI}, TraceOk P ρ cd fr as ls s ts → AsmOk ρ s.asm → AsmOk ρ (sFin s ts).asm
  | [], _, s, [], _, ha => ha
  | [], _, _, _ :: _, h, _ => h.elim
  | _ :: _, _, _, [], h, _ => h.elim
  | _ :: _, _, s, t :: ts, h, _ => by
    have := trace_asm h.2 h.1.asm
    exact this
theorem item_next {cd : CallT (AV × St)} {fr : Fr} {o : AOper} {ls : List AV} {s : St} {t : TI} (h : ItemOk P ρ cd fr o ls s t) : s.next.toNat ≤ t.s2.next.toNat := by
  cases hr : t.ran with
  | false => rw [(h.skip hr).2, h.more.next]; exact Nat.le_refl _
  | true =>
    obtain ⟨sr, _, h0, h1, h2⟩ := h.ran hr
    rcases cls_le o.op with hc | hc | hc
    · rw [(h0 hc).2, h.more.next]; exact Nat.le_refl _
    · rw [(h1 hc).2.2, Pos.toNat_succ, h.more.next]; omega
    · rw [(h2 hc).2.1, ← h.more.next]; exact (h2 hc).2.2
theorem trace_next {cd : CallT (AV × St)} {fr : Fr} : ∀ {as : List AOper} {ls : List AV} {s : St} {ts : List TI}, TraceOk P ρ cd fr as ls s ts → ∀ i, (sFin s (ts.take i)).next.toNat ≤ (sFin s ts).next.toNat
  | [], _, s, [], _, i => by simp [sFin]
  | [], _, _, _ :: _, h, _ => h.elim
  | _ :: _, _, _, [], h, _ => h.elim
  | _ :: as, _, s, t :: ts, h, 0 => by
    have h1 := item_next h.1
    have h2 := trace_next h.2 0
    simp [sFin] at h2 ⊢
    omega
  | _ :: _, _, _, t :: ts, h, i + 1 => by
    have := trace_next h.2 i
    simpa [sFin] using this
/-- what the frame holds at the end -/
theorem storeAll_get {p : Pos} {v : AV} : ∀ (as : List AOper) (xs : List Snap) (fr : Fr), (storeAll fr as xs).tmps.get p = some v →
    (∃ (i : Nat) (ao : AOper) (x : Snap), as[i]? = some ao ∧ xs[i]? = some x ∧ ao.dst = some p ∧ x.val = v) ∨ (fr.tmps.get p = some v ∧ ∀ (i : Nat) (ao : AOper) (x : Snap), as[i]? = some ao → xs[i]? = some x → ao.dst ≠ some p)
  | [], _, fr, h => .inr ⟨h, fun i ao x h1 => by simp at h1⟩
  | _ :: _, [], fr, h => .inr ⟨h, fun i ao x _ h2 => by simp at h2⟩
  | o :: as, x :: xs, fr, h => by
    have h : (storeAll (fr.store o.dst x.val) as xs).tmps.get p = some v := h
    rcases storeAll_get as xs _ h with ⟨i, ao, x', h1, h2, h3, h4⟩ | ⟨h1, h2⟩
    · exact .inl ⟨i + 1, ao, x', by simpa using h1, by simpa using h2, h3, h4⟩
    · cases hd : o.dst with
      | none =>
        rw [hd] at h1
        refine .inr ⟨h1, fun i ao x' h3 h4 => ?_⟩
        cases i with
        | zero => simp at h3; subst h3; rw [hd]; simp
        | succ i => exact h2 i ao x' (by simpa using h3) (by simpa using h4)
      | some d =>
        rw [hd] at h1
        have h1 : (fr.tmps.put d (some x.val)).get p = some v := h1
        rw [Trie.get_put] at h1
        by_cases e : p = d
        · rw [if_pos e] at h1
          exact .inl ⟨0, o, x, rfl, rfl, by rw [hd, e], Option.some.inj h1⟩
        · rw [if_neg e] at h1
          refine .inr ⟨h1, fun i ao x' h3 h4 => ?_⟩
          cases i with
          | zero => simp at h3; subst h3; rw [hd]; simpa using fun e' => e e'.symm
          | succ i => exact h2 i ao x' (by simpa using h3) (by simpa using h4)
theorem storeAll_defs : ∀ (as : List AOper) (xs : List Snap) (fr : Fr), (storeAll fr as xs).defs = fr.defs
  | [], _, _ => rfl
  | _ :: _, [], _ => rfl
  | o :: as, x :: xs, fr => by
    have : storeAll fr (o :: as) (x :: xs) = storeAll (fr.store o.dst x.val) as xs := rfl
    rw [this, storeAll_defs as xs]
    cases o.dst <;> rfl
end Go.Ab
end

section
namespace Go.Ab
variable {P : Program} {ρ : Val}

theorem nxt_tI (c : DC) {i : Nat} {t : TI} (h : c.ts[i]? = some t) : c.tI i = t := by unfold DC.tI; rw [h]; rfl
theorem drawSound (hm : P.follows .mixedOrders = true) : DrawSound P := by
  intro β ρ cd nt mask id ops fr s E w a r K Q rd hcd hok h hr hf hQ
  refine wpIn_region_any hm ?_
  obtain ⟨ts, htr, h⟩ := runD_trace (trOps P nt mask ops ops.toList []) ⟨0, [], [], [s], []⟩ s h hr.asm
  obtain ⟨hchk, h⟩ := run_guardB h
  have hal : (trOps P nt mask ops ops.toList []).length = ops.size := by rw [trOps_length]; simp
  have htl : ts.length = (trOps P nt mask ops ops.toList []).length := htr.length
  have htn : ts.length = ops.size := by rw [htl, hal]
  have hasm := trace_asm htr hr.asm
  rw [dFin_sts _ _ _ htl, dFin_xs _ _ _ htl] at hchk
  rw [dFin_xs _ _ _ htl] at h
  simp only [List.reverse_cons, List.reverse_nil, List.nil_append, List.singleton_append] at hchk h
  have hstat := stat_of hal hok
  let c : DC := { nt := nt, mask := mask, ops := ops, bm := fun j => nthM j (masksOf ops.toList [] 0).reverse, fr := fr, Ei := E, s0 := s, w0 := { w with drawn := w.drawn + 1 }, a0 := a, ts := ts, cd := cd,
                  asm := (sFin s ts).asm, nx := (sFin s ts).next, ns := (dFin (trOps P nt mask ops ops.toList []) ⟨0, [], [], [s], []⟩ ts).ns }
  have hat : ∀ (i : Nat) (o : Oper), ops[i]? = some o → (trOps P nt mask ops ops.toList [])[i]? = some (trOper P nt mask ops (dsAt ops i) o) := fun i o ho => by
    have := trOps_at (P := P) (nt := nt) (mask := mask) (ops := ops) ops.toList [] i o (by rw [Array.getElem?_toList]; exact ho)
    rw [this]; simp [dsAt]
  have hget : ∀ (i : Nat), i < ops.size → ∃ t, ts[i]? = some t := fun i hi => ⟨_, List.getElem?_eq_getElem (by omega)⟩
  -- every operation is of its proper form
  have hit : ∀ (i : Nat) (o : Oper) (t : TI), ops[i]? = some o → ts[i]? = some t → dstOk nt o.dst = true ∧ ∃ g, trGuard ops (dsAt ops i) o.guard = some g ∧
      trOper P nt mask ops (dsAt ops i) o = ⟨trDst mask o.dst, g, trOp P (dsAt ops i) o.op, isDefer o.op⟩ ∧ ItemOk P ρ cd fr ⟨trDst mask o.dst, g, trOp P (dsAt ops i) o.op, isDefer o.op⟩ (lsAt [] ts i) (sFin s (ts.take i)) t := by
    intro i o t ho ht
    have hI := htr.at i _ t (hat i o ho) ht
    have bad : ∀ n, ¬ ItemOk P ρ cd fr ⟨none, none, .no n, false⟩ (lsAt [] ts i) (sFin s (ts.take i)) t := fun n hI => by
      have hran : t.ran = true := hI.guard
      obtain ⟨sr, hT, _⟩ := hI.ran hran
      cases hT
    unfold trOper at hI ⊢
    cases hd : dstOk nt o.dst with
    | false => rw [hd] at hI; exact absurd hI (bad 361)
    | true =>
      rw [hd] at hI
      simp only [cond_true] at hI ⊢
      cases hg : trGuard ops (dsAt ops i) o.guard with
      | none => rw [hg] at hI; exact absurd hI (bad 360)
      | some g =>
        rw [hg] at hI
        exact ⟨trivial, g, rfl, rfl, hI⟩
  have hclo : ∀ (i : Nat) (o : Oper), ops[i]? = some o → c.clo P i = (trOp P (dsAt ops i) o.op).cls := fun i o ho => by
    show (match ops[i]? with | some o => (c.op P o i).cls | none => 0) = _
    rw [ho]; rfl
  have hop : ∀ (i : Nat) (o : Oper), ops[i]? = some o → ∃ ao, (trOps P nt mask ops ops.toList [])[i]? = some ao ∧ ao.op = trOp P (dsAt ops i) o.op := fun i o ho => by
    obtain ⟨t, ht⟩ := hget i (Array.getElem?_eq_some_iff.1 ho).1
    obtain ⟨_, g, _, e, _⟩ := hit i o t ho ht
    exact ⟨_, hat i o ho, by rw [e]⟩
  have hchain2 : ∀ (j : Nat), j ∈ chainOf (trOps P nt mask ops ops.toList []) 0 → c.clo P j = 2 := fun j hj => by
    obtain ⟨_, o', h1, h2⟩ := chainOf_mem _ 0 j hj
    simp only [Nat.sub_zero] at h1
    have hjn : j < ops.size := by rw [← hal]; exact (List.getElem?_eq_some_iff.1 h1).1
    have ho : ops[j]? = some ops[j] := Array.getElem?_eq_getElem hjn
    obtain ⟨ao, h3, h4⟩ := hop j _ ho
    rw [h1] at h3; cases h3
    rw [hclo j _ ho, ← h4]; exact h2
  have hc : c.Ok P ρ := by
    refine ⟨hcd, ⟨_, hstat, hop⟩, htn, ?_, hf, hasm, ?_, ?_, ?_⟩
    · intro i o ho
      obtain ⟨t, ht⟩ := hget i (Array.getElem?_eq_some_iff.1 ho).1
      obtain ⟨h1, g, h2, _, h3⟩ := hit i o t ho ht
      refine ⟨h1, g, h2, ?_⟩
      rw [nxt_tI c ht]
      exact h3
    · intro n
      rw [show n ∈ c.ns ↔ _ from dFin_ns _ _ _ htl n]
      constructor
      · rintro (hn | ⟨i, ao, t, h1, h2, h3, h4, h5⟩)
        · cases hn
        · have hin : i < ops.size := by rw [← hal]; exact (List.getElem?_eq_some_iff.1 h1).1
          have ho : ops[i]? = some ops[i] := Array.getElem?_eq_getElem hin
          obtain ⟨_, g, _, e, hI⟩ := hit i _ t ho h2
          obtain ⟨ao', h6, h7⟩ := hop i _ ho
          rw [h1] at h6; cases h6
          refine ⟨i, ⟨by rw [hclo i _ ho, ← h7]; exact h3, by rw [nxt_tI c h2]; exact h4, hin⟩, ?_⟩
          rw [h5, nxt_tI c h2]
          have : c.id i = t.s1.next := hI.more.next.symm
          rw [this]
          simp
      · rintro ⟨j, ⟨h1, h2, h3⟩, h4⟩
        obtain ⟨t, ht⟩ := hget j h3
        have ho : ops[j]? = some ops[j] := Array.getElem?_eq_getElem h3
        obtain ⟨_, g, _, e, hI⟩ := hit j _ t ho ht
        obtain ⟨ao', h6, h7⟩ := hop j _ ho
        rw [nxt_tI c ht] at h2 h4
        refine .inr ⟨j, ao', t, h6, ht, by rw [h7, ← hclo j _ ho]; exact h1, h2, ?_⟩
        have : c.id j = t.s1.next := hI.more.next.symm
        rw [h4, this]
        simp
    · intro i _
      exact trace_next htr i
    · intro i o q ho h0 hran hqn hq hlo hhi
      obtain ⟨t, ht⟩ := hget i (Array.getElem?_eq_some_iff.1 ho).1
      obtain ⟨ao, h1, h2⟩ := hop i o ho
      obtain ⟨B, hB, hBl, hBs⟩ := masks_spec ops.toList []
      simp only [List.length_nil, List.reverse_nil, List.nil_append, Nat.zero_add] at hB hBs
      have hB2 : (masksOf ops.toList [] 0).reverse = B := hB
      have hin : i < ops.size := (Array.getElem?_eq_some_iff.1 ho).1
      have hBi : B[i]? = some (nthM i B) := by
        have hlt : i < B.length := by rw [hBl]; simpa using hin
        rw [nthM_eq, List.getElem?_eq_getElem hlt]; rfl
      have hw : (winsOf ops (trOps P nt mask ops ops.toList []))[i]? = some (winOf B (chainOf (trOps P nt mask ops ops.toList []) 0) i (nthM i B)) := by
        unfold winsOf
        rw [hB2]
        have := winsFrom_at (b := B) (chain := chainOf (trOps P nt mask ops ops.toList []) 0) B 0 i _ hBi
        rw [this]; simp
      rw [nxt_tI c ht] at hran ⊢
      have hsame := checkD_at hchk i ao _ _ h1 (snaps_at [] ts i t ht) hw (by rw [h2, ← hclo i o ho]; exact h0) hran
      rw [h2] at hsame
      -- the state
      have hk : ∃ k, ((chainOf (trOps P nt mask ops ops.toList []) 0).filter fun x => decide (x < q)).length = k ∧ (s :: chainSts (trOps P nt mask ops ops.toList []) ts)[k]? = some (c.sg q) := by
        by_cases hqp : q = 0
        · subst hqp
          refine ⟨0, ?_, by simp [DC.sg, sFin, c]⟩
          rw [List.length_eq_zero_iff, List.filter_eq_nil_iff]
          intro x _; simp
        · have hq : c.clo P (q - 1) = 2 := hq.resolve_left hqp
          have hq1 : q - 1 < ops.size := by
            have h5 : q ≤ ops.size := hqn
            omega
          obtain ⟨t', ht'⟩ := hget (q - 1) hq1
          have ho' : ops[q - 1]? = some ops[q - 1] := Array.getElem?_eq_getElem hq1
          obtain ⟨ao', h6, h7⟩ := hop (q - 1) _ ho'
          obtain ⟨k, hk1, hk2⟩ := chainSts_at _ ts 0 (q - 1) t' htl (Nat.zero_le _) ⟨ao', by simpa using h6, by rw [h7, ← hclo _ _ ho']; exact hq⟩ (by simpa using ht')
          rw [show q - 1 + 1 = q from by omega] at hk1
          refine ⟨k + 1, hk1, ?_⟩
          rw [List.getElem?_cons_succ, hk2]
          have : c.sg (q - 1 + 1) = t'.s2 := sFin_succ s ts (q - 1) t' ht'
          rw [show q - 1 + 1 = q from by omega] at this
          rw [this]
      obtain ⟨k, hk1, hk2⟩ := hk
      have hbm : ∀ j, c.bm j = nthM j B := fun j => by show nthM j (masksOf ops.toList [] 0).reverse = _; rw [hB2]
      rw [hbm i]
      refine sameIn_mem hsame (c.sg q) (window_mem hk2 ?_ ?_)
      · show ((chainOf _ 0).filter fun i_1 => (nthM i B).testBit i_1).length ≤ k
        rw [← hk1]
        exact filter_le _ fun x hx hb => by
          have := hlo x (hchain2 x hx) (by rw [hbm]; exact hb)
          simpa using this
      · show k ≤ ((chainOf _ 0).filter fun i_1 => !(nthM i_1 B).testBit i).length
        rw [← hk1]
        exact filter_le _ fun x hx hb => by
          have hxq : x < q := by simpa using hb
          have := hhi x hxq (hchain2 x hx)
          rw [hbm] at this
          simp [this]
  refine DC.any_ok (c := c) hc ?_ ops.size (Array.replicate ops.size false) 0 E a { w with drawn := w.drawn + 1 } (by simp [c]) ?_ ?_
  · intro D q F a' w' hinv hall
    obtain ⟨hrn, hsn⟩ := DC.absorb hc hinv hinv.qle (Nat.le_refl _) (fun j hj hjn hcj => by
      have := hinv.above j hcj hj
      rw [hall j hjn] at this; cases this) (fun j _ hjn _ => hall j hjn)
    have hsg : c.sg c.ops.size = sFin s ts := by
      show sFin s (ts.take ops.size) = _
      rw [List.take_of_length_le (by omega)]
    rw [hsg] at hrn hsn
    refine hQ _ _ (F.sub (c.bel c.ops.size)) w' a' h ((Step.drawn _).trans hsn) hrn ?_
    have hEi : Mem.Le E (F.sub (c.bel c.ops.size)) := hsn.le
    refine ⟨hinv.size, fun t v hv => ?_, fun t v hv => ?_, ?_⟩
    · rcases storeAll_get _ _ _ hv with ⟨i, ao, x, h1, h2, h3, h4⟩ | ⟨h1, h2⟩
      · have hin : i < ops.size := by rw [← hal]; exact (List.getElem?_eq_some_iff.1 h1).1
        have ho : ops[i]? = some ops[i] := Array.getElem?_eq_getElem hin
        obtain ⟨ti, hti⟩ := hget i hin
        obtain ⟨_, g, _, e, _⟩ := hit i _ ti ho hti
        rw [hat i _ ho, e] at h1
        cases h1
        rw [snaps_at [] ts i ti hti] at h2
        cases h2
        have hd : ops[i].dst = some t := by
          have h3 : trDst mask ops[i].dst = some (posOf t) := h3
          unfold trDst at h3
          split at h3
          · rename_i d hd
            cases hb : Nat.testBit mask d with
            | false => rw [hb] at h3; cases h3
            | true =>
              rw [hb] at h3
              rw [hd, posOf_inj (Option.some.inj h3)]
          · cases h3
        have hvi := hinv.vals i _ t (hall i hin) ho hd
        rw [nxt_tI c hti] at hvi
        simp only at h4
        rw [← h4]
        refine cv_mono (Mem.sub_le fun p y _ hp => ?_) hvi
        rcases hp with hp | ⟨j, hj, hn, rfl⟩
        · have := DC.mono hc hinv.qle (Nat.le_refl c.ops.size)
          unfold DC.bel at *
          omega
        · exact DC.id_lt hc hn hn.2.2 (Nat.le_refl _)
      · have hk := hf.key t v h1
        have hno : ∀ (i : Nat) (o : Oper), D i = true → c.ops[i]? = some o → o.dst ≠ some t := fun i o _ ho hd => by
          have hin : i < ops.size := (Array.getElem?_eq_some_iff.1 ho).1
          obtain ⟨ti, hti⟩ := hget i hin
          obtain ⟨_, g, _, e, _⟩ := hit i o ti ho hti
          refine h2 i _ _ (hat i o ho) (snaps_at [] ts i ti hti) ?_
          rw [e]
          simp [trDst, hd, hk]
        rw [hinv.olds t hno]
        exact cv_mono hEi (hf.val t v h1)
    · rcases storeAll_get _ _ _ hv with ⟨i, ao, x, h1, h2, h3, h4⟩ | ⟨h1, _⟩
      · have hin : i < ops.size := by rw [← hal]; exact (List.getElem?_eq_some_iff.1 h1).1
        have ho : ops[i]? = some ops[i] := Array.getElem?_eq_getElem hin
        obtain ⟨ti, hti⟩ := hget i hin
        obtain ⟨_, g, _, e, _⟩ := hit i _ ti ho hti
        rw [hat i _ ho, e] at h1
        cases h1
        have h3 : trDst mask ops[i].dst = some (posOf t) := h3
        unfold trDst at h3
        split at h3
        · rename_i d hd
          cases hb : Nat.testBit mask d with
          | false => rw [hb] at h3; cases h3
          | true =>
            rw [hb] at h3
            rw [← posOf_inj (Option.some.inj h3)]; exact hb
        · cases h3
      · exact hf.key t v h1
    · rw [storeAll_defs]
      rw [show a'.defers = a.defers from hinv.defs]
      exact hf.defs.mono hEi
  · exact cntF_all _ fun j _ => by
      by_cases hj : j < ops.size
      · simp [Array.getD_eq_getD_getElem?, hj]
      · simp [Array.getD_eq_getD_getElem?, hj]
  · have hfun : (fun j => (Array.replicate ops.size false).getD j false) = fun _ => false := by
      funext j
      by_cases hj : j < ops.size
      · simp [Array.getD_eq_getD_getElem?, hj]
      · simp [Array.getD_eq_getD_getElem?, hj]
    rw [hfun]
    exact DC.init_inv (hc := hc) (hr.drawn _)
end Go.Ab
end

section
namespace Go.Ab
variable {β : Type} {P : Program} {ρ : Val} {E : Mem} {s : St} {w : World} {r : β} {k : Kv β}

/-- the table of a program -/
noncomputable def mkCtx (P : Program) (masks : List Nat) (sum : FuncId → Option SumT) : Ctx := { info := fnInfo P masks, trCode := fun m c => tr P (m % 65536) (m / 65536) c, sum := sum }
theorem mkCtx_ok {masks : List Nat} {sum : FuncId → Option SumT} (hs : ∀ f g, sum f = some g → ∀ β : Type, SumOk P f (g β)) : CtxOk P (mkCtx P masks sum) :=
  ⟨fun f i h => fnInfo_ok h, fun _ _ => rfl, hs⟩
/-- THE EXECUTOR IS SOUND: a call. -/
theorem calls_of_run (hm : P.follows .mixedOrders = true) {C : Ctx} (hC : CtxOk P C) (n : Nat) {f : FuncId} {args : List AV} {us : List Value} (hf : f ≠ yieldId) (h : (callA C (exec P C n β) f args s k).run ρ = some r) (hr : HRel ρ E s w) (ha : cvs ρ E args = some us) :
    Calls P f us.toArray w (Out P ρ E s w k r) :=
  ((callA_ok (exec_ok hC (drawSound hm) n β) hC).fn ρ r f args s k E w us hf h hr ha).2
/-- a memory of which nothing is known -/
theorem HRel.empty (w : World) (p : Pos) : HRel ρ E0 ⟨.lf, p, []⟩ w :=
  ⟨fun q b h => by simp at h, fun q q' b b' c o o' h => by simp at h, fun q b h => by simp at h, fun q x h => (by cases h), fun c b h => (by cases h)⟩
/-- a closed call: the value, and what the old memory is behind it -/
theorem calls_closed (hm : P.follows .mixedOrders = true) {C : Ctx} (hC : CtxOk P C) (n : Nat) {f : FuncId} {args : List AV} {us : List Value} {p : Pos} {v : AV} {u : Value} (ρ : Val) (hf : f ≠ yieldId) (h : callA C (exec P C n AV) f args ⟨.lf, p, []⟩ (fun v _ => .ok v) = .ok v)
    (ha : cvs ρ E0 args = some us) (hv : cv ρ E0 v = some u) (w : World) :
    Calls P f us.toArray w fun e w' => e = .returned u ∧ w.heap.size ≤ w'.heap.size ∧ (∀ i, i < w.heap.size → w'.heap[i]? = w.heap[i]?) ∧ w'.os = w.os ∧ w'.output = w.output ∧ w'.tape = w.tape := by
  refine Calls.mono (calls_of_run hm hC n (ρ := ρ) (r := v) hf (by rw [h]; rfl) (HRel.empty w p) ha) ?_
  rintro e w' ⟨v', u', s', E', rfl, hv', hst, _, hk⟩
  have : some v' = some v := hk
  cases this
  rw [cv_mono (E0_le E') hv] at hv'
  cases hv'
  exact ⟨rfl, hst.size, fun i hi => hst.frame i hi fun q b o hq => by simp at hq, hst.os, hst.out, hst.tape⟩
end Go.Ab
end
