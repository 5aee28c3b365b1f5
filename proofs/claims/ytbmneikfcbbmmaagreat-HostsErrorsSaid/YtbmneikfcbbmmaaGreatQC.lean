/- The executor agrees with the model on regions (with every order), code, calls and deferred calls; it is sound. -/
import Derived.Test.YtbmneikfcbbmmaaGreatQB
import Derived.Laws.RangeString
import Derived.Laws.IdiomStrings
import Derived.RangeFuncIn
set_option linter.unusedVariables false
set_option linter.unusedSimpArgs false
set_option linter.unusedSectionVars false
section
namespace Go.Ab
variable {β : Type} {P : Program} {ρ : Val} {E : Mem} {s : St} {w : World} {r : β} {k : Kv β}
variable {ds : List (Option Nat)} {ls : List AV} {fr : Fr} {a : Act} {call : CallT β}

/-! ### strings and their iterators -/
theorem ef_s2b (hres : Res ρ E ds ls fr a) (hr : HRel ρ E s w) {st dt : TypeId} {x : Operand} (hc : (trConv P ds st dt x).cls = 2) (h : (evOp P (trConv P ds st dt x) call ls fr s k).run ρ = some r) : Eff P ρ E s w (convert st dt (a.eval x)) k r := by
  have main : ∀ e b, undA P st = some .string → undA P dt = some (.slice e) → undA P e = some (.int .u8) → (evOp P (.s2b b (trArg ds x)) call ls fr s k).run ρ = some r → Eff P ρ E s w (convert st dt (a.eval x)) k r := by
    intro e b h1 h2 h3 h
    obtain ⟨v, hv, h⟩ := run_onArg hres h
    obtain ⟨l, hl, h⟩ := run_onSome h
    obtain ⟨_, h⟩ := run_guardB h
    rw [asStr_eq hl] at hv
    simp only [cv_str, Option.some.injEq] at hv
    rw [← hv]
    have hrun := run_bytes_of_string (P := P) w st dt e (bytesOf l) (undA_eq h1) (undA_eq h2) (undA_eq h3)
    have hge := grownCap_ge w (bytesOf l).size 0 e
    have hrow : bytesRow (bytesOf l) (grownCap w (bytesOf l).size 0 e) = (byteCells (bytesOf l) ++ List.replicate (grownCap w (bytesOf l).size 0 e - (bytesOf l).size) (Value.int .u8 0)).toArray := by
      apply Array.ext'
      simp [bytesRow, byteCells]
    rw [hrow] at hrun
    rw [size_bytesOf] at hrun hge
    refine fresh_ok hr (byteL_cv l) (by rw [byteCells_length, size_bytesOf]; simp) h hrun hge (by simp) ?_
    intro i hi1 hi2 hh
    simp only [List.size_toArray, List.length_append] at hh
    omega
  unfold trConv at h hc
  split at h
  · rename_i h1 h2; rw [h1, h2] at hc; cases hc
  · rename_i h1 h2; rw [h1, h2] at hc; cases hc
  · rename_i e h1 h2
    rw [h1, h2] at hc
    split at h
    · rename_i h3 h4
      exact main e _ h1 h2 h3 h
    · cases h
  · rename_i e h1 h2
    rw [h1, h2] at hc
    split at h
    · rename_i h3; simp only [h3] at hc; cases hc
    · cases h
  · rename_i h1 h2; rw [h1, h2] at hc; cases hc
  · cases h
theorem nbeq (a b : Nat) : Nat.beq a b = (a == b) := by rw [Bool.eq_iff_iff]; simp
/-! a range over a map -/
theorem asMit_eq {p : Pos} {it : MIt} (h : (s.heap.get p).bind Blk.asMit = some it) : s.heap.get p = some (.mit it.m it.since it.seen it.last) := by
  obtain ⟨b, hb, h⟩ := Option.bind_eq_some_iff.1 h
  cases b <;> simp [Blk.asMit] at h
  rw [hb, ← h]
theorem ef_rngM (hres : Res ρ E ds ls fr a) (hr : HRel ρ E s w) {t kt et : TypeId} {x : Operand} (ht : P.underlying t = some (.map kt et)) (h : (evOp P (.rngM (trArg ds x)) call ls fr s k).run ρ = some r) : Eff P ρ E s w (Instr.range t (a.eval x)) k r := by
  obtain ⟨v, hv, h⟩ := run_onArg hres h
  have hnew : (E.add s.next w.heap.size 0).blk s.next = some (w.heap.size, 0) := by simp [Mem.add]
  rcases run_ifB h with ⟨hn, h⟩ | ⟨_, h⟩
  · rw [isNil3 hn] at hv
    simp only [cv_nilm, Option.some.injEq] at hv
    rw [← hv]
    obtain ⟨h1, h2⟩ := hr.alloc (.mit none 0 [] 0) (.mapIter none 0 #[] 0) 0 ⟨_, 0, none, hnew, rfl, rfl, heap_alloc_new w _⟩
    refine ⟨.pointer (some ⟨w.heap.size, 0, none⟩), _, _, _, _, ?_, cv_ptr_mk hnew, h2, h1, h⟩
    simp [Instr.range, run_underlying ht, World.alloc_eq]
  · obtain ⟨p, hp, h⟩ := run_onSome h
    obtain ⟨m, hm, h⟩ := run_onSome h
    rw [asMap_eq hp] at hv
    obtain ⟨c, o, hb, hu⟩ := cv_map hv
    rw [hu]
    obtain ⟨c2, o2, us, hb2, _, hheap⟩ := hr.blks _ _ (St.mapAt_eq hm)
    rw [hb] at hb2; cases hb2
    have hne : p ≠ s.next := fun e => by
      have := hr.dom _ _ (St.mapAt_eq hm)
      rw [e] at this; omega
    have hbE : (E.add s.next w.heap.size 0).blk p = some (c, o) := by simp [Mem.add, hne, hb]
    obtain ⟨h1, h2⟩ := hr.alloc (.mit (some p) m.clock [] m.clock) (.mapIter (some c) m.clock #[] m.clock) 0 ⟨_, 0, some c, hnew, rfl, ⟨c, o, hbE, rfl⟩, heap_alloc_new w _⟩
    refine ⟨.pointer (some ⟨w.heap.size, 0, none⟩), _, _, _, _, ?_, cv_ptr_mk hnew, h2, h1, h⟩
    have hobj : (getObj c).run P w = .ok (.map us.toArray m.clock) w := by simp [getObj, Sem.run, hheap]
    simp [Instr.range, run_underlying ht, World.alloc_eq, hobj]
/-- entries and the model's -/
theorem centry_born {e : Ent} {x : MapEntry} (h : centry ρ E e = some x) : x.born = e.born ∧ cv ρ E e.key = some x.key ∧ cv ρ E e.val = some x.val := by
  unfold centry at h
  obtain ⟨k, hk, h⟩ := Option.bind_eq_some_iff.1 h
  obtain ⟨v, hv, rfl⟩ := Option.map_eq_some_iff.1 h
  exact ⟨rfl, hk, hv⟩
theorem centries_filter {f : Ent → Bool} {g : MapEntry → Bool} (hfg : ∀ e x, centry ρ E e = some x → f e = g x) : ∀ {es : List Ent} {us : List MapEntry}, centries ρ E es = some us → centries ρ E (es.filter f) = some (us.filter g)
  | [], us, h => by simp [centries] at h; subst h; simp [centries]
  | e :: es, us, h => by
    simp only [centries, Option.bind_eq_some_iff, Option.map_eq_some_iff] at h
    obtain ⟨x, hx, y, hy, rfl⟩ := h
    have ih := centries_filter hfg hy
    have := hfg e x hx
    cases hf : f e with
    | false => rw [List.filter_cons_of_neg (by simp [hf]), List.filter_cons_of_neg (by rw [← this, hf]; simp)]; exact ih
    | true =>
      rw [List.filter_cons_of_pos hf, List.filter_cons_of_pos (by rw [← this]; exact hf)]
      simp [centries, hx, ih]
theorem centries_all {f : Ent → Bool} {g : MapEntry → Bool} (hfg : ∀ e x, centry ρ E e = some x → f e = g x) : ∀ {es : List Ent} {us : List MapEntry}, centries ρ E es = some us → es.all f = us.all g
  | [], us, h => by simp [centries] at h; subst h; rfl
  | e :: es, us, h => by
    simp only [centries, Option.bind_eq_some_iff, Option.map_eq_some_iff] at h
    obtain ⟨x, hx, y, hy, rfl⟩ := h
    rw [List.all_cons, List.all_cons, hfg e x hx, centries_all hfg hy]
theorem centries_find {f : Ent → Bool} {g : MapEntry → Bool} (hfg : ∀ e x, centry ρ E e = some x → f e = g x) : ∀ {es : List Ent} {us : List MapEntry} {e : Ent}, centries ρ E es = some us → es.find? f = some e → ∃ x, us.find? g = some x ∧ centry ρ E e = some x
  | [], us, e, h, hf => by cases hf
  | e0 :: es, us, e, h, hf => by
    simp only [centries, Option.bind_eq_some_iff, Option.map_eq_some_iff] at h
    obtain ⟨x, hx, y, hy, rfl⟩ := h
    rw [List.find?_cons] at hf ⊢
    rw [← hfg e0 x hx]
    cases hc : f e0 with
    | true => rw [hc] at hf; cases hf; exact ⟨x, rfl, hx⟩
    | false => rw [hc] at hf; exact centries_find hfg hy hf
theorem ef_nextM (hres : Res ρ E ds ls fr a) (hr : HRel ρ E s w) {ty : TypeId} {x : Operand} (h : (evOp P (.nextM (trArg ds x)) call ls fr s k).run ρ = some r) : Eff P ρ E s w (Instr.next (a.eval x) false ty) k r := by
  obtain ⟨v, hv, h⟩ := run_onArg hres h
  obtain ⟨pa, hpa, h⟩ := run_onSome h
  obtain ⟨hoff, h⟩ := run_guardB h
  obtain ⟨it, hit, h⟩ := run_onSome h
  have hblk := asMit_eq hit
  obtain ⟨c, o, mc, hbk, rfl, hmc, hheap⟩ := hr.blks _ _ hblk
  rw [asPtr_eq hpa, show pa.off = 0 from by simpa using hoff, cv_ptr_mk hbk] at hv
  simp only [Option.some.injEq] at hv
  rw [← hv]
  have hobj : (getObj c).run P w = .ok (.mapIter mc it.since it.seen.toArray it.last) w := by simp [getObj, Sem.run, hheap]
  rcases run_onSomeOr h with ⟨q, hq, h⟩ | ⟨hn, h⟩
  · obtain ⟨b, hb, h⟩ := run_onSome h
    rw [hq] at hmc
    obtain ⟨c2, o2, hb2, rfl⟩ := hmc
    obtain ⟨c3, o3, us, hb3, hus, hheap2⟩ := hr.blks _ _ (St.mapAt_eq hb)
    rw [hb2] at hb3; cases hb3
    have hobj2 : (getObj c2).run P w = .ok (.map us.toArray b.clock) w := by simp [getObj, Sem.run, hheap2]
    obtain ⟨hg, h⟩ := run_guardB h
    have hborn : ∀ e x, centry ρ E e = some x → x.born = e.born := fun e x hx => (centry_born hx).1
    have hleft : centries ρ E (mitLeft it b) = some (us.filter fun e => !it.seen.contains e.born) := centries_filter (fun e x hx => by
      rw [hborn e x hx]
      unfold notSeen
      congr 1
      rw [List.contains_eq_any_beq]
      congr 1
      funext y
      exact nbeq _ _) hus
    have hold : centries ρ E (mitOld it b) = some ((us.filter fun e => !it.seen.contains e.born).filter fun e => decide (e.born < it.since)) := centries_filter (fun e x hx => by
      rw [hborn e x hx]
      cases hb : Nat.blt e.born it.since with
      | true => simp at hb; simp [hb]
      | false => rw [← Bool.not_eq_true, Nat.blt_eq] at hb; simp; omega) hleft
    have hnew : centries ρ E (mitNew it b) = some ((us.filter fun e => !it.seen.contains e.born).filter fun e => decide (e.born ≥ it.since)) := centries_filter (fun e x hx => by
      rw [hborn e x hx]
      cases hb : Nat.ble it.since e.born with
      | true => simp at hb; simp [hb]
      | false => rw [← Bool.not_eq_true, Nat.ble_eq] at hb; simp; omega) hleft
    have hgone : (!it.seen.toArray.isEmpty && !us.toArray.isEmpty && us.toArray.all fun e => decide (e.born ≥ it.last)) = false := by
      have h1 : (b.es.all fun e => Nat.ble it.last e.born) = us.all fun e => decide (e.born ≥ it.last) := centries_all (fun e x hx => by
        rw [hborn e x hx]
        cases hb : Nat.ble it.last e.born with
        | true => simp at hb; simp [hb]
        | false => rw [← Bool.not_eq_true, Nat.ble_eq] at hb; simp; omega) hus
      have h2 := centries_length hus
      have h3 : us.isEmpty = b.es.isEmpty := by
        cases hus2 : us <;> cases hes : b.es <;> simp [hus2, hes] at h2 ⊢
      have hg' : mitGone it b = false := by simpa using hg
      unfold mitGone at hg'
      rw [h1] at hg'
      simpa [h3] using hg'
    have hsplit : (∃ e, mitOld it b = [e] ∧ mitNew it b = [] ∧ (k (.tup [.bool true, e.key, e.val]) (s.put pa.p (.mit (some q) it.since (it.seen ++ [e.born]) b.clock))).run ρ = some r) ∨ (mitOld it b = [] ∧ mitNew it b = [] ∧ (k (.tup [.bool false]) s).run ρ = some r) := by
      cases ho : mitOld it b with
      | nil =>
        cases hn : mitNew it b with
        | nil => rw [ho, hn] at h; exact .inr ⟨rfl, rfl, h⟩
        | cons _ _ => rw [ho, hn] at h; cases h
      | cons e l =>
        cases l with
        | nil =>
          cases hn : mitNew it b with
          | nil => rw [ho, hn] at h; exact .inl ⟨e, rfl, rfl, h⟩
          | cons _ _ => rw [ho, hn] at h; cases h
        | cons _ _ => rw [ho] at h; cases h
    rcases hsplit with ⟨e, ho, hn, h⟩ | ⟨ho, hn, h⟩
    · rw [ho] at hold
      rw [hn] at hnew
      simp only [centries, Option.bind_eq_some_iff, Option.map_eq_some_iff, Option.some.injEq] at hold hnew
      obtain ⟨x0, hx0, y0, rfl, hold⟩ := hold
      obtain ⟨b1, b2, b3⟩ := centry_born hx0
      obtain ⟨g1, g2⟩ := hr.setBlk (nb := .mit (some q) it.since (it.seen ++ [e.born]) b.clock) (obj := .mapIter (some c2) it.since (it.seen ++ [e.born]).toArray b.clock) hblk (by simp [Live]) hbk ⟨c, 0, some c2, hbk, rfl, ⟨c2, o2, hb2, rfl⟩, setBlk_get hheap⟩
      refine ⟨.tuple #[.bool true, x0.key, x0.val], _, _, _, E, ?_, by simp [cv, cvs, b2, b3], g2, g1, h⟩
      have hset : (setObj c (.mapIter (some c2) it.since (it.seen ++ [e.born]).toArray b.clock)).run P w = .ok () (Ab.setBlk w c (.mapIter (some c2) it.since (it.seen ++ [e.born]).toArray b.clock)) := by simp [setObj, Sem.run, hheap, setBlk]
      have ea : (us.toArray.filter fun e => !it.seen.toArray.contains e.born).filter (fun e => decide (e.born < it.since)) = #[x0] := by
        apply Array.ext'
        simpa using hold.symm
      have eb : (us.toArray.filter fun e => !it.seen.toArray.contains e.born).filter (fun e => decide (e.born ≥ it.since)) = #[] := by
        apply Array.ext'
        simpa using hnew.symm
      have hpush : it.seen.toArray.push x0.born = (it.seen ++ [e.born]).toArray := by rw [b1]; simp
      simp only [Instr.next, Sem.run_bind, hobj, Result.andThen_ok, hobj2, hgone, Bool.false_eq_true, if_false, ea, eb, hpush]
      have hset2 : (setObj c (.mapIter (some c2) it.since (it.seen ++ [x0.born]).toArray b.clock)).run P w = .ok () (Ab.setBlk w c (.mapIter (some c2) it.since (it.seen ++ [e.born]).toArray b.clock)) := by rw [b1]; exact hset
      simp [Question.forced, hset2]
    · rw [ho] at hold
      rw [hn] at hnew
      simp only [centries, Option.some.injEq] at hold hnew
      refine ⟨.tuple #[.bool false], w, _, s, E, ?_, by simp [cv, cvs], .refl .., hr, h⟩
      have ea : (us.toArray.filter fun e => !it.seen.toArray.contains e.born).filter (fun e => decide (e.born < it.since)) = #[] := by
        apply Array.ext'
        simpa using hold.symm
      have eb : (us.toArray.filter fun e => !it.seen.toArray.contains e.born).filter (fun e => decide (e.born ≥ it.since)) = #[] := by
        apply Array.ext'
        simpa using hnew.symm
      simp only [Instr.next, Sem.run_bind, hobj, Result.andThen_ok, hobj2, hgone, Bool.false_eq_true, if_false, ea, eb]
      simp [Question.forced]
  · rw [hn] at hmc
    have hmc : mc = none := hmc
    subst hmc
    refine ⟨.tuple #[.bool false], w, _, s, E, ?_, by simp [cv, cvs], .refl .., hr, h⟩
    simp [Instr.next, hobj]
theorem ef_entM (hres : Res ρ E ds ls fr a) (hr : HRel ρ E s w) {x : Operand} (h : (evOp P (.entM (trArg ds x)) call ls fr s k).run ρ = some r) : Eff P ρ E s w (Instr.entry (a.eval x)) k r := by
  obtain ⟨v, hv, h⟩ := run_onArg hres h
  obtain ⟨pa, hpa, h⟩ := run_onSome h
  obtain ⟨hoff, h⟩ := run_guardB h
  obtain ⟨it, hit, h⟩ := run_onSome h
  obtain ⟨q, hq, h⟩ := run_onSome h
  obtain ⟨t, ht, h⟩ := run_onSome h
  obtain ⟨b, hb, h⟩ := run_onSome h
  obtain ⟨hcl, h⟩ := run_guardB h
  obtain ⟨e, he, h⟩ := run_onSome h
  have hblk := asMit_eq hit
  obtain ⟨c, o, mc, hbk, rfl, hmc, hheap⟩ := hr.blks _ _ hblk
  rw [hq] at hmc
  obtain ⟨c2, o2, hb2, rfl⟩ := hmc
  obtain ⟨c3, o3, us, hb3, hus, hheap2⟩ := hr.blks _ _ (St.mapAt_eq hb)
  rw [hb2] at hb3; cases hb3
  rw [asPtr_eq hpa, show pa.off = 0 from by simpa using hoff, cv_ptr_mk hbk] at hv
  simp only [Option.some.injEq] at hv
  rw [← hv]
  have hobj : (getObj c).run P w = .ok (.mapIter (some c2) it.since it.seen.toArray it.last) w := by simp [getObj, Sem.run, hheap]
  have hobj2 : (getObj c2).run P w = .ok (.map us.toArray b.clock) w := by simp [getObj, Sem.run, hheap2]
  obtain ⟨x0, hx0, hc0⟩ := centries_find (f := fun e => Nat.beq e.born t) (g := fun e => e.born == t) (fun e x hx => by rw [(centry_born hx).1]; exact nbeq _ _) hus he
  obtain ⟨b1, b2, b3⟩ := centry_born hc0
  refine ⟨.tuple #[x0.key, x0.val], w, _, s, E, ?_, by simp [cv, cvs, b2, b3], .refl .., hr, h⟩
  have hclk : b.clock = it.last := by simpa using hcl
  have hback : it.seen.toArray.back? = some t := by simpa using ht
  have hfind : us.toArray.find? (fun e => e.born == t) = some x0 := by simpa using hx0
  simp [Instr.entry, hobj, hobj2, hback, hclk, hfind]
theorem ef_rng (hres : Res ρ E ds ls fr a) (hr : HRel ρ E s w) {t : TypeId} {x : Operand} (h : (evOp P (trOp P ds (.range t x)) call ls fr s k).run ρ = some r) : Eff P ρ E s w (Instr.range t (a.eval x)) k r := by
  simp only [trOp] at h
  split at h
  case h_3 => cases h
  case h_2 hu => exact ef_rngM hres hr (undA_eq hu) h
  rename_i hu
  obtain ⟨v, hv, h⟩ := run_onArg hres h
  obtain ⟨l, hl, h⟩ := run_onSome h
  rw [asStr_eq hl] at hv
  simp only [cv_str, Option.some.injEq] at hv
  rw [← hv]
  have hnew : (E.add s.next w.heap.size 0).blk s.next = some (w.heap.size, 0) := by simp [Mem.add]
  obtain ⟨h1, h2⟩ := hr.alloc (.sit l 0) (.stringIter (bytesOf l) 0) 0 ⟨_, 0, hnew, rfl, heap_alloc_new w _⟩
  refine ⟨.pointer (some ⟨w.heap.size, 0, none⟩), _, _, _, _, ?_, cv_ptr_mk hnew, h2, h1, h⟩
  simp [Instr.range, run_underlying (undA_eq hu), World.alloc_eq]
theorem ef_next (hres : Res ρ E ds ls fr a) (hr : HRel ρ E s w) {ty : TypeId} {x : Operand} (h : (evOp P (.nextS (trArg ds x)) call ls fr s k).run ρ = some r) : Eff P ρ E s w (Instr.next (a.eval x) true ty) k r := by
  obtain ⟨v, hv, h⟩ := run_onArg hres h
  obtain ⟨pa, hpa, h⟩ := run_onSome h
  obtain ⟨hoff, h⟩ := run_guardB h
  obtain ⟨it, hit, h⟩ := run_onSome h
  obtain ⟨b, hb, hit⟩ := Option.bind_eq_some_iff.1 hit
  have hbe : b = .sit it.l it.pos := by cases b <;> simp [Blk.asIt] at hit; subst hit; rfl
  subst hbe
  obtain ⟨c, o, hbk, rfl, hheap⟩ := hr.blks _ _ hb
  rw [asPtr_eq hpa, show pa.off = 0 from by simpa using hoff, cv_ptr_mk hbk] at hv
  simp only [Option.some.injEq] at hv
  rw [← hv]
  have hobj : (getObj c).run P w = .ok (.stringIter (bytesOf it.l) it.pos) w := by simp [getObj, Sem.run, hheap]
  rcases run_onSomeOr h with ⟨y, hy, h⟩ | ⟨hn, h⟩
  · obtain ⟨hlt, h⟩ := run_guardB h
    rw [nthN_eq] at hy
    obtain ⟨hp, hy'⟩ := List.getElem?_eq_some_iff.1 hy
    have hps : it.pos < (bytesOf it.l).size := by rw [size_bytesOf]; exact hp
    have hbyte : ((bytesOf it.l)[it.pos]'hps).toNat = y % 256 := by
      have : (bytesOf it.l)[it.pos]'hps = UInt8.ofNat y := by
        show (bytesOf it.l).data[it.pos]'_ = _
        simp [bytesOf, hy']
      rw [this]; simp
    have hlt' : y % 256 < 128 := by simpa using hlt
    have hdec := decode_ascii (bytesOf it.l) it.pos hps (by rw [hbyte]; exact hlt')
    rw [hbyte] at hdec
    obtain ⟨h1, h2⟩ := hr.setBlk (nb := .sit it.l (it.pos + 1)) (obj := .stringIter (bytesOf it.l) (it.pos + 1)) hb (by simp [Live]) hbk ⟨c, 0, hbk, rfl, setBlk_get hheap⟩
    refine ⟨.tuple #[.bool true, goInt it.pos, .int .i32 (Int.ofNat (y % 256))], _, _, _, E, ?_, by simp [cv, cvs, goInt], h2, h1, h⟩
    simp [Instr.next, hobj, hps, hdec, run_setSit hheap]
  · rw [nthN_eq] at hn
    have hp : ¬ it.pos < (bytesOf it.l).size := by rw [size_bytesOf]; have := List.getElem?_eq_none_iff.1 hn; omega
    refine .mk hr (u := .tuple #[.bool false]) ?_ (by simp [cv, cvs]) h
    simp [Instr.next, hobj, hp]
/-! ### calls -/
/-- a call's outcome -/
def Out (P : Program) (ρ : Val) (E : Mem) (s : St) (w : World) (k : Kv β) (r : β) (e : Ending) (w' : World) : Prop :=
  ∃ v u s' E', e = .returned u ∧ cv ρ E' v = some u ∧ Step E s w E' s' w' ∧ HRel ρ E' s' w' ∧ (k v s').run ρ = some r
structure CallOk (P : Program) (call : CallT β) : Prop where
  fn : ∀ ρ (r : β) f args s k E w us, f ≠ yieldId → (call f args s k).run ρ = some r → HRel ρ E s w → cvs ρ E args = some us →
    (∀ (as : Array Value) (w' : World), (callFunc f as).run P w' = .ok (.enter f as) w') ∧ Calls P f us.toArray w (Out P ρ E s w k r)
  round : ∀ ρ (r : β) p args s k E w c o us, (call yieldId (.yld p :: args) s k).run ρ = some r → HRel ρ E s w → E.blk p = some (c, o) → cvs ρ E args = some us →
    ∃ f tmps assign body, (Instr.yield c us.toArray).run P w = .ok (.round c f tmps assign body) w ∧ RoundIn Fence.wide 0 P c f tmps assign body w (Out P ρ E s w k r)
theorem run_callN {f : FuncId} {args : List AV} (h : (callN call f args s k).run ρ = some r) : f ≠ yieldId ∧ (call f args s k).run ρ = some r := by
  obtain ⟨h1, h2⟩ := run_guardB h
  exact ⟨fun e => by rw [e] at h1; simp at h1, h2⟩
theorem CallOk.er {o : Oper} (hc : CallOk P call) (hr : HRel ρ E s w) {f : FuncId} {args : List AV} {us : List Value} (h : (callN call f args s k).run ρ = some r) (ha : cvs ρ E args = some us)
    (ho : (execOp a.eval o).run P w = (callFunc f us.toArray).run P w) : ER P ρ E s w o a k r := by
  obtain ⟨hf, h⟩ := run_callN h
  obtain ⟨h1, h2⟩ := hc.fn ρ r f args s k E w us hf h hr ha
  refine .enter (f := f) (args := us.toArray) (by rw [ho]; exact h1 _ _) (h2.mono ?_)
  rintro e w' ⟨v, u, s', E', rfl, hv, hs, hr', hk⟩
  exact ⟨u, rfl, v, s', E', hv, hs, hr', hk⟩
theorem er_callM {o : Oper} (hc : CallOk P call) (hr : HRel ρ E s w) {t : TypeId} {name : String} {v : AV} {uv : Value} {args : List AV} {us : List Value} (h : (doCallM P call args s k name ⟨t, v⟩).run ρ = some r) (hv : cv ρ E v = some uv) (ha : cvs ρ E args = some us)
    (ho : (execOp a.eval o).run P w = (callMethod (.iface t uv) name us.toArray).run P w) : ER P ρ E s w o a k r := by
  obtain ⟨m, hm, h⟩ := run_onMethod h
  obtain ⟨hd, h⟩ := run_guardB h
  have hd : m.deref = none := by simpa using hd
  refine hc.er hr h (cvs_cons_mk hv ha) ?_
  rw [ho]
  have := hm.same hd uv w (P.types.size + Made.depth - 1)
  have hdep : P.types.size + Made.depth - 1 + 1 = P.types.size + Made.depth := by have : 0 < Made.depth := by decide
                                                                                  omega
  rw [hdep] at this
  simp [callMethod, this]
theorem run_headTail {l : List AV} {f : AV → List AV → Tree β} (h : (headTail l f).run ρ = some r) : ∃ x m, l = x :: m ∧ (f x m).run ρ = some r := by
  cases l with
  | nil => cases h
  | cons x m => exact ⟨x, m, rfl, h⟩
theorem er_call {o : Oper} {c : Call} (hres : Res ρ E ds ls fr a) (hc : CallOk P call) (hr : HRel ρ E s w) (ho : o.op = .call c) (hcls : (trCall P ds c).cls = 2) (h : (evOp P (trCall P ds c) call ls fr s k).run ρ = some r) : ER P ρ E s w o a k r := by
  obtain ⟨cal, args, tys⟩ := c
  obtain ⟨dst, op, ty, pos, af, gd⟩ := o
  simp only at ho
  subst ho
  cases cal with
  | builtin b =>
    obtain ⟨al⟩ := args
    obtain ⟨tl⟩ := tys
    have fin : ∀ {m : Sem Value}, Eff P ρ E s w m k r → (∀ cs, builtin b ⟨tl⟩ ty cs ((⟨al⟩ : Array Operand).map a.eval) = (do pure (.value (← m)))) →
        ER P ρ E s w { dst := dst, op := .call { callee := .builtin b, args := ⟨al⟩, argTypes := ⟨tl⟩ }, type := ty, pos := pos, after := af, guard := gd } a k r := by
      intro m hm hb
      refine hm.er ?_
      simp only [execOp, resolve, invoke, pure_bind]
      exact hb _
    have h : (evOp P (trBuiltin P ds b ⟨al⟩ ⟨tl⟩) call ls fr s k).run ρ = some r := h
    have hcls : (trBuiltin P ds b ⟨al⟩ ⟨tl⟩).cls = 2 := hcls
    unfold trBuiltin at h hcls
    simp only at h hcls
    split at h
    · exfalso; split at h
      · rename_i hq; simp only [hq] at hcls; cases hcls
      · cases h
    · exfalso; split at h
      · rename_i hq; simp only [hq] at hcls; cases hcls
      · rename_i hq; simp only [hq] at hcls; cases hcls
      · cases h
    · exact fin (ef_append (ty := ty) hres hr h) (fun cs => by simp [builtin])
    · rename_i u _ _
      exact fin (ef_copy (ty := ty) (tl := u) hres hr h) (fun cs => by simp [builtin])
    · cases hcls
    · cases hcls
    · rename_i u _ _
      exact fin (ef_delete (ty := ty) (tl := u) hres hr h) (fun cs => by simp [builtin])
    · cases h
  | invoke x n =>
    obtain ⟨v, hv, h⟩ := run_onArg hres h
    obtain ⟨iv, hiv, h⟩ := run_onSome h
    obtain ⟨vs, hvs, h⟩ := run_onArgs hres h
    rw [asIf_eq hiv] at hv
    simp only [cv, Option.map_eq_some_iff] at hv
    obtain ⟨uv, huv, hx⟩ := hv
    refine er_callM hc hr h huv hvs ?_
    have harr : #[Value.iface iv.t uv] ++ args.map a.eval = (Value.iface iv.t uv :: (args.map a.eval).toList).toArray := by
      apply Array.ext'; simp
    simp only [execOp, resolve, invoke, ← hx, pure_bind, harr]
    simp [List.take_of_length_le]
  | value f =>
    have hv : ∀ x : Operand, (evOp P (.callV (trArg ds x) (trArgs ds args)) call ls fr s k).run ρ = some r →
        ER P ρ E s w { dst := dst, op := .call { callee := .value x, args := args, argTypes := tys }, type := ty, pos := pos, after := af, guard := gd } a k r := by
      intro x h
      obtain ⟨v, hv, h⟩ := run_onArg hres h
      obtain ⟨vs, hvs, h⟩ := run_onArgs hres h
      rcases run_onSomeOr h with ⟨p, hp, h⟩ | ⟨_, h⟩
      · have he : v = .yld p := by cases v <;> simp [AV.asYld] at hp; rw [hp]
        rw [he] at hv
        simp only [cv, Option.map_eq_some_iff] at hv
        obtain ⟨c, hc1, hx⟩ := hv
        obtain ⟨f, tmps, assign, body, h1, h2⟩ := hc.round ρ r p vs s k E w c.1 c.2 _ h hr hc1 hvs
        refine .round (l := c.1) (f := f) (tmps := tmps) (assign := assign) (body := body) ?_ (h2.mono ?_)
        · have harr : (#[] : Array Value) ++ args.map a.eval = (args.map a.eval).toList.toArray := by
            apply Array.ext'; simp
          simp only [execOp, resolve, Deferred.ofValue, ← hx, pure_bind, invoke, harr]
          exact h1
        · rintro e w' ⟨v', u, s', E', rfl, hv', hs, hr', hk⟩
          exact ⟨u, rfl, v', s', E', hv', hs, hr', hk⟩
      obtain ⟨fv, hfv, h⟩ := run_onSome h
      rw [asFn_eq hfv] at hv
      obtain ⟨fn, fst, cap⟩ := fv
      simp only [cv, Option.bind_eq_some_iff, Option.map_eq_some_iff] at hv
      obtain ⟨us, hus, uc, huc, hx⟩ := hv
      have hall := cvs_append hus hvs
      cases fn with
      | func g =>
        refine hc.er hr h (cvs_append hall huc) ?_
        have harr : us.toArray ++ args.map a.eval ++ uc.toArray = (us ++ (args.map a.eval).toList ++ uc).toArray := by
          apply Array.ext'; simp
        simp only [execOp, resolve, Deferred.ofValue, ← hx, pure_bind, invoke, harr]
      | method n =>
        obtain ⟨y, m, hm, h⟩ := run_headTail h
        obtain ⟨iv, hiv, h⟩ := run_onSome h
        simp only at hm hall
        rw [hm] at hall
        obtain ⟨uy, um, hum, huy, hum'⟩ := cvs_cons hall
        rw [asIf_eq hiv] at huy
        simp only [cv, Option.map_eq_some_iff] at huy
        obtain ⟨uv, huv, hy⟩ := huy
        refine er_callM hc hr h huv hum' ?_
        have harr : us.toArray ++ args.map a.eval = (uy :: um).toArray := by
          apply Array.ext'; simp [← hum]
        simp only [execOp, resolve, Deferred.ofValue, ← hx, pure_bind, invoke, harr]
        simp [← hy]
      | methodOf t n =>
        obtain ⟨y, m, hm, h⟩ := run_headTail h
        obtain ⟨b, hb, h⟩ := run_onSome h
        simp only at hm hall
        rw [hm] at hall
        obtain ⟨uy, um, hum, huy, hum'⟩ := cvs_cons hall
        unfold isIfaceT at hb
        obtain ⟨d, hd, hb⟩ := Option.map_eq_some_iff.1 hb
        have hd' := undA_eq hd
        have harr : us.toArray ++ args.map a.eval = (uy :: um).toArray := by
          apply Array.ext'; simp [← hum]
        rcases run_ifB h with ⟨hbt, h⟩ | ⟨hbf, h⟩
        · obtain ⟨iv, hiv, h⟩ := run_onSome h
          rw [asIf_eq hiv] at huy
          simp only [cv, Option.map_eq_some_iff] at huy
          obtain ⟨uv, huv, hy⟩ := huy
          refine er_callM hc hr h huv hum' ?_
          simp only [execOp, resolve, Deferred.ofValue, ← hx, pure_bind, invoke, harr]
          subst hbt
          cases d <;> simp at hb
          simp [run_underlying hd', ← hy]
        · refine er_callM hc hr h huy hum' ?_
          simp only [execOp, resolve, Deferred.ofValue, ← hx, pure_bind, invoke, harr]
          subst hbf
          cases d <;> simp at hb <;> simp [run_underlying hd']
      | _ => cases h
    cases f with
    | func g =>
      obtain ⟨vs, hvs, h⟩ := run_onArgs hres h
      refine hc.er hr h hvs ?_
      have harr : (#[] : Array Value) ++ args.map a.eval ++ #[] = (args.map a.eval).toList.toArray := by
        apply Array.ext'; simp
      simp only [execOp, resolve, Deferred.ofValue, invoke, Act.eval, pure_bind, harr]
    | tmp t => exact hv _ h
    | const v => exact hv _ h
    | global g => exact hv _ h
end Go.Ab
end

section
namespace Go.Ab
variable {β : Type} {P : Program} {ρ : Val} {E : Mem} {s : St} {w : World} {r : β} {k : Kv β}
variable {ds : List (Option Nat)} {ls : List AV} {fr : Fr} {a : Act} {call : CallT β}

theorem c0_build (t : TypeId) (ps : Array (Nat × Operand)) : (trBuild P ds t ps).cls = 0 := by
  unfold trBuild
  split
  · split
    · cases sizesOk P _ <;> rfl
    · rfl
  · split <;> rfl
  · rfl
theorem c0_bin (o : BinOp) (t : TypeId) (x y : Operand) : (trBin P ds o t x y).cls = 0 := by
  unfold trBin
  split
  · cases o <;> rfl
  · rfl
  · cases o <;> rfl
  · rfl
theorem c0_assert (x : Operand) (t : TypeId) (ok : Bool) : (trAssert P ds x t ok).cls = 0 := by
  unfold trAssert
  split
  · split
    · rename_i z _
      cases z.isNil 5 <;> rfl
    · rfl
  · split <;> rfl
  · rfl
/-- every operation, in the order of the text -/
theorem op_ok {o : Oper} (hres : Res ρ E ds ls fr a) (hc : CallOk P call) (hr : HRel ρ E s w) (hnd : isDefer o.op = false) (h : (evOp P (trOp P ds o.op) call ls fr s k).run ρ = some r) : ER P ρ E s w o a k r := by
  by_cases h0 : (trOp P ds o.op).cls = 0
  · exact .quiet hr (quiet_ok hres hr h0 h)
  by_cases h1 : (trOp P ds o.op).cls = 1
  · exact .alloc hr (alloc_ok hres hr.asm h1 h)
  cases hop : o.op with
  | store t x y => rw [hop] at h; exact er_st hres hr hop h
  | mapUpdate t x y z =>
    rw [hop] at h
    refine er_upd hres hr ?_ h
    obtain ⟨_, op, _, _, _, _⟩ := o
    simp only at hop
    subst hop
    rfl
  | insert t x y z =>
    rw [hop] at h
    refine er_upd hres hr ?_ h
    obtain ⟨_, op, _, _, _, _⟩ := o
    simp only at hop
    subst hop
    rfl
  | range t x =>
    rw [hop] at h
    refine (ef_rng hres hr h).er ?_
    obtain ⟨_, op, _, _, _, _⟩ := o
    simp only at hop
    subst hop
    rfl
  | next x b =>
    rw [hop] at h
    cases b with
    | false =>
      refine (ef_nextM (ty := o.type) hres hr h).er ?_
      obtain ⟨_, op, _, _, _, _⟩ := o
      simp only at hop
      subst hop
      rfl
    | true =>
      refine (ef_next (ty := o.type) hres hr h).er ?_
      obtain ⟨_, op, _, _, _, _⟩ := o
      simp only at hop
      subst hop
      rfl
  | entry x =>
    rw [hop] at h
    refine (ef_entM hres hr h).er ?_
    obtain ⟨_, op, _, _, _, _⟩ := o
    simp only at hop
    subst hop
    rfl
  | convert st dt x =>
    rw [hop] at h h0
    have hc2 : (trConv P ds st dt x).cls = 2 := by
      revert h0
      simp only [trOp]
      unfold trConv
      (repeat' split) <;> (intro h0; first | rfl | exact absurd rfl h0)
    refine (ef_s2b hres hr hc2 h).er ?_
    obtain ⟨_, op, _, _, _, _⟩ := o
    simp only at hop
    subst hop
    rfl
  | call c =>
    rw [hop] at h h0 h1
    refine er_call hres hc hr hop ?_ h
    have h01 : ∀ (x : AOp), ¬ x.cls = 0 → ¬ x.cls = 1 → x.cls = 2 := by
      intro x h0 h1
      cases x <;> first | rfl | exact absurd rfl h0 | exact absurd rfl h1
    exact h01 _ h0 h1
  | defer c => rw [hop] at hnd; cases hnd
  | move x => rw [hop] at h0; exact absurd rfl h0
  | assign x => rw [hop] at h0; exact absurd rfl h0
  | pick c x y => rw [hop] at h0; exact absurd rfl h0
  | alloc e =>
    rw [hop] at h h1
    rcases cls_alloc (P := P) (ds := ds) e with hx | ⟨m, hx⟩
    · exact absurd hx h1
    · rw [show trOp P ds (.alloc e) = .no m from hx] at h
      cases h
  | box e x => rw [hop] at h1; exact absurd rfl h1
  | build t ps => rw [hop] at h0; exact absurd (c0_build t ps) h0
  | buildSlice t n ps =>
    rw [hop] at h h1
    rcases cls_bslice (P := P) (ds := ds) t n ps with hx | ⟨m, hx⟩
    · exact absurd hx h1
    · rw [show trOp P ds (.buildSlice t n ps) = .no m from hx] at h
      cases h
  | load t x => rw [hop] at h0; revert h0; simp only [trOp]; (repeat' split) <;> (intro h0; exact absurd rfl h0)
  | nilCheck x => rw [hop] at h0; exact absurd rfl h0
  | binOp o' t x y => rw [hop] at h0; exact absurd (c0_bin o' t x y) h0
  | unOp o' t x => rw [hop] at h0; exact absurd rfl h0
  | makeInterface t x => rw [hop] at h0; revert h0; simp only [trOp]; (repeat' split) <;> (intro h0; exact absurd rfl h0)
  | makeFunc f x y => rw [hop] at h0; exact absurd rfl h0
  | makeMap t x =>
    cases x with
    | none => rw [hop] at h1; exact absurd rfl h1
    | some x => rw [hop] at h; cases h
  | makeSlice t x y =>
    rw [hop] at h h1
    rcases cls_mksl (P := P) (ds := ds) t x y with hx | ⟨m, hx⟩
    · exact absurd hx h1
    · rw [show trOp P ds (.makeSlice t x y) = .no m from hx] at h
      cases h
  | slice t x lo hi mx => rw [hop] at h0; revert h0; simp only [trOp]; unfold trSlice; (repeat' split) <;> (intro h0; exact absurd rfl h0)
  | fieldAddr t x f => rw [hop] at h0; revert h0; simp only [trOp]; unfold trFadr; (repeat' split) <;> (intro h0; exact absurd rfl h0)
  | field t x f => rw [hop] at h0; revert h0; simp only [trOp]; unfold trFld; (repeat' split) <;> (intro h0; exact absurd rfl h0)
  | indexAddr t x i => rw [hop] at h0; revert h0; simp only [trOp]; unfold trIxa; (repeat' split) <;> (intro h0; exact absurd rfl h0)
  | index t x i => rw [hop] at h0; revert h0; simp only [trOp]; unfold trIx; (repeat' split) <;> (intro h0; exact absurd rfl h0)
  | lookup t x i ok => rw [hop] at h0; revert h0; simp only [trOp]; unfold trLookup; (repeat' split) <;> (intro h0; exact absurd rfl h0)
  | typeAssert x xt t ok => rw [hop] at h0; exact absurd (c0_assert x t ok) h0
  | extract x i => rw [hop] at h0; exact absurd rfl h0
  | _ => rw [hop] at h; cases h
end Go.Ab
end

section
namespace Go.Ab
variable {β : Type} {P : Program} {ρ : Val} {E : Mem} {s : St} {w : World} {r : β} {k : Kv β}
variable {ds : List (Option Nat)} {ls : List AV} {fr : Fr} {a : Act} {call : CallT β}

/-! ### frames -/
/-- a deferred call -/
def DRel1 (ρ : Val) (E : Mem) (d : AV × List AV) (x : Deferred) : Prop := ∃ fn fst cap us ufst ucap, d.1 = .func fn fst cap ∧ cvs ρ E fst = some ufst ∧ cvs ρ E cap = some ucap ∧ cvs ρ E d.2 = some us ∧
  x = { target := .fn fn ucap.toArray, args := ufst.toArray ++ us.toArray }
inductive DRel (ρ : Val) (E : Mem) : List (AV × List AV) → List Deferred → Prop
  | nil : DRel ρ E [] []
  | col {p : Pos} {c : Nat} {l : List (AV × List AV)} {xs : List Deferred} : E.blk p = some (c, 0) → DRel ρ E l xs → DRel ρ E ((.yld p, []) :: l) ({ target := .collected c, args := #[] } :: xs)
  | cons {d : AV × List AV} {x : Deferred} {l : List (AV × List AV)} {xs : List Deferred} : DRel1 ρ E d x → DRel ρ E l xs → DRel ρ E (d :: l) (x :: xs)
structure FrRel (ρ : Val) (nt mask : Nat) (E : Mem) (fr : Fr) (a : Act) : Prop where
  size : a.tmps.size = nt
  val : ∀ t v, fr.tmps.get (posOf t) = some v → cv ρ E v = some (a.tmps.getD t undef)
  key : ∀ t v, fr.tmps.get (posOf t) = some v → mask.testBit t = true
  defs : DRel ρ E fr.defs a.defers
/-- the region's own values -/
def LRel (ρ : Val) (E : Mem) (ds : List (Option Nat)) (ls : List AV) (a : Act) : Prop :=
  ∀ t j v, findD t ds 0 = some j → nthL j ls = some v → cv ρ E v = some (a.tmps.getD t undef)
theorem DRel1.mono {E' : Mem} (hE : Mem.Le E E') {d : AV × List AV} {x : Deferred} (h : DRel1 ρ E d x) : DRel1 ρ E' d x := by
  obtain ⟨fn, fst, cap, us, ufst, ucap, h1, h2, h3, h4, h5⟩ := h
  exact ⟨fn, fst, cap, us, ufst, ucap, h1, cvs_mono hE h2, cvs_mono hE h3, cvs_mono hE h4, h5⟩
theorem DRel.mono {E' : Mem} (hE : Mem.Le E E') : ∀ {l : List (AV × List AV)} {xs : List Deferred}, DRel ρ E l xs → DRel ρ E' l xs
  | _, _, .nil => .nil
  | _, _, .col h h' => .col (hE.blk _ _ h) (h'.mono hE)
  | _, _, .cons h h' => .cons (h.mono hE) (h'.mono hE)
variable {nt mask : Nat}
theorem FrRel.mono {E' : Mem} (hE : Mem.Le E E') (h : FrRel ρ nt mask E fr a) : FrRel ρ nt mask E' fr a :=
  ⟨h.size, fun t v hv => cv_mono hE (h.val t v hv), h.key, h.defs.mono hE⟩
theorem LRel.mono {E' : Mem} (hE : Mem.Le E E') (h : LRel ρ E ds ls a) : LRel ρ E' ds ls a := fun t j v h1 h2 => cv_mono hE (h t j v h1 h2)
theorem undefA_cv : cv ρ E undefA = some undef := by simp [undefA, cv, cvs, undef]
theorem findD_ge : ∀ (t : Nat) (ds : List (Option Nat)) (n j : Nat), findD t ds n = some j → n ≤ j
  | t, [], n, j, h => by cases h
  | t, none :: ds, n, j, h => by have := findD_ge t ds (n + 1) j h; omega
  | t, some u :: ds, n, j, h => by
    have h' : (Bool.rec (motive := fun _ => Option Nat) (findD t ds (n + 1)) (some n) (Nat.beq u t)) = some j := h
    cases hb : Nat.beq u t with
    | true => rw [hb] at h'; cases h'; exact Nat.le_refl _
    | false => rw [hb] at h'; have := findD_ge t ds (n + 1) j h'; omega
theorem findD_shift : ∀ (t : Nat) (ds : List (Option Nat)) (n j : Nat), findD t ds (n + 1) = some j → ∃ j', j = j' + 1 ∧ findD t ds n = some j'
  | t, [], n, j, h => by cases h
  | t, none :: ds, n, j, h => findD_shift t ds (n + 1) j h
  | t, some u :: ds, n, j, h => by
    have h' : (Bool.rec (motive := fun _ => Option Nat) (findD t ds (n + 2)) (some (n + 1)) (Nat.beq u t)) = some j := h
    cases hb : Nat.beq u t with
    | true =>
      rw [hb] at h'; cases h'
      refine ⟨n, rfl, ?_⟩
      show (Bool.rec (motive := fun _ => Option Nat) (findD t ds (n + 1)) (some n) (Nat.beq u t)) = some n
      rw [hb]
    | false =>
      rw [hb] at h'
      obtain ⟨j', h1, h2⟩ := findD_shift t ds (n + 1) j h'
      refine ⟨j', h1, ?_⟩
      show (Bool.rec (motive := fun _ => Option Nat) (findD t ds (n + 1)) (some n) (Nat.beq u t)) = some j'
      rw [hb]
      exact h2
theorem nthL_succ (j : Nat) (v : AV) (ls : List AV) : nthL (j + 1) (v :: ls) = nthL j ls := rfl
/-- a value is yielded -/
theorem LRel.put {dst : Option Nat} {v : AV} {u : Value} (h : LRel ρ E ds ls a) (hv : cv ρ E v = some u) (hd : dstOk a.tmps.size dst = true) : LRel ρ E (dst :: ds) (v :: ls) (a.put dst u) := by
  intro t j x hj hx
  have skip : ∀ (a' : Act), findD t ds 1 = some j → a'.tmps.getD t undef = a.tmps.getD t undef → cv ρ E x = some (a'.tmps.getD t undef) := by
    intro a' hf he
    obtain ⟨j', rfl, hj'⟩ := findD_shift t ds 0 j hf
    rw [nthL_succ] at hx
    rw [he]
    exact h t j' x hj' hx
  cases dst with
  | none => exact skip _ hj rfl
  | some d =>
    have hj' : (Bool.rec (motive := fun _ => Option Nat) (findD t ds 1) (some 0) (Nat.beq d t)) = some j := hj
    cases hb : Nat.beq d t with
    | true =>
      rw [hb] at hj'; cases hj'
      have e : d = t := by simpa using hb
      subst e
      have hlt : d < a.tmps.size := by simpa [dstOk] using hd
      simp only [nthL_eq, List.getElem?_cons_zero, Option.some.injEq] at hx
      subst hx
      simp [Act.put, hlt, hv]
    | false =>
      rw [hb] at hj'
      have e : d ≠ t := by intro e; subst e; simp at hb
      refine skip _ hj' ?_
      simp [Act.put, Array.getD_eq_getD_getElem?, Array.getElem?_setIfInBounds, e]
theorem Act.put_size (a : Act) (dst : Option Nat) (u : Value) : (a.put dst u).tmps.size = a.tmps.size := by cases dst <;> simp [Act.put]
theorem Act.put_defers (a : Act) (dst : Option Nat) (u : Value) : (a.put dst u).defers = a.defers := by cases dst <;> simp [Act.put]
theorem FrRel.put {dst : Option Nat} {v : AV} {u : Value} (h : FrRel ρ nt mask E fr a) (hv : cv ρ E v = some u) (hd : dstOk nt dst = true) : FrRel ρ nt mask E (fr.store (trDst mask dst) v) (a.put dst u) := by
  cases dst with
  | none => exact h
  | some d =>
    have hlt : d < a.tmps.size := by rw [h.size]; simpa [dstOk] using hd
    have hother : ∀ t, t ≠ d → (a.put (some d) u).tmps.getD t undef = a.tmps.getD t undef := fun t ht => by
      simp [Act.put, Array.getD_eq_getD_getElem?, Array.getElem?_setIfInBounds, Ne.symm ht]
    cases hm : Nat.testBit mask d with
    | false =>
      have hst : fr.store (trDst mask (some d)) v = fr := by simp [trDst, hm, Fr.store]
      rw [hst]
      refine ⟨by rw [Act.put_size]; exact h.size, fun t x hx => ?_, h.key, by rw [Act.put_defers]; exact h.defs⟩
      rw [hother t (fun e => by subst e; have := h.key t x hx; rw [hm] at this; cases this)]
      exact h.val t x hx
    | true =>
      have hst : fr.store (trDst mask (some d)) v = ⟨fr.tmps.put (posOf d) (some v), fr.defs⟩ := by simp [trDst, hm, Fr.store]
      rw [hst]
      refine ⟨by rw [Act.put_size]; exact h.size, fun t x hx => ?_, fun t x hx => ?_, by rw [Act.put_defers]; exact h.defs⟩
      · simp only [Trie.get_put] at hx
        by_cases e : posOf t = posOf d
        · rw [if_pos e] at hx
          have := posOf_inj e
          subst this
          cases hx
          simp [Act.put, hlt, hv]
        · rw [if_neg e] at hx
          rw [hother t (fun e' => e (by rw [e']))]
          exact h.val t x hx
      · simp only [Trie.get_put] at hx
        by_cases e : posOf t = posOf d
        · rw [posOf_inj e]; exact hm
        · rw [if_neg e] at hx; exact h.key t x hx
theorem cstArg_ok {v : Value} {x : AV} (h : argV (cstArg (abst v)) ls fr = some x) : cv ρ E x = some v := by
  unfold cstArg at h
  cases hc : closedF 8 (abst v) with
  | false => rw [hc] at h; cases h
  | true =>
    rw [hc] at h
    cases h
    obtain ⟨u, hu⟩ := closedF_cv (ρ := ρ) (E := E) 8 hc
    rw [hu, abst_cv hu]
theorem res_of (hf : FrRel ρ nt mask E fr a) (hl : LRel ρ E ds ls a) : Res ρ E ds ls fr a := by
  intro x v hv
  cases x with
  | tmp t =>
    unfold trArg at hv
    simp only at hv
    cases hj : findD t ds 0 with
    | some j => rw [hj] at hv; exact hl t j v hj hv
    | none => rw [hj] at hv; exact hf.val t v hv
  | const c => exact cstArg_ok hv
  | global g => cases hv
  | func f => cases hv; simp [cv, cvs, Act.eval]

/-! ### a guard -/
theorem guardV_ok {ops : Array Oper} {j : Nat} {want : Bool} {t : Nat} {v : AV} {f : Bool → St → Tree β} (ht : (ops[j]?).bind (·.dst) = some t) (hlt : t < a.tmps.size) (hv : cv ρ E v = some (a.tmps.getD t undef)) (ha : AsmOk ρ s.asm) (h : (guardV v want s f).run ρ = some r) :
    ∃ b s', More ρ s s' ∧ (f b s').run ρ = some r ∧ b = (yielded ops a.tmps j == some want) := by
  have hget : a.tmps[t]? = some (a.tmps.getD t undef) := by
    rw [Array.getD_eq_getD_getElem?, Array.getElem?_eq_getElem hlt]; rfl
  have hy : ((ops[j]?).bind (·.dst)).bind (a.tmps[·]?) = some (a.tmps.getD t undef) := by rw [ht]; exact hget
  rcases run_ifB h with ⟨hb, h⟩ | ⟨_, h⟩
  · refine ⟨false, s, .refl ha, h, ?_⟩
    obtain ⟨vs, hvs⟩ := Option.isSome_iff_exists.1 hb
    rw [asTup_eq hvs] at hv
    simp only [cv, Option.map_eq_some_iff] at hv
    obtain ⟨us, _, hu⟩ := hv
    unfold yielded
    rw [hy, ← hu]
    rfl
  · obtain ⟨b, s', hb, hm, h⟩ := run_onBool (E := E) ha h
    rw [hb] at hv
    simp only [Option.some.injEq] at hv
    refine ⟨_, s', hm, h, ?_⟩
    unfold yielded
    rw [hy, ← hv]
    cases b <;> cases want <;> rfl
end Go.Ab
end

section
namespace Go.Ab
variable {β : Type} {P : Program} {ρ : Val} {E : Mem} {s : St} {w : World} {r : β} {k : Kv β}
variable {ds : List (Option Nat)} {ls : List AV} {fr : Fr} {a : Act} {call : CallT β} {nt mask : Nat}

theorem trGuard_some {ops : Array Oper} {g : Option (Nat × Bool)} {x : Option (Nat × Bool)} (h : trGuard ops ds g = some x) :
    (g = none ∧ x = none) ∨ ∃ j want t i, g = some (j, want) ∧ (ops[j]?).bind (·.dst) = some t ∧ findD t ds 0 = some i ∧ x = some (i, want) := by
  cases g with
  | none => simp [trGuard] at h; exact .inl ⟨rfl, h.symm⟩
  | some g =>
    obtain ⟨j, want⟩ := g
    right
    simp only [trGuard] at h
    cases ht : (ops[j]?).bind (·.dst) with
    | none => rw [ht] at h; cases h
    | some t =>
      rw [ht] at h
      simp only [Option.map_eq_some_iff] at h
      obtain ⟨i, hi, rfl⟩ := h
      exact ⟨j, want, t, i, rfl, ht, hi, rfl⟩
theorem findD_lt : ∀ (t : Nat) (ds : List (Option Nat)) (n i : Nat), findD t ds n = some i → ∃ d ∈ ds, d = some t
  | t, [], n, i, h => by cases h
  | t, none :: ds, n, i, h => by
    obtain ⟨d, hd, e⟩ := findD_lt t ds (n + 1) i h
    exact ⟨d, List.mem_cons_of_mem _ hd, e⟩
  | t, some u :: ds, n, i, h => by
    have h' : (Bool.rec (motive := fun _ => Option Nat) (findD t ds (n + 1)) (some n) (Nat.beq u t)) = some i := h
    cases hb : Nat.beq u t with
    | true => exact ⟨some u, List.mem_cons_self .., by rw [show u = t from by simpa using hb]⟩
    | false =>
      rw [hb] at h'
      obtain ⟨d, hd, e⟩ := findD_lt t ds (n + 1) i h'
      exact ⟨d, List.mem_cons_of_mem _ hd, e⟩
/-- the temporaries that a region has defined lie in the frame -/
def DsOk (nt : Nat) (ds : List (Option Nat)) : Prop := ∀ d ∈ ds, dstOk nt d = true
theorem DsOk.lt {t i : Nat} (h : DsOk nt ds) (hf : findD t ds 0 = some i) : t < nt := by
  obtain ⟨d, hd, rfl⟩ := findD_lt t ds 0 i hf
  simpa [dstOk] using h _ hd
/-- the operation's own part -/
theorem runOp_ok {rd : Option Nat} {o : Oper} {ao : AOper} {ih : List AV → Fr → St → Tree β} {Q : Exit → Act → World → Prop} {K : Act → World → Prop} (hrd : rd = none ∨ opPlain o = true) (hao : ao = ⟨trDst mask o.dst, ao.guard, trOp P ds o.op, isDefer o.op⟩) (hd : dstOk nt o.dst = true) (hc : CallOk P call) (hr : HRel ρ E s w) (hf : FrRel ρ nt mask E fr a)
    (hl : LRel ρ E ds ls a) (h : (runOp P call ao ih ls fr s).run ρ = some r)
    (hK : ∀ ls' fr' s' E' a' w', (ih ls' fr' s').run ρ = some r → Step E s w E' s' w' → HRel ρ E' s' w' → FrRel ρ nt mask E' fr' a' → LRel ρ E' (o.dst :: ds) ls' a' → K a' w') : o.wpIn (Fw rd) 0 P a w K Q := by
  have hres := res_of hf hl
  rw [hao] at h
  rcases run_ifB h with ⟨hb, h⟩ | ⟨hb, h⟩
  · obtain ⟨d, hd', h⟩ := run_onSome h
    obtain ⟨dst, op, ty, pos, af, gd⟩ := o
    have hb : isDefer op = true := hb
    have hop : ∃ c, op = .defer c := by cases op <;> first | (cases hb; done) | exact ⟨_, rfl⟩
    obtain ⟨⟨cal, args, tys⟩, hop⟩ := hop
    subst hop
    cases cal with
    | invoke _ _ => cases hd'
    | builtin _ => cases hd'
    | value f =>
      cases hd'
      obtain ⟨vf, hvf, h⟩ := run_onArg hres h
      obtain ⟨fv, hfv, h⟩ := run_onSome h
      obtain ⟨vs, hvs, h⟩ := run_onArgs hres h
      have hfe := asFn_eq hfv
      rw [hfe] at hvf
      simp only [cv, Option.bind_eq_some_iff, Option.map_eq_some_iff] at hvf
      obtain ⟨us, hus, uc, huc, hx⟩ := hvf
      have hrun : (execOp a.eval { dst := dst, op := .defer { callee := .value f, args := args, argTypes := tys }, type := ty, pos := pos, after := af, guard := gd }).run P w =
          .ok (.defer { target := .fn fv.fn uc.toArray, args := us.toArray ++ (args.map a.eval).toList.toArray }) w := by
        simp [execOp, resolve, Deferred.ofValue, ← hx]
      have hrd : rd = none := by
        rcases hrd with h | h
        · exact h
        · cases h
      subst hrd
      refine ⟨fun f _ => fw_fn none f, ?_⟩
      have hs : Oper.semAt (Fw none).round a.eval { dst := dst, op := .defer { callee := .value f, args := args, argTypes := tys }, type := ty, pos := pos, after := af, guard := gd } = execOp a.eval { dst := dst, op := .defer { callee := .value f, args := args, argTypes := tys }, type := ty, pos := pos, after := af, guard := gd } := rfl
      rw [hs, hrun, Oper.uponIn_defer]
      have hput : ({ a with defers := { target := .fn fv.fn uc.toArray, args := us.toArray ++ (args.map a.eval).toList.toArray } :: a.defers } : Act).put dst undef =
          { a.put dst undef with defers := { target := .fn fv.fn uc.toArray, args := us.toArray ++ (args.map a.eval).toList.toArray } :: a.defers } := by cases dst <;> rfl
      simp only
      rw [hput]
      have hf2 := hf.put (dst := dst) undefA_cv hd
      refine hK _ _ _ E _ _ h (.refl ..) hr ⟨hf2.size, hf2.val, hf2.key, ?_⟩ (fun t j v h1 h2 => ?_)
      · refine .cons ⟨fv.fn, fv.first, fv.cap, _, us, uc, hfe, hus, huc, hvs, rfl⟩ ?_
        have := hf2.defs
        rw [Act.put_defers] at this
        exact hf.defs
      · exact hl.put (dst := dst) undefA_cv (by rw [hf.size]; exact hd) t j v h1 h2
  · have hb : isDefer o.op = false := hb
    have her := op_ok hres hc hr hb h
    refine Yields.wpIn (rd := rd) (.inr (fun c hc => by rw [hc] at hb; cases hb)) her fun u w' ⟨v, s', E', hv, hst, hr', hk⟩ => ?_
    exact hK _ _ _ E' _ _ hk hst hr' ((hf.mono hst.le).put hv hd) ((hl.mono hst.le).put hv (by rw [hf.size]; exact hd))
theorem region_ok {rd : Option Nat} {ops : Array Oper} {Q : Exit → Act → World → Prop} {K : Fr → St → Tree β} (hrd : rd = none ∨ ops.toList.all opPlain = true) (hc : CallOk P call) : ∀ (l : List Oper) (pre : List Oper) (hops : ops.toList = pre ++ l) (ds : List (Option Nat)) (ls : List AV) (fr : Fr) (s : St) (E : Mem) (w : World) (a : Act),
    (runR P call (trOps P nt mask ops l ds) K ls fr s).run ρ = some r → HRel ρ E s w → FrRel ρ nt mask E fr a → LRel ρ E ds ls a → DsOk nt ds →
    (∀ fr' s' E' w' a', (K fr' s').run ρ = some r → Step E s w E' s' w' → HRel ρ E' s' w' → FrRel ρ nt mask E' fr' a' → Q .normal a' w') →
    wpOpsIn (Fw rd) 0 P ops Q (List.range' pre.length l.length) a w
  | [], pre, hops, ds, ls, fr, s, E, w, a, h, hr, hf, hl, hds, hK => by
    show Q .normal a w
    exact hK fr s E w a h (.refl ..) hr hf
  | o :: l, pre, hops, ds, ls, fr, s, E, w, a, h, hr, hf, hl, hds, hK => by
    have hoi : ops[pre.length]? = some o := by
      rw [← Array.getElem?_toList, hops]; simp
    have hrange : List.range' pre.length (o :: l).length = pre.length :: List.range' (pre ++ [o]).length l.length := by
      simp [List.range'_succ]
    rw [hrange, wpOpsIn_cons]
    unfold wpOpIn
    rw [hoi]
    simp only
    have hplain : rd = none ∨ opPlain o = true := hrd.imp id fun h => List.all_eq_true.1 h o (by rw [hops]; simp)
    have hR : (runR P call (trOps P nt mask ops (o :: l) ds) K ls fr s) = runR1 P call (trOper P nt mask ops ds o) (trOps P nt mask ops l (o.dst :: ds)) (runR P call (trOps P nt mask ops l (o.dst :: ds)) K) ls fr s := rfl
    rw [hR] at h
    unfold trOper at h
    cases hd : dstOk nt o.dst with
    | false =>
      rw [hd] at h
      rcases run_onSomeOr h with ⟨_, hg, _⟩ | ⟨_, h⟩
      · cases hg
      · cases h
    | true =>
    rw [hd] at h
    simp only [cond_true] at h
    have hds' : DsOk nt (o.dst :: ds) := fun d hd' => by
      rcases List.mem_cons.1 hd' with rfl | hd'
      · exact hd
      · exact hds d hd'
    have hnext : ∀ {s0 : St} {ls' : List AV} {fr' : Fr} {s' : St} {E' : Mem} {a' : Act} {w' : World}, (runR P call (trOps P nt mask ops l (o.dst :: ds)) K ls' fr' s').run ρ = some r → Step E s w E' s' w' → HRel ρ E' s' w' → FrRel ρ nt mask E' fr' a' →
        LRel ρ E' (o.dst :: ds) ls' a' → wpOpsIn (Fw rd) 0 P ops Q (List.range' (pre ++ [o]).length l.length) a' w' := by
      intro _ ls' fr' s' E' a' w' h' hst hr' hf' hl'
      refine region_ok hrd hc l (pre ++ [o]) (by rw [hops]; simp) (o.dst :: ds) ls' fr' s' E' w' a' h' hr' hf' hl' hds' ?_
      intro fr2 s2 E2 w2 a2 h2 hst2 hr2 hf2
      exact hK fr2 s2 E2 w2 a2 h2 (hst.trans hst2) hr2 hf2
    cases hg : trGuard ops ds o.guard with
    | none =>
      rw [hg] at h
      rcases run_onSomeOr h with ⟨_, hg', _⟩ | ⟨_, h⟩
      · cases hg'
      · cases h
    | some g =>
      rw [hg] at h
      rcases trGuard_some hg with ⟨hgn, rfl⟩ | ⟨j, want, t, i, hgs, ht, hi, rfl⟩
      · rcases run_onSomeOr h with ⟨_, hg', _⟩ | ⟨_, h⟩
        · cases hg'
        have hw : Region.wanted o (yielded ops a.tmps) = true := by simp [Region.wanted, hgn]
        rw [if_pos hw]
        exact (runOp_ok hplain (ao := ⟨trDst mask o.dst, none, trOp P ds o.op, isDefer o.op⟩) rfl hd hc hr hf hl h fun ls' fr' s' E' a' w' h' hst hr' hf' hl' => hnext (s0 := s) h' hst hr' hf' hl')
      · rcases run_onSomeOr h with ⟨g', hg', h⟩ | ⟨hno, _⟩
        case inr => cases hno
        cases hg'
        obtain ⟨v, hv, h⟩ := run_onSome h
        have hlt : t < a.tmps.size := by rw [hf.size]; exact hds.lt hi
        obtain ⟨b, s', hm, h, hb⟩ := guardV_ok (ops := ops) (a := a) (E := E) ht hlt (hl t i v hi hv) hr.asm h
        have hwant : Region.wanted o (yielded ops a.tmps) = b := by simp [Region.wanted, hgs, hb]
        rw [hwant]
        have hr' := hr.more hm
        have hst0 : Step E s w E s' w := .more hm
        rcases run_ifB h with ⟨hbt, h⟩ | ⟨hbf, h⟩
        · rw [if_pos hbt]
          exact (runOp_ok hplain (ao := ⟨trDst mask o.dst, some (i, want), trOp P ds o.op, isDefer o.op⟩) rfl hd hc hr' hf hl h fun ls' fr' s'' E' a' w' h' hst hr'' hf' hl' => hnext (s0 := s) h' (hst0.trans hst) hr'' hf' hl')
        · rw [if_neg (by rw [hbf]; simp)]
          exact ⟨fun f _ => fw_fn rd f, hnext (s0 := s) h hst0 hr' (hf.put undefA_cv hd) (hl.put undefA_cv (by rw [hf.size]; exact hd))⟩
end Go.Ab
end

section
namespace Go.Ab
variable {β : Type} {P : Program} {ρ : Val} {E : Mem} {s : St} {w : World} {r : β} {k : Kv β}
variable {ds : List (Option Nat)} {ls : List AV} {fr : Fr} {a : Act} {call : CallT β} {nt mask : Nat}

def exA : AExit → Exit
  | .norm => .normal
  | .ret => .ret
  | .exit id => .exit id
  | .goto l => .goto l
/-- where a run of code comes to -/
def Post (ρ : Val) (nt mask : Nat) (E : Mem) (s : St) (w : World) (k : Kx β) (r : β) : Exit → Act → World → Prop :=
  fun e a' w' => ∃ ae fr' s' E', e = exA ae ∧ (k ae fr' s').run ρ = some r ∧ Step E s w E' s' w' ∧ HRel ρ E' s' w' ∧ FrRel ρ nt mask E' fr' a'
theorem Post.step {E' : Mem} {s' : St} {w' : World} {kx : Kx β} (hst : Step E s w E' s' w') {e : Exit} {a' : Act} {w'' : World} (h : Post ρ nt mask E' s' w' kx r e a' w'') : Post ρ nt mask E s w kx r e a' w'' := by
  obtain ⟨ae, fr', s2, E2, h1, h2, h3, h4, h5⟩ := h
  exact ⟨ae, fr', s2, E2, h1, h2, hst.trans h3, h4, h5⟩
/-- the region that draws its order -/
def DrawSound (P : Program) : Prop := ∀ (β : Type) (ρ : Val) (cd : CallT (AV × St)) (nt mask id : Nat) (ops : Array Oper) (fr : Fr) (s : St) (E : Mem) (w : World) (a : Act) (r : β) (K : Fr → St → Tree β) (Q : Exit → Act → World → Prop) (rd : Option Nat), CallOk P cd →
  drawOk ops (trOps P nt mask ops ops.toList []) = true → (doD P cd (trOps P nt mask ops ops.toList []) (winsOf ops (trOps P nt mask ops ops.toList [])) fr s K).run ρ = some r → HRel ρ E s w → FrRel ρ nt mask E fr a →
  (∀ fr' s' E' w' a', (K fr' s').run ρ = some r → Step E s w E' s' w' → HRel ρ E' s' w' → FrRel ρ nt mask E' fr' a' → Q .normal a' w') → (Code.region id ops true).wpIn (Fw rd) 0 P Q a w
/-- code with a scope around it -/
def ScopeRun (P : Program) (c x : Code) (Q : Exit → Act → World → Prop) (a : Act) (w : World) : Prop :=
  ∀ (b : Frame) (k : List Item) (cs : List Frame), ∃ e a' w', Q e a' w' ∧ Arrives P (lone (b.at a (.code x :: .inScope c :: k)) cs w) b k cs e a' w'
def LoopRun (P : Program) (rd : Option Nat) (c : Code) (Q : Exit → Act → World → Prop) (a : Act) (w : World) : Prop :=
  ∀ (b : Frame) (k : List Item) (cs : List Frame), b.roundOf = (Fw rd).round → ∃ e a' w', Q e a' w' ∧ ArrivesIn (Machine.fenced P (Fw rd)) P (lone (b.atR a (.code c :: .inLoop c :: k)) cs w) b k cs e a' w'
theorem LoopRun.wpIn {rd : Option Nat} {c : Code} {Q : Exit → Act → World → Prop} (h : LoopRun P rd c Q a w) : (Code.loop c).wpIn (Fw rd) 0 P Q a w := by
  intro b k cs hro hb hr
  obtain ⟨e, a', w', hq, harr⟩ := h b k cs hro
  exact ⟨e, a', w', hq, .of_steps (.one (fenced_calm hb hr rfl) stepR_loop) harr⟩
theorem LoopRun.mk {rd : Option Nat} {c : Code} {Q : Exit → Act → World → Prop} (h : c.wpIn (Fw rd) 0 P (Exit.then (fun a w => LoopRun P rd c Q a w) Q) a w) : LoopRun P rd c Q a w := by
  intro b k cs hro
  have hb : (Fw rd).fn b.fn := fw_fn rd _
  have hr : (Fw rd).room (cs.length + 1 + 0) := fw_room rd _
  obtain ⟨e, a₁, w₁, hq, harr⟩ := h b (.inLoop c :: k) cs hro hb hr
  cases e with
  | normal =>
    obtain ⟨e₂, a₂, w₂, hq₂, harr₂⟩ := hq b k cs hro
    exact ⟨e₂, a₂, w₂, hq₂, .of_steps (StepsIn.trans harr (.one (fenced_calm hb hr rfl) stepR_inLoop)) harr₂⟩
  | exit id => exact ⟨_, a₁, w₁, hq, .pass (x := .inLoop c) rfl (fun _ _ => .inl (by simp)) harr⟩
  | goto l => exact ⟨_, a₁, w₁, hq, .pass (x := .inLoop c) rfl (fun _ _ => .inl (by simp)) harr⟩
  | ret => exact ⟨_, a₁, w₁, hq, .pass (x := .inLoop c) rfl (fun _ _ => .inl (by simp)) harr⟩
  | panic ch => exact ⟨_, a₁, w₁, hq, .pass (x := .inLoop c) rfl (fun _ _ => .inl (by simp)) harr⟩
  | outgrown => exact ⟨_, a₁, w₁, hq, .pass (x := .inLoop c) rfl (fun _ _ => .inl (by simp)) harr⟩
theorem ScopeRun.wp {c : Code} {Q : Exit → Act → World → Prop} (h : ScopeRun P c c Q a w) : (Code.scope c).wp P Q a w := by
  intro b k cs
  obtain ⟨e, a', w', hq, harr⟩ := h b k cs
  exact ⟨e, a', w', hq, .of_steps (.one step_scope) harr⟩
/-- what must hold where the inner code of a scope ends -/
def ScopePost (P : Program) (c : Code) (Q : Exit → Act → World → Prop) : Exit → Act → World → Prop
  | .goto l, a, w => (∃ rest, findLabel c l = some rest ∧ ScopeRun P c rest Q a w) ∨ (findLabel c l = none ∧ Q (.goto l) a w)
  | e, a, w => Q e a w
theorem ScopeRun.mk {c x : Code} {Q : Exit → Act → World → Prop} (h : x.wp P (ScopePost P c Q) a w) : ScopeRun P c x Q a w := by
  intro b k cs
  obtain ⟨e, a₁, w₁, hq, harr⟩ := h b (.inScope c :: k) cs
  cases e with
  | normal => exact ⟨.normal, a₁, w₁, hq, Steps.trans harr (.one step_inScope)⟩
  | exit id => exact ⟨.exit id, a₁, w₁, hq, fun k' hk => harr k' (by simp [exitTo, hk])⟩
  | goto l =>
    rcases hq with ⟨rest, hf, hq⟩ | ⟨hf, hq⟩
    · obtain ⟨e₂, a₂, w₂, hq₂, harr₂⟩ := hq b k cs
      exact ⟨e₂, a₂, w₂, hq₂, .of_steps (harr _ (by simp [gotoIn, hf])) harr₂⟩
    · exact ⟨.goto l, a₁, w₁, hq, fun k' hk => harr k' (by simp [gotoIn, hf, hk])⟩
  | ret => exact ⟨_, a₁, w₁, hq, harr⟩
  | panic ch => exact ⟨_, a₁, w₁, hq, harr⟩
  | outgrown => exact ⟨_, a₁, w₁, hq, harr⟩

variable {C : Ctx} {cd : CallT (AV × St)}
/-- the executor's statement for one amount of fuel -/
structure ExOk (P : Program) (X : Ex β) : Prop where
  code : ∀ (rd : Option Nat) (ρ : Val) (nt mask : Nat) (c : Code) (fr : Fr) (s : St) (k : Kx β) (r : β) (E : Mem) (w : World) (a : Act), (rd = none ∨ rok c = true) → nt < 65536 → (X (tr P nt mask c) fr s k).run ρ = some r → HRel ρ E s w → FrRel ρ nt mask E fr a → c.wpIn (Fw rd) 0 P (Post ρ nt mask E s w k r) a w
  loop : ∀ (rd : Option Nat) (ρ : Val) (nt mask : Nat) (c : Code) (fr : Fr) (s : St) (k : Kx β) (r : β) (E : Mem) (w : World) (a : Act), (rd = none ∨ rok c = true) → nt < 65536 → (X (.loop (tr P nt mask c)) fr s k).run ρ = some r → HRel ρ E s w → FrRel ρ nt mask E fr a → LoopRun P rd c (Post ρ nt mask E s w k r) a w
  scope : ∀ (ρ : Val) (nt mask : Nat) (c x : Code) (fr : Fr) (s : St) (k : Kx β) (r : β) (E : Mem) (w : World) (a : Act), nt < 65536 → (X (.scope (nt + 65536 * mask) c (tr P nt mask x)) fr s k).run ρ = some r → HRel ρ E s w → FrRel ρ nt mask E fr a → ScopeRun P c x (Post ρ nt mask E s w k r) a w
theorem LRel.nil : LRel ρ E [] [] a := fun _ _ _ h _ => by cases h
theorem tr_scope (c : Code) : tr P nt mask (.scope c) = .scope (nt + 65536 * mask) c (tr P nt mask c) := rfl
section
variable {X : Ex β} (hX : ExOk P X) (hcall : CallOk P (callA C X)) (hcd : CallOk P cd) (hdraw : DrawSound P) (htr : ∀ m c, C.trCode m c = tr P (m % 65536) (m / 65536) c)
include hX
/-- a sequence, a loop: what follows -/
theorem after_ok {q : Kx β} {b : AC} {kx : Kx β} {Q : Exit → Act → World → Prop} {next : Act → World → Prop} (hq : q = afterSeq X b kx)
    (hn : ∀ fr' s' E' w' a', (X b fr' s' kx).run ρ = some r → Step E s w E' s' w' → HRel ρ E' s' w' → FrRel ρ nt mask E' fr' a' → next a' w')
    {e : Exit} {a' : Act} {w' : World} (h : Post ρ nt mask E s w q r e a' w') : Exit.then next (Post ρ nt mask E s w kx r) e a' w' := by
  obtain ⟨ae, fr', s', E', rfl, hk, hst, hr, hf⟩ := h
  subst hq
  cases ae with
  | norm => exact hn fr' s' E' w' a' hk hst hr hf
  | ret => exact ⟨.ret, fr', s', E', rfl, hk, hst, hr, hf⟩
  | exit id => exact ⟨.exit id, fr', s', E', rfl, hk, hst, hr, hf⟩
  | goto l => exact ⟨.goto l, fr', s', E', rfl, hk, hst, hr, hf⟩
theorem ex_loop {rd : Option Nat} {c : Code} (hrd : rd = none ∨ rok c = true) (hnt : nt < 65536) {kx : Kx β} (h : (ex1 P C cd (.loop (tr P nt mask c)) X fr s kx).run ρ = some r) (hr : HRel ρ E s w) (hf : FrRel ρ nt mask E fr a) : LoopRun P rd c (Post ρ nt mask E s w kx r) a w := by
  have h : (X (tr P nt mask c) fr s (afterSeq X (.loop (tr P nt mask c)) kx)).run ρ = some r := h
  refine .mk (wpIn_mono (hX.code rd ρ nt mask c fr s _ r E w a hrd hnt h hr hf) fun e a' w' hp => ?_)
  refine after_ok hX (Q := Post ρ nt mask E s w kx r) rfl (fun fr' s' E' w' a' h' hst hr' hf' => ?_) hp
  intro b k cs hro
  obtain ⟨e, a2, w2, hq, harr⟩ := hX.loop rd ρ nt mask c fr' s' kx r E' w' a' hrd hnt h' hr' hf' b k cs hro
  exact ⟨e, a2, w2, hq.step hst, harr⟩
include htr
theorem ex_scope (hnt : nt < 65536) {c x : Code} {kx : Kx β} (h : (ex1 P C cd (.scope (nt + 65536 * mask) c (tr P nt mask x)) X fr s kx).run ρ = some r) (hr : HRel ρ E s w) (hf : FrRel ρ nt mask E fr a) : ScopeRun P c x (Post ρ nt mask E s w kx r) a w := by
  have h : (X (tr P nt mask x) fr s (afterScope C X (nt + 65536 * mask) c kx)).run ρ = some r := h
  refine .mk (wp_mono (wpIn_wide.1 (hX.code none ρ nt mask x fr s _ r E w a (.inl rfl) hnt h hr hf)) fun e a' w' hp => ?_)
  obtain ⟨ae, fr', s', E', rfl, hk, hst, hr', hf'⟩ := hp
  cases ae with
  | norm => exact ⟨.norm, fr', s', E', rfl, hk, hst, hr', hf'⟩
  | ret => exact ⟨.ret, fr', s', E', rfl, hk, hst, hr', hf'⟩
  | exit id => exact ⟨.exit id, fr', s', E', rfl, hk, hst, hr', hf'⟩
  | goto l =>
    rcases run_onSomeOr (k := fun rest => X (.scope (nt + 65536 * mask) c (C.trCode (nt + 65536 * mask) rest)) fr' s' kx) hk with ⟨rest, hrest, hk⟩ | ⟨hno, hk⟩
    · refine .inl ⟨rest, hrest, ?_⟩
      rw [htr] at hk
      have h1 : (nt + 65536 * mask) % 65536 = nt := by omega
      have h2 : (nt + 65536 * mask) / 65536 = mask := by omega
      rw [h1, h2] at hk
      intro b k cs
      obtain ⟨e, a2, w2, hq, harr⟩ := hX.scope ρ nt mask c rest fr' s' kx r E' w' a' hnt hk hr' hf' b k cs
      exact ⟨e, a2, w2, hq.step hst, harr⟩
    · exact .inr ⟨hno, .goto l, fr', s', E', rfl, hk, hst, hr', hf'⟩
include hcall hcd hdraw
theorem rng_ok (hnt : nt < 65536) {f : Operand} {ps : Array Tmp} {ac bc : Code} {kx : Kx β} (h : (xRng C (trArg [] f) ps.toList (nt + 65536 * mask) ac bc X fr s kx).run ρ = some r) (hr : HRel ρ E s w) (hf : FrRel ρ nt mask E fr a) :
    (Code.rangeFunc f ps ac bc).wpIn (Fw none) 0 P (Post ρ nt mask E s w kx r) a w := by
  obtain ⟨fv, hfv, h⟩ := run_onArg (res_of (ds := []) hf LRel.nil) h
  obtain ⟨v, hv, h⟩ := run_onSome h
  obtain ⟨g, hg, h⟩ := run_onSome h
  obtain ⟨hgy, h⟩ := run_callN h
  have hfe := asFn_eq hv
  obtain ⟨fn0, fst, cap⟩ := v
  have hfn : fn0 = .func g := by cases fn0 <;> simp [Fn.asFunc] at hg; subst hg; rfl
  subst hfn
  rw [hfe] at hfv
  simp only [cv, Option.bind_eq_some_iff, Option.map_eq_some_iff] at hfv
  obtain ⟨us, hus, uc, huc, hx⟩ := hfv
  -- the two blocks
  have hn1 : (E.add s.next w.heap.size 0).blk s.next = some (w.heap.size, 0) := by simp [Mem.add]
  obtain ⟨hr1, hs1⟩ := hr.alloc (.dfr true) (.deferred (some [])) 0 ⟨_, 0, hn1, rfl, heap_alloc_new w _⟩
  let R : Loop := { state := .ready, pending := none, fn := 0, tmps := a.tmps, params := ps, assign := ac, body := bc, defers := w.heap.size }
  refine wpIn_rangeFunc fun fid _ => ?_
  let R2 : Loop := { state := .ready, pending := none, fn := fid, tmps := a.tmps, params := ps, assign := ac, body := bc, defers := w.heap.size }
  have hs1n : (s.new (.dfr true)).next = s.next.succ := rfl
  have hn2 : ((E.add s.next w.heap.size 0).add s.next.succ (w.heap.size + 1) 0).blk s.next.succ = some (w.heap.size + 1, 0) := by simp [Mem.add]
  have hsz : (w.alloc (.deferred (some []))).heap.size = w.heap.size + 1 := by
    show (w.heap.push _).size = _
    simp
  have hf1 := hf.mono hs1.le
  have hle2 : Mem.Le (E.add s.next w.heap.size 0) ((E.add s.next w.heap.size 0).add s.next.succ (w.alloc (.deferred (some []))).heap.size 0) := Mem.le_addAt (free_next hr1)
  have hf2 := hf1.mono hle2
  have hdm : (nt + 65536 * mask) % 65536 = nt := by omega
  have hdd : (nt + 65536 * mask) / 65536 = mask := by omega
  obtain ⟨hr2, hs2⟩ := hr1.alloc (.lrec .ready (nt + 65536 * mask) fr.tmps ps.toList ac bc) (.loop R2) 0 (by
    rw [hs1n]
    refine ⟨w.heap.size + 1, 0, R2, ?_, rfl, ?_, ⟨rfl, rfl, ?_, ?_, ?_, by simp [R2], rfl, rfl⟩⟩
    · rw [hsz]; exact hn2
    · have := heap_alloc_new (w.alloc (.deferred (some []))) (.loop R2)
      rw [hsz] at this; exact this
    · rw [hdm]; exact hf.size
    · exact fun t v hv => hf2.val t v hv
    · rw [hdd]; exact hf.key)
  rw [hs1n, hsz] at hr2 hs2
  have hst := hs1.trans hs2
  have hyld : cv ρ ((E.add s.next w.heap.size 0).add s.next.succ (w.heap.size + 1) 0) (.yld s.next.succ) = some (.func (.yield (w.heap.size + 1)) #[] #[]) := by simp [cv, hn2]
  have hall : cvs ρ ((E.add s.next w.heap.size 0).add s.next.succ (w.heap.size + 1) 0) (fst ++ [.yld s.next.succ] ++ cap) = some (us ++ [.func (.yield (w.heap.size + 1)) #[] #[]] ++ uc) :=
    cvs_append (cvs_append (cvs_mono hst.le hus) (by simp [cvs, hyld])) (cvs_mono hst.le huc)
  obtain ⟨henter, hcalls⟩ := hcall.fn ρ r g _ _ _ _ _ _ hgy h hr2 hall
  refine ⟨w.heap.size + 1, [{ target := .collected w.heap.size, args := #[] }], (w.alloc (.deferred (some []))).alloc (.loop R2), { target := .fn (.func g) uc.toArray, args := us.toArray ++ #[.func (.yield (w.heap.size + 1)) #[] #[]] }, (w.alloc (.deferred (some []))).alloc (.loop R2), g, _, (w.alloc (.deferred (some []))).alloc (.loop R2), ?_, ?_, fun f' _ => fw_fn none f', ?_, fun hd => (by rw [fw_depth] at hd; cases hd), fw_calls (hcalls.mono ?_)⟩
  · show (Instr.enterLoop fid a.tmps ps ac bc none).run P w = _
    simp [Instr.enterLoop, World.alloc_eq, hsz, R2]
  · have hc : a.eval (.const (.func (.yield (w.heap.size + 1)) #[] #[])) = .func (.yield (w.heap.size + 1)) #[] #[] := rfl
    simp [rangeCall, resolve, Deferred.ofValue, ← hx, hc]
  · have harr : us.toArray ++ #[Value.func (.yield (w.heap.size + 1)) #[] #[]] ++ uc.toArray = (us ++ [Value.func (.yield (w.heap.size + 1)) #[] #[]] ++ uc).toArray := by simp
    simp only [invoke, harr]
    exact henter _ _
  · rintro e w' ⟨v', u', s', E', rfl, hv', hst', hr', hk⟩
    obtain ⟨rc, hrc, hk⟩ := run_onSome hk
    obtain ⟨b, hb, hrc⟩ := Option.bind_eq_some_iff.1 hrc
    have hbe : b = .lrec rc.st rc.m rc.tmps rc.ps rc.ac rc.bc := by cases b <;> simp [Blk.asLrec] at hrc; rw [← hrc]
    subst hbe
    obtain ⟨c, o, L, hbk, ho, hheap, hL⟩ := hr'.blks _ _ hb
    have hbk0 := hst'.le.blk _ _ hn2
    rw [hbk0] at hbk
    cases hbk
    have hobj : (getObj (w.heap.size + 1)).run P w' = .ok (.loop L) w' := by simp [getObj, Sem.run, hheap]
    have hnew : ∀ st' L', st' = RSt.over → L' = { L with state := LoopState.exhausted } → BRel ρ E' s.next.succ (.lrec st' rc.m rc.tmps rc.ps rc.ac rc.bc) (Ab.setBlk w' (w.heap.size + 1) (.loop L')) := by
      intro st' L' h1 h2
      subst h1 h2
      exact ⟨_, 0, _, hbk0, rfl, setBlk_get hheap, ⟨rfl, trivial, hL.size, hL.val, hL.key, hL.params, hL.assign, hL.body⟩⟩
    obtain ⟨g1, g2⟩ := hr'.setBlk hb (by simp [Live]) hbk0 (hnew .over { L with state := LoopState.exhausted } rfl rfl)
    have hset : (setObj (w.heap.size + 1) (.loop { L with state := LoopState.exhausted })).run P w' = .ok () (Ab.setBlk w' (w.heap.size + 1) (.loop { L with state := LoopState.exhausted })) := by simp [setObj, Sem.run, hheap, Ab.setBlk]
    have hnb : rc.st.isBusy = false → (L.state == LoopState.busy) = false := by
      intro hb'
      rw [hL.state]
      cases hh : rc.st <;> rw [hh] at hb' <;> first | rfl | cases hb'
    have hend : rc.st.isBusy = false → (Instr.endLoop (w.heap.size + 1)).run P w' = .ok L.pending (Ab.setBlk w' (w.heap.size + 1) (.loop { L with state := LoopState.exhausted })) := by
      intro hb'
      have hnb' : L.state ≠ LoopState.busy := by
        rw [hL.state]
        cases hh : rc.st <;> rw [hh] at hb' <;> first | (cases hb'; done) | (simp [stOf])
      simp [Instr.endLoop, Instr.getLoop, hobj, hnb', hset]
    have hstep : Step E s w E' (s'.putRec s.next.succ rc .over) (Ab.setBlk w' (w.heap.size + 1) (.loop { L with state := LoopState.exhausted })) := (hst.trans hst').trans g2
    have hfr : FrRel ρ nt mask E' ⟨fr.tmps, (.yld s.next, []) :: fr.defs⟩ { a with defers := [{ target := .collected w.heap.size, args := #[] }] ++ a.defers } := by
      have hE' : Mem.Le E E' := hst.le.trans hst'.le
      have h3 := hf.mono hE'
      exact ⟨h3.size, h3.val, h3.key, .col (hst'.le.blk _ _ (hle2.blk _ _ hn1 |> fun h => by rw [hsz] at h; exact h)) h3.defs⟩
    have hpend := hL.pend
    cases hst0 : rc.st with
    | ready =>
      rw [hst0] at hk hpend
      have hk : (kx .norm ⟨fr.tmps, (.yld s.next, []) :: fr.defs⟩ (s'.putRec s.next.succ rc .over)).run ρ = some r := hk
      have hpend : L.pending = none := hpend
      refine ⟨none, _, by rw [← hpend]; exact hend (by rw [hst0]; rfl), ?_⟩
      exact ⟨.norm, _, _, E', rfl, hk, hstep, g1, hfr⟩
    | busy => rw [hst0] at hk; cases hk
    | over => rw [hst0] at hk; cases hk
    | done j =>
      rw [hst0] at hk hpend
      have hpend : L.pending = some (jumpC j) := hpend
      refine ⟨some (jumpC j), _, by rw [← hpend]; exact hend (by rw [hst0]; rfl), ?_⟩
      cases j with
      | ret =>
        have hk : (kx .ret ⟨fr.tmps, (.yld s.next, []) :: fr.defs⟩ (s'.putRec s.next.succ rc .over)).run ρ = some r := hk
        exact wpIn_ret ⟨.ret, _, _, E', rfl, hk, hstep, g1, hfr⟩
      | exit id =>
        have hk : (kx (.exit id) ⟨fr.tmps, (.yld s.next, []) :: fr.defs⟩ (s'.putRec s.next.succ rc .over)).run ρ = some r := hk
        exact wpIn_exit ⟨.exit id, _, _, E', rfl, hk, hstep, g1, hfr⟩
      | goto l =>
        have hk : (kx (.goto l) ⟨fr.tmps, (.yld s.next, []) :: fr.defs⟩ (s'.putRec s.next.succ rc .over)).run ρ = some r := hk
        exact wpIn_goto ⟨.goto l, _, _, E', rfl, hk, hstep, g1, hfr⟩
theorem ex_code {rd : Option Nat} {c : Code} (hrd : rd = none ∨ rok c = true) (hnt : nt < 65536) {kx : Kx β} (h : (ex1 P C cd (tr P nt mask c) X fr s kx).run ρ = some r) (hr : HRel ρ E s w) (hf : FrRel ρ nt mask E fr a) : c.wpIn (Fw rd) 0 P (Post ρ nt mask E s w kx r) a w := by
  cases c with
  | skip => exact wpIn_skip ⟨.norm, fr, s, E, rfl, h, .refl .., hr, hf⟩
  | label l => exact wpIn_label ⟨.norm, fr, s, E, rfl, h, .refl .., hr, hf⟩
  | exit id => exact wpIn_exit ⟨.exit id, fr, s, E, rfl, h, .refl .., hr, hf⟩
  | goto l => exact wpIn_goto ⟨.goto l, fr, s, E, rfl, h, .refl .., hr, hf⟩
  | ret => exact wpIn_ret ⟨.ret, fr, s, E, rfl, h, .refl .., hr, hf⟩
  | refuse _ => cases h
  | rangeFunc f ps ac bc =>
    rcases hrd with rfl | h0
    · exact rng_ok hX hcall hcd hdraw htr hnt h hr hf
    · cases h0
  | loop b => exact (ex_loop hX (c := b) hrd hnt h hr hf).wpIn
  | scope b =>
    rcases hrd with rfl | h0
    · exact wpIn_wide.2 (ex_scope hX htr hnt h hr hf).wp
    · cases h0
  | seq x y =>
    have h : (X (tr P nt mask x) fr s (afterSeq X (tr P nt mask y) kx)).run ρ = some r := h
    refine wpIn_seq (wpIn_mono (hX.code rd ρ nt mask x fr s _ r E w a (hrd.imp id fun h => by simp only [rok, Bool.and_eq_true] at h; exact h.1) hnt h hr hf) fun e a' w' hp => ?_)
    refine after_ok hX (Q := Post ρ nt mask E s w kx r) rfl (fun fr' s' E' w' a' h' hst hr' hf' => ?_) hp
    exact wpIn_mono (hX.code rd ρ nt mask y fr' s' kx r E' w' a' (hrd.imp id fun h => by simp only [rok, Bool.and_eq_true] at h; exact h.2) hnt h' hr' hf') fun e a2 w2 hq => hq.step hst
  | cond c x y =>
    have h : (onArg (trArg [] c) [] fr fun v => onBool 210 v s fun t s => X (bif t then tr P nt mask x else tr P nt mask y) fr s kx).run ρ = some r := h
    obtain ⟨v, hv, h⟩ := run_onArg (res_of (ds := []) hf LRel.nil) h
    obtain ⟨b, s', hb, hm, h⟩ := run_onBool (E := E) hr.asm h
    rw [hb] at hv
    refine wpIn_cond (t := b) (Option.some.inj hv).symm ?_
    cases b with
    | true => exact wpIn_mono (hX.code rd ρ nt mask x fr s' kx r E w a (hrd.imp id fun h => by simp only [rok, Bool.and_eq_true] at h; exact h.1) hnt h (hr.more hm) hf) fun e a2 w2 hq => hq.step (.more hm)
    | false => exact wpIn_mono (hX.code rd ρ nt mask y fr s' kx r E w a (hrd.imp id fun h => by simp only [rok, Bool.and_eq_true] at h; exact h.2) hnt h (hr.more hm) hf) fun e a2 w2 hq => hq.step (.more hm)
  | block id b =>
    have h : (X (tr P nt mask b) fr s (afterBlock id kx)).run ρ = some r := h
    refine wpIn_block (wpIn_mono (hX.code rd ρ nt mask b fr s _ r E w a hrd hnt h hr hf) fun e a' w' hp => ?_)
    obtain ⟨ae, fr', s', E', rfl, hk, hst, hr', hf'⟩ := hp
    cases ae with
    | norm => exact ⟨.norm, fr', s', E', rfl, hk, hst, hr', hf'⟩
    | ret => exact ⟨.ret, fr', s', E', rfl, hk, hst, hr', hf'⟩
    | goto l => exact ⟨.goto l, fr', s', E', rfl, hk, hst, hr', hf'⟩
    | exit i =>
      show (if i = id then _ else _)
      rcases run_ifB (b := Nat.beq i id) (t := kx .norm fr' s') (e := kx (.exit i) fr' s') hk with ⟨hb, hk⟩ | ⟨hb, hk⟩
      · rw [if_pos (by simpa using hb)]
        exact ⟨.norm, fr', s', E', rfl, hk, hst, hr', hf'⟩
      · rw [if_neg (by intro e; subst e; simp at hb)]
        exact ⟨.exit i, fr', s', E', rfl, hk, hst, hr', hf'⟩
  | region id ops draw =>
    cases draw with
    | false =>
      have h : (runR P (callA C X) (trOps P nt mask ops ops.toList []) (kx .norm) [] fr s).run ρ = some r := h
      refine wpIn_region ?_
      have := region_ok (rd := rd) (nt := nt) (mask := mask) (Q := Post ρ nt mask E s w kx r) hrd hcall ops.toList [] rfl [] [] fr s E w a h hr hf LRel.nil (fun d hd => by cases hd)
        (fun fr' s' E' w' a' hk hst hr' hf' => ⟨.norm, fr', s', E', rfl, hk, hst, hr', hf'⟩)
      rw [List.range_eq_range']
      simpa using this
    | true =>
      obtain ⟨hok, h⟩ := run_guardB (b := drawOk ops (trOps P nt mask ops ops.toList [])) (w := 211) (t := doD P cd (trOps P nt mask ops ops.toList []) (winsOf ops (trOps P nt mask ops ops.toList [])) fr s (kx .norm)) h
      exact hdraw β ρ cd nt mask id ops fr s E w a r (kx .norm) _ rd hcd hok h hr hf (fun fr' s' E' w' a' hk hst hr' hf' => ⟨.norm, fr', s', E', rfl, hk, hst, hr', hf'⟩)
end
end Go.Ab
end

section
namespace Go.Ab
variable {β : Type} {P : Program} {ρ : Val} {E : Mem} {s : St} {w : World} {r : β} {k : Kv β}
variable {ds : List (Option Nat)} {ls : List AV} {fr : Fr} {a : Act} {call : CallT β} {nt mask : Nat}

/-! ### results -/
theorem run_loadCell {t : TypeId} {n : Option Nat} (hn : aggT P t = some n) (hr : HRel ρ E s w) {x : AV} {ux : Value} (hx : cv ρ E x = some ux) {v : AV} (h : (x.asPtr.bind fun a => s.load n a.p a.off) = some v) :
    ∃ u, cv ρ E v = some u ∧ (do loadVar t (← asAddr ux) : Sem Value).run P w = .ok u w := by
  obtain ⟨pa, hpa, hl⟩ := Option.bind_eq_some_iff.1 h
  have hd : (doLd n x s (fun v s => Tree.ok (v, s))).run ρ = some (v, s) := by
    unfold doLd
    rw [hpa]
    show (onSome _ (s.load n pa.p pa.off) _).run ρ = _
    rw [hl]
    rfl
  obtain ⟨v', u, s', hm, hv, hrun, hk⟩ := q_ld (P := P) hr hd hx hn
  simp only [Tree.run, Option.some.injEq, Prod.mk.injEq] at hk
  obtain ⟨rfl, rfl⟩ := hk
  refine ⟨u, hv, ?_⟩
  rw [asPtr_eq hpa] at hx
  simp only [cv, Option.map_eq_some_iff] at hx
  obtain ⟨c, hc, rfl⟩ := hx
  simpa [Instr.loadAt, Instr.sureAddr, asAddr] using hrun
def resSem (a : Act) (x : ResultVar) : Sem Value :=
  match x with
  | .tmp t => pure (a.tmps.getD t undef)
  | .cell t ty => do loadVar ty (← asAddr (a.tmps.getD t undef))
theorem DRel.nil_eq {xs : List Deferred} (h : DRel ρ E [] xs) : xs = [] := by cases h; rfl
theorem resVs_ok (hr : HRel ρ E s w) (hf : FrRel ρ nt mask E fr a) : ∀ {rl : List ResultVar} {res : List ARes} {vs : List AV}, trRess P rl = some res → resVs fr s res = some vs →
    ∃ us, cvs ρ E vs = some us ∧ (rl.mapM (resSem a)).run P w = .ok us w
  | [], res, vs, h1, h2 => by
    simp [trRess] at h1; subst h1
    simp [resVs] at h2; subst h2
    exact ⟨[], by simp [cvs], rfl⟩
  | x :: rl, res, vs, h1, h2 => by
    unfold trRess at h1
    cases hx : trRes P x with
    | none => rw [hx] at h1; cases h1
    | some y =>
      cases hl : trRess P rl with
      | none => rw [hx, hl] at h1; cases h1
      | some ys =>
        rw [hx, hl] at h1
        simp only [Option.some.injEq] at h1
        subst h1
        have h2 : ((resV y fr s).bind fun v => (resVs fr s ys).map fun vs => v :: vs) = some vs := h2
        obtain ⟨v, hv, h2⟩ := Option.bind_eq_some_iff.1 h2
        obtain ⟨vs', hvs', rfl⟩ := Option.map_eq_some_iff.1 h2
        obtain ⟨us, hus, hrun⟩ := resVs_ok hr hf hl hvs'
        have hone : ∃ u, cv ρ E v = some u ∧ (resSem a x).run P w = .ok u w := by
          cases x with
          | tmp t =>
            cases hx
            exact ⟨_, hf.val t v hv, rfl⟩
          | cell t ty =>
            simp only [trRes, Option.map_eq_some_iff] at hx
            obtain ⟨n, hn, rfl⟩ := hx
            have hv : ((fr.tmps.get (posOf t)).bind fun v => v.asPtr.bind fun a => s.load n a.p a.off) = some v := hv
            obtain ⟨p, hp, hv⟩ := Option.bind_eq_some_iff.1 hv
            exact run_loadCell hn hr (hf.val t p hp) hv
        obtain ⟨u, hu, hurun⟩ := hone
        refine ⟨u :: us, cvs_cons_mk hu hus, ?_⟩
        rw [List.mapM_cons]
        simp only [Sem.run_bind, hurun, Result.andThen_ok, hrun, Sem.run_pure]
theorem finish_ok {fn : Func} {i : FnInfo} (hres : trRess P fn.results.toList = some i.res) (hr : HRel ρ E s w) (hf : FrRel ρ nt mask E fr a) (h : (finish i fr s k).run ρ = some r) :
    ∃ v u, (results fn a.tmps).run P w = .ok u w ∧ cv ρ E v = some u ∧ (k v s).run ρ = some r := by
  obtain ⟨vs, hvs, h⟩ := run_onSome h
  obtain ⟨us, hus, hrun⟩ := resVs_ok hr hf hres hvs
  refine ⟨oneOr vs, if h : us.toArray.size = 1 then us.toArray[0] else .tuple us.toArray, ?_, ?_, h⟩
  · have hm : (fn.results.mapM (resSem a)).run P w = .ok us.toArray w := by
      have : fn.results = fn.results.toList.toArray := by simp
      rw [this, List.mapM_toArray]
      simp only [Sem.run_map, hrun]
      rfl
    have hrs : results fn a.tmps = (do let vs ← fn.results.mapM (resSem a); pure (if h : vs.size = 1 then vs[0] else .tuple vs)) := rfl
    rw [hrs]
    simp only [Sem.run_bind, hm, Result.andThen_ok, Sem.run_pure]
  · have hlen := cvs_length hus
    unfold oneOr
    split
    · obtain ⟨x, y, rfl, hx, hy⟩ := cvs_cons hus
      rw [cvs_nil hy]
      simpa using hx
    · rename_i hne
      have : ¬ us.toArray.size = 1 := by
        intro h1
        simp at h1
        rw [hlen] at h1
        match vs, h1 with
        | [v], _ => exact hne v rfl
      rw [dif_neg this]
      simp [cv, hus]

/-! ### calls -/
structure InfoOk (P : Program) (f : FuncId) (i : FnInfo) (fn : Func) (c : Code) : Prop where
  func : P.funcs[f]? = some fn
  body : fn.body = some c
  name : (fn.name == "runtime.NumGoroutine") = false
  nt : i.ntmps = fn.ntmps
  lt : i.ntmps < 65536
  code : i.code = tr P i.ntmps i.mask c
  res : trRess P fn.results.toList = some i.res
def SumOk (P : Program) (f : FuncId) (g : List AV → St → Kv β → Tree β) : Prop := ∀ ρ (r : β) args s k E w us, (g args s k).run ρ = some r → HRel ρ E s w → cvs ρ E args = some us →
  (∀ (as : Array Value) (w' : World), (callFunc f as).run P w' = .ok (.enter f as) w') ∧ Calls P f us.toArray w (Out P ρ E s w k r)
structure CtxOk (P : Program) (C : Ctx) : Prop where
  info : ∀ f i, C.info f = some i → ∃ fn c, InfoOk P f i fn c
  trCode : ∀ m c, C.trCode m c = tr P (m % 65536) (m / 65536) c
  sum : ∀ f g, C.sum f = some g → ∀ β : Type, SumOk P f (g β)
theorem InfoOk.enter {f : FuncId} {i : FnInfo} {fn : Func} {c : Code} (h : InfoOk P f i fn c) (as : Array Value) : (callFunc f as).run P w = .ok (.enter f as) w := by
  have hn : ¬ fn.name = "runtime.NumGoroutine" := by simpa using h.name
  simp [callFunc, h.func, hn, h.body]
theorem initT_get : ∀ (l : List AV) (n : Nat) (t0 : Trie AV) (t : Nat) (v : AV), (initT mask l n t0).get (posOf t) = some v →
    (t0.get (posOf t) = some v) ∨ (n ≤ t ∧ l[t - n]? = some v ∧ mask.testBit t = true)
  | [], n, t0, t, v, h => .inl h
  | x :: l, n, t0, t, v, h => by
    have h' : (initT mask l (n + 1) (bif Nat.testBit mask n then t0.put (posOf n) (some x) else t0)).get (posOf t) = some v := h
    rcases initT_get l (n + 1) _ t v h' with h1 | ⟨h1, h2, h3⟩
    · cases hm : Nat.testBit mask n with
      | false => rw [hm] at h1; exact .inl h1
      | true =>
        rw [hm] at h1
        simp only [cond_true, Trie.get_put] at h1
        by_cases e : posOf t = posOf n
        · rw [if_pos e] at h1
          have := posOf_inj e
          subst this
          cases h1
          exact .inr ⟨Nat.le_refl _, by simp, hm⟩
        · rw [if_neg e] at h1; exact .inl h1
    · refine .inr ⟨by omega, ?_, h3⟩
      rw [show t - n = (t - (n + 1)) + 1 from by omega]
      simpa using h2
theorem init_rel {args : List AV} {us : List Value} (ha : cvs ρ E args = some us) (hle : args.length ≤ nt) :
    FrRel ρ nt mask E ⟨initT mask args 0 .lf, []⟩ { tmps := us.toArray ++ Array.replicate (nt - us.toArray.size) undef, defers := [] } := by
  have hlen := cvs_length ha
  have key : ∀ t v, (initT mask args 0 .lf).get (posOf t) = some v → args[t]? = some v ∧ mask.testBit t = true := by
    intro t v h
    rcases initT_get args 0 .lf t v h with h1 | ⟨_, h2, h3⟩
    · have : (Trie.lf : Trie AV).get (posOf t) = none := Trie.get_lf _
      rw [this] at h1; cases h1
    · exact ⟨by simpa using h2, h3⟩
  refine ⟨by simp; omega, fun t v hv => ?_, fun t v hv => (key t v hv).2, .nil⟩
  obtain ⟨h1, _⟩ := key t v hv
  obtain ⟨u, hu, hc⟩ := cvs_get t ha h1
  rw [hc]
  obtain ⟨hlt, hu'⟩ := List.getElem?_eq_some_iff.1 hu
  simp [Array.getD_eq_getD_getElem?, Array.getElem?_append, hlt, hu']
theorem run_onSum {o : Option SumT} {k : SumT → Tree β} {e : Tree β} (h : (onSum o k e).run ρ = some r) : (∃ a, o = some a ∧ (k a).run ρ = some r) ∨ (o = none ∧ e.run ρ = some r) := by
  cases o with
  | none => exact .inr ⟨rfl, h⟩
  | some a => exact .inl ⟨a, rfl, h⟩
section
variable {C : Ctx} {X : Ex β} (hX : ExOk P X) (hC : CtxOk P C)
include hX
theorem enter_ok {f : FuncId} {i : FnInfo} {fn : Func} {c : Code} (hi : InfoOk P f i fn c) {args : List AV} {us : List Value} {K : Fr → St → Tree β} (ha : cvs ρ E args = some us) (hr : HRel ρ E s w) (h : (enterF X i args s K).run ρ = some r) {Q : Exit → Act → World → Prop}
    (hQ : ∀ e fr' s' E' w' a', (e = .normal ∨ e = .ret) → (K fr' s').run ρ = some r → Step E s w E' s' w' → HRel ρ E' s' w' → FrRel ρ i.ntmps i.mask E' fr' a' → Q e a' w') :
    c.wpIn Fence.wide 0 P Q { tmps := us.toArray ++ Array.replicate (fn.ntmps - us.toArray.size) undef, defers := [] } w := by
  obtain ⟨hle, h⟩ := run_guardB h
  have hle : args.length ≤ i.ntmps := by simpa using hle
  rw [hi.code] at h
  rw [← hi.nt]
  refine wpIn_mono (hX.code none ρ i.ntmps i.mask c _ s _ r E w _ (.inl rfl) hi.lt h hr (init_rel ha hle)) fun e a' w' hp => ?_
  obtain ⟨ae, fr', s', E', rfl, hk, hst, hr', hf'⟩ := hp
  cases ae with
  | norm => exact hQ _ fr' s' E' w' a' (.inl rfl) hk hst hr' hf'
  | ret => exact hQ _ fr' s' E' w' a' (.inr rfl) hk hst hr' hf'
  | exit id => cases hk
  | goto l => cases hk
include hC
theorem runDefs_ok {fn : Func} {tmps : Array Value} {R : Ending → World → Prop} : ∀ (l : List (AV × List AV)) (xs : List Deferred) (s : St) (E : Mem) (w : World) (K : St → Tree β), DRel ρ E l xs → (runDefs C X l s K).run ρ = some r → HRel ρ E s w →
    (∀ s' E' w', (K s').run ρ = some r → Step E s w E' s' w' → HRel ρ E' s' w' → ∃ v, (results fn tmps).run P w' = .ok v w' ∧ R (.returned v) w') → LeavesInM Fence.wide 0 P fn tmps R xs .returning w
  | [], xs, s, E, w, K, hd, h, hr, hK => by
    cases hd
    exact hK s E w h (.refl ..) hr
  | d :: l, xs, s, E, w, K, hd, h, hr, hK => by
    cases hd with
    | @col p c0 _ xs' hpc hdl =>
      have h : (onSomeOr (AV.yld p).asYld (fun p => onSome 413 ((s.heap.get p).bind Blk.asDfr) fun b => guardB b 413 (runDefs C X l (s.put p (.dfr false)) K)) (.bad 0)).run ρ = some r := h
      obtain ⟨b, hb, h⟩ := run_onSome (k := fun b => guardB b 413 (runDefs C X l (s.put p (.dfr false)) K)) h
      obtain ⟨hbt, h⟩ := run_guardB h
      subst hbt
      obtain ⟨bl, hbl, hb⟩ := Option.bind_eq_some_iff.1 hb
      have hbe : bl = .dfr true := by cases bl <;> simp [Blk.asDfr] at hb; rw [hb]
      subst hbe
      obtain ⟨c, o, hbk, rfl, hheap⟩ := hr.blks _ _ hbl
      rw [hpc] at hbk
      cases hbk
      obtain ⟨g1, g2⟩ := hr.setBlk (nb := .dfr false) (obj := .deferred none) hbl (by simp [Live]) hpc ⟨c0, 0, hpc, rfl, setBlk_get hheap⟩
      refine ⟨by simp, .inl ⟨c0, _, rfl, ?_, runDefs_ok l xs' _ E _ K hdl h g1 fun s2 E2 w2 hk2 hst2 hr2 => hK s2 E2 w2 hk2 (g2.trans hst2) hr2⟩⟩
      have hheap : w.heap[c0]? = some (.deferred (some [])) := hheap
      simp [Instr.takeDeferred, getObj, setObj, Sem.run, hheap, Ab.setBlk]
    | cons hd1 hdl =>
    rename_i x xs
    obtain ⟨f, args⟩ := d
    obtain ⟨fn0, fst, cap, us, ufst, ucap, h1, h2, h3, h4, rfl⟩ := hd1
    simp only at h1 h4
    have h : (onSomeOr f.asYld (fun p => onSome 413 ((s.heap.get p).bind Blk.asDfr) fun b => guardB b 413 (runDefs C X l (s.put p (.dfr false)) K)) (onSome 206 f.asFn fun v => onSome 206 (Fn.asFunc v.fn) fun f => onSome 204 (C.info f) fun i =>
      enterF X i (v.first ++ args ++ v.cap) s fun fr s => guardB (noDefs fr) 205 (finish i fr s fun _ s => runDefs C X l s K))).run ρ = some r := h
    rw [show f.asYld = none from by rw [h1]; rfl] at h
    have h : (onSome 206 f.asFn fun v => onSome 206 (Fn.asFunc v.fn) fun f => onSome 204 (C.info f) fun i =>
      enterF X i (v.first ++ args ++ v.cap) s fun fr s => guardB (noDefs fr) 205 (finish i fr s fun _ s => runDefs C X l s K)).run ρ = some r := h
    obtain ⟨fv, hfv, h⟩ := run_onSome h
    obtain ⟨g, hg, h⟩ := run_onSome h
    obtain ⟨i, hi, h⟩ := run_onSome h
    obtain ⟨fn', c, hi'⟩ := hC.info g i hi
    have hfe := asFn_eq hfv
    rw [h1] at hfe
    obtain ⟨fn1, fst1, cap1⟩ := fv
    simp only [AV.func.injEq] at hfe
    obtain ⟨rfl, rfl, rfl⟩ := hfe
    have hfn : fn0 = .func g := by cases fn0 <;> simp [Fn.asFunc] at hg; subst hg; rfl
    subst hfn
    have hall := cvs_append (cvs_append h2 h4) h3
    have harr : ufst.toArray ++ us.toArray ++ ucap.toArray = (ufst ++ us ++ ucap).toArray := by simp
    refine ⟨by simp, .inr ⟨fun hd => (by cases hd), .func g, ucap.toArray, g, (ufst ++ us ++ ucap).toArray, rfl, ?_, fun g _ => trivial, ?_⟩⟩
    · show (callFunc g _).run P w = _
      rw [harr]
      exact hi'.enter _
    · refine CallsDIn.mono (callsDIn_of_wp (F := Fence.wide) (n := 0) (u := .returning) (R := fun e w' => ∃ v s' E', e = .returned v ∧ (runDefs C X l s' K).run ρ = some r ∧ Step E s w E' s' w' ∧ HRel ρ E' s' w') hi'.func hi'.body trivial ?_) ?_
      · refine enter_ok hX hi' hall hr h fun e fr' s' E' w' a' he hk hst hr' hf' => ?_
        obtain ⟨hnd, hk⟩ := run_guardB hk
        obtain ⟨v, u, hres, hv, hk⟩ := finish_ok hi'.res hr' hf' hk
        have hdn : a'.defers = [] := by
          have := hf'.defs
          cases hdd : fr'.defs with
          | nil => rw [hdd] at this; exact this.nil_eq
          | cons _ _ => simp [noDefs, hdd] at hnd
        rcases he with rfl | rfl
        · exact ⟨hdn, u, hres, u, s', E', rfl, hk, hst, hr'⟩
        · exact ⟨hdn, u, hres, u, s', E', rfl, hk, hst, hr'⟩
      · rintro e u' w' ⟨rfl, v, s', E', rfl, hk, hst, hr'⟩
        exact runDefs_ok l xs s' E' w' K (hdl.mono hst.le) hk hr' fun s2 E2 w2 hk2 hst2 hr2 => hK s2 E2 w2 hk2 (hst.trans hst2) hr2
omit hX hC in
theorem recAt_eq {p : Pos} {rc : LRec} (h : s.recAt p = some rc) : s.heap.get p = some (.lrec rc.st rc.m rc.tmps rc.ps rc.ac rc.bc) := by
  obtain ⟨b, hb, h⟩ := Option.bind_eq_some_iff.1 h
  cases b <;> simp [Blk.asLrec] at h
  rw [hb, ← h]
omit hX hC in
theorem noDefs_nil {fr : Fr} (h : noDefs fr = true) : fr.defs = [] := by
  cases hd : fr.defs with
  | nil => rfl
  | cons _ _ => simp [noDefs, hd] at h
omit hX hC in
/-- a record is written -/
theorem rec_set (hr : HRel ρ E s w) {p : Pos} {rc : LRec} {c o : Nat} (hrc : s.recAt p = some rc) (hb : E.blk p = some (c, o)) : ∃ L : Loop, o = 0 ∧ w.heap[c]? = some (.loop L) ∧ RecRel ρ E rc.st rc.m rc.tmps rc.ps rc.ac rc.bc L ∧
    ∀ st L', (∀ x, x = { L with state := L'.state, pending := L'.pending } → L' = x) → L'.state = stOf st → pendOk st L'.pending → (setObj c (.loop L')).run P w = .ok () (Ab.setBlk w c (.loop L')) ∧ HRel ρ E (s.putRec p rc st) (Ab.setBlk w c (.loop L')) ∧ Step E s w E (s.putRec p rc st) (Ab.setBlk w c (.loop L')) := by
  obtain ⟨c2, o2, L, h1, h2, h3, h4⟩ := hr.blks _ _ (recAt_eq hrc)
  rw [hb] at h1
  cases h1
  refine ⟨L, h2, h3, h4, fun st L' hL' hs hp => ?_⟩
  have e := hL' _ rfl
  have hobj : ∀ x, x = L' → x.tmps = L.tmps ∧ x.params = L.params ∧ x.assign = L.assign ∧ x.body = L.body := by
    intro x hx
    rw [hx, e]
    exact ⟨rfl, rfl, rfl, rfl⟩
  obtain ⟨e1, e2, e3, e4⟩ := hobj L' rfl
  obtain ⟨g1, g2⟩ := hr.setBlk (nb := .lrec st rc.m rc.tmps rc.ps rc.ac rc.bc) (obj := .loop L') (recAt_eq hrc) (by simp [Live]) hb
    ⟨c, o, L', hb, h2, setBlk_get h3, ⟨hs, hp, by rw [e1]; exact h4.size, fun t v hv => by rw [e1]; exact h4.val t v hv, h4.key, by rw [e2]; exact h4.params, by rw [e3]; exact h4.assign, by rw [e4]; exact h4.body⟩⟩
  exact ⟨by simp [setObj, Sem.run, h3, Ab.setBlk], g1, g2⟩
omit hX hC in
theorem putPs_ok {nt mask : Nat} : ∀ (ps : List Nat) (vs : List AV) (us : List Value) (T : Trie AV) (tmps : Array Value), cvs ρ E vs = some us → tmps.size = nt → (∀ t v, T.get (posOf t) = some v → cv ρ E v = some (tmps.getD t undef)) →
    (∀ t v, T.get (posOf t) = some v → mask.testBit t = true) → psOk nt ps = true →
    ((ps.zip us).foldl (fun tmps x => tmps.setIfInBounds x.1 x.2) tmps).size = nt ∧ (∀ t v, (putPs mask ps vs T).get (posOf t) = some v → cv ρ E v = some (((ps.zip us).foldl (fun tmps x => tmps.setIfInBounds x.1 x.2) tmps).getD t undef)) ∧
    (∀ t v, (putPs mask ps vs T).get (posOf t) = some v → mask.testBit t = true)
  | [], vs, us, T, tmps, h1, h2, h3, h4, h5 => ⟨by simpa using h2, by simpa [putPs] using h3, by simpa [putPs] using h4⟩
  | t0 :: ps, [], us, T, tmps, h1, h2, h3, h4, h5 => by
    simp [cvs] at h1; subst h1
    exact ⟨by simpa using h2, by simpa [putPs] using h3, by simpa [putPs] using h4⟩
  | t0 :: ps, v0 :: vs, us, T, tmps, h1, h2, h3, h4, h5 => by
    obtain ⟨u0, us', rfl, hu0, hus'⟩ := cvs_cons h1
    simp only [psOk, Bool.and_eq_true, Nat.blt_eq] at h5
    have hlt : t0 < tmps.size := by rw [h2]; exact h5.1.1
    have hother : ∀ t, t ≠ t0 → (tmps.setIfInBounds t0 u0).getD t undef = tmps.getD t undef := fun t ht => by
      simp [Array.getD_eq_getD_getElem?, Array.getElem?_setIfInBounds, Ne.symm ht]
    have hself : (tmps.setIfInBounds t0 u0).getD t0 undef = u0 := by simp [Array.getD_eq_getD_getElem?, Array.getElem?_setIfInBounds, hlt]
    have hrec := putPs_ok (mask := mask) ps vs us' (bif Nat.testBit mask t0 then T.put (posOf t0) (some v0) else T) (tmps.setIfInBounds t0 u0) hus' (by simpa using h2) ?_ ?_ h5.2
    · exact hrec
    · intro t v hv
      cases hm : Nat.testBit mask t0 with
      | false =>
        rw [hm] at hv
        rw [hother t (fun e => by subst e; have := h4 t v hv; rw [hm] at this; cases this)]
        exact h3 t v hv
      | true =>
        rw [hm] at hv
        simp only [cond_true, Trie.get_put] at hv
        by_cases e : posOf t = posOf t0
        · rw [if_pos e] at hv; cases hv
          rw [posOf_inj e, hself]; exact hu0
        · rw [if_neg e] at hv
          rw [hother t (fun e' => e (by rw [e']))]
          exact h3 t v hv
    · intro t v hv
      cases hm : Nat.testBit mask t0 with
      | false => rw [hm] at hv; exact h4 t v hv
      | true =>
        rw [hm] at hv
        simp only [cond_true, Trie.get_put] at hv
        by_cases e : posOf t = posOf t0
        · rw [posOf_inj e]; exact hm
        · rw [if_neg e] at hv; exact h4 t v hv
theorem round_ok {p : Pos} {args : List AV} {c o : Nat} {us : List Value} (h : (yieldA C X (.yld p :: args) s k).run ρ = some r) (hr : HRel ρ E s w) (hb : E.blk p = some (c, o)) (ha : cvs ρ E args = some us) :
    ∃ f tmps assign body, (Instr.yield c us.toArray).run P w = .ok (.round c f tmps assign body) w ∧ RoundIn Fence.wide 0 P c f tmps assign body w (Out P ρ E s w k r) := by
  obtain ⟨y, vs', hyv, h⟩ := run_headTail h
  cases hyv
  obtain ⟨p', hp', h⟩ := run_onSome h
  cases hp'
  obtain ⟨rc, hrc, h⟩ := run_onSome h
  obtain ⟨hg, h⟩ := run_guardB h
  simp only [Bool.and_eq_true, Nat.beq_eq] at hg
  obtain ⟨⟨hlen, hps⟩, hrok⟩ := hg
  obtain ⟨L, rfl, hheap, hL, _⟩ := rec_set (P := P) hr hrc hb
  have hobj : (getObj c).run P w = .ok (.loop L) w := by simp [getObj, Sem.run, hheap]
  have hnt : rc.m % 65536 < 65536 := Nat.mod_lt _ (by omega)
  obtain ⟨q1, q2, q3⟩ := putPs_ok (mask := rc.m / 65536) rc.ps args us rc.tmps L.tmps ha hL.size hL.val hL.key hps
  have hsz : us.toArray.size = L.params.size := by
    rw [hL.params]
    have := cvs_length ha
    simp; omega
  have hfold : (L.params.zip us.toArray).foldl (fun tmps x => tmps.setIfInBounds x.1 x.2) L.tmps = (rc.ps.zip us).foldl (fun tmps x => tmps.setIfInBounds x.1 x.2) L.tmps := by
    rw [hL.params, ← Array.foldl_toList]
    simp
  refine ⟨L.fn, (rc.ps.zip us).foldl (fun tmps x => tmps.setIfInBounds x.1 x.2) L.tmps, rc.ac, rc.bc, ?_, ?_⟩
  · rw [← hfold]
    simp [Instr.yield, Instr.getLoop, hobj, hsz, hL.assign, hL.body]
  · refine roundIn_of_wpIn (F := Fence.wide) trivial ?_
    have hf0 : FrRel ρ (rc.m % 65536) (rc.m / 65536) E ⟨putPs (rc.m / 65536) rc.ps args rc.tmps, []⟩ { tmps := (rc.ps.zip us).foldl (fun tmps x => tmps.setIfInBounds x.1 x.2) L.tmps, defers := [] } := ⟨q1, q2, q3, .nil⟩
    rw [hC.trCode] at h
    refine wpIn_mono (hX.code (some c) ρ _ _ rc.ac _ s _ r E w _ (.inr hrok) hnt h hr hf0) fun e a1 w1 hp => ?_
    obtain ⟨ae, fr1, s1, E1, rfl, hk, hst, hr1, hf1⟩ := hp
    cases ae with
    | ret => cases hk
    | exit id => cases hk
    | goto l => cases hk
    | norm =>
      obtain ⟨hnd, hk⟩ := run_guardB (t := onSome 415 (s1.recAt p) fun r' => guardB (r'.st.isReady && rok rc.bc) 415 (X (C.trCode rc.m rc.bc) fr1 (s1.putRec p r' .busy) (roundEnd p k))) hk
      obtain ⟨rc1, hrc1, hk⟩ := run_onSome hk
      obtain ⟨hg1, hk⟩ := run_guardB hk
      simp only [Bool.and_eq_true] at hg1
      have hb1 := hst.le.blk _ _ hb
      obtain ⟨L1, _, hheap1, hL1, hput1⟩ := rec_set (P := P) hr1 hrc1 hb1
      have hready : rc1.st = .ready := by
        have := hg1.1
        cases hh : rc1.st <;> rw [hh] at this <;> first | rfl | cases this
      have hst1 : L1.state = .ready := by rw [hL1.state, hready]; rfl
      have hpd1 : L1.pending = none := by have := hL1.pend; rw [hready] at this; exact this
      obtain ⟨k1, k2, k3⟩ := hput1 .busy { L1 with state := .busy } (fun x hx => by rw [hx]) rfl hpd1
      have hobj1 : (getObj c).run P w1 = .ok (.loop L1) w1 := by simp [getObj, Sem.run, hheap1]
      refine ⟨Ab.setBlk w1 c (.loop { L1 with state := .busy }), ?_, ?_⟩
      · simp [Instr.beginRound, Instr.getLoop, hobj1, k1, hst1]
      · rw [hC.trCode] at hk
        refine wpIn_mono (hX.code (some c) ρ _ _ rc.bc _ _ _ r E1 _ _ (.inr hg1.2) hnt hk k2 hf1) fun e a2 w2 hp2 => ?_
        obtain ⟨ae2, fr2, s2, E2, rfl, hk2, hst2, hr2, hf2⟩ := hp2
        have hk2 : (guardB (noDefs fr2) 414 (onSome 414 (s2.recAt p) fun r2 => k (.bool ae2.jump.isNone) (s2.putRec p r2 (stAfter ae2.jump)))).run ρ = some r := hk2
        obtain ⟨_, hk2⟩ := run_guardB hk2
        obtain ⟨rc2, hrc2, hk2⟩ := run_onSome hk2
        have hb2 := hst2.le.blk _ _ hb1
        obtain ⟨L2, _, hheap2, hL2, hput2⟩ := rec_set (P := P) hr2 hrc2 hb2
        have hobj2 : (getObj c).run P w2 = .ok (.loop L2) w2 := by simp [getObj, Sem.run, hheap2]
        have fin : ∀ (j : Option RJ) (jc : Option Code), ae2.jump = j → jc = j.map jumpC → ∃ v w', (Instr.endRound c jc).run P w2 = .ok v w' ∧ Out P ρ E s w k r (.returned v) w' := by
          intro j jc hj hjc
          obtain ⟨m1, m2, m3⟩ := hput2 (stAfter j) { L2 with state := if jc.isNone then .ready else .done, pending := jc } (fun x hx => by rw [hx]) (by subst hjc; cases j <;> rfl) (by subst hjc; cases j <;> rfl)
          refine ⟨.bool jc.isNone, _, ?_, .bool j.isNone, .bool jc.isNone, _, E2, rfl, ?_, (hst.trans k3).trans (hst2.trans m3), m2, by rw [← hj]; rw [← hj] at m2; exact hk2⟩
          · have e0 : (Instr.endRound c jc).run P w2 = ((setObj c (.loop { L2 with state := if jc.isNone then .ready else .done, pending := jc })).run P w2).andThen fun _ w' => .ok (.bool jc.isNone) w' := by
              simp [Instr.endRound, Instr.getLoop, hobj2]
            rw [e0, m1]; rfl
          · subst hjc; cases j <;> simp [cv]
        cases ae2 with
        | norm => exact fin none none rfl rfl
        | ret => exact fin (some .ret) (some .ret) rfl rfl
        | exit id => exact fin (some (.exit id)) (some (.exit id)) rfl rfl
        | goto l => exact fin (some (.goto l)) (some (.goto l)) rfl rfl
theorem callA_ok : CallOk P (callA C X) := by
  refine ⟨fun ρ r f args s k E w us hfy h hr ha => ?_, fun ρ r p args s k E w c o us h hr hb ha => ?_⟩
  · rcases run_ifB h with ⟨hy, _⟩ | ⟨_, h⟩
    · exact absurd (by simpa using hy) hfy
    rcases run_onSum h with ⟨g, hg, h⟩ | ⟨_, h⟩
    · exact hC.sum f g hg _ ρ r args s k E w us h hr ha
    · obtain ⟨i, hi, h⟩ := run_onSome h
      obtain ⟨fn, c, hi'⟩ := hC.info f i hi
      refine ⟨fun as w' => hi'.enter as, callsIn_wide.1 (callsIn_of_wp_marks (n := 0) hi'.func hi'.body trivial ?_)⟩
      refine enter_ok hX hi' ha hr h fun e fr' s' E' w' a' he hk hst hr' hf' => ?_
      have fin : LeavesInM Fence.wide 0 P fn a'.tmps (Out P ρ E s w k r) a'.defers .returning w' := by
        rcases run_ifB hk with ⟨hnd, hk⟩ | ⟨_, hk⟩
        · obtain ⟨v, u, hres, hv, hk⟩ := finish_ok hi'.res hr' hf' hk
          have hdn : a'.defers = [] := by
            have := hf'.defs
            rw [noDefs_nil hnd] at this
            exact this.nil_eq
          rw [hdn]
          exact ⟨u, hres, v, u, s', E', rfl, hv, hst, hr', hk⟩
        · refine runDefs_ok hX hC fr'.defs a'.defers s' E' w' _ hf'.defs hk hr' fun s2 E2 w2 hk2 hst2 hr2 => ?_
          obtain ⟨v, u, hres, hv, hk3⟩ := finish_ok hi'.res hr2 (hf'.mono hst2.le) hk2
          exact ⟨u, hres, v, u, s2, E2, rfl, hv, hst.trans hst2, hr2, hk3⟩
      rcases he with rfl | rfl
      · exact fin
      · exact fin
  · rcases run_ifB h with ⟨_, h⟩ | ⟨hy, _⟩
    · exact round_ok hX hC h hr hb ha
    · exact absurd hy (by decide)
end
/-- the executor is right -/
theorem exec_ok {C : Ctx} (hC : CtxOk P C) (hdraw : DrawSound P) : ∀ (n : Nat) (β : Type), ExOk P (exec P C n β)
  | 0, β => ⟨fun _ _ _ _ _ _ _ _ _ _ _ _ _ _ h => by (cases h), fun _ _ _ _ _ _ _ _ _ _ _ _ _ _ h => by (cases h), fun _ _ _ _ _ _ _ _ _ _ _ _ _ h => by (cases h)⟩
  | n + 1, β => by
    have ih := exec_ok hC hdraw n β
    have hcall := callA_ok ih hC
    have hcd := callA_ok (exec_ok hC hdraw n (AV × St)) hC
    exact ⟨fun rd ρ nt mask c fr s k r E w a hrd hnt h hr hf => ex_code ih hcall hcd hdraw hC.trCode hrd hnt h hr hf, fun rd ρ nt mask c fr s k r E w a hrd hnt h hr hf => ex_loop (C := C) (cd := callA C (exec P C n (AV × St))) ih hrd hnt h hr hf,
      fun ρ nt mask c x fr s k r E w a hnt h hr hf => ex_scope (cd := callA C (exec P C n (AV × St))) ih hC.trCode hnt h hr hf⟩
/-- the table of the functions -/
theorem fnInfo_ok {masks : List Nat} {f : FuncId} {i : FnInfo} (h : fnInfo P masks f = some i) : ∃ fn c, InfoOk P f i fn c := by
  unfold fnInfo at h
  cases hf : funcA P f with
  | none => rw [hf] at h; cases h
  | some fn =>
    rw [hf] at h
    simp only at h
    cases hb : fn.body with
    | none => rw [hb] at h; cases h
    | some c =>
      cases hr : trRess P fn.results.toList with
      | none => rw [hb, hr] at h; cases h
      | some res =>
        rw [hb, hr] at h
        simp only at h
        cases hc : (fn.name != "runtime.NumGoroutine" && Nat.blt fn.ntmps 65536) with
        | false => rw [hc] at h; cases h
        | true =>
          rw [hc] at h
          simp only [cond_true, Option.some.injEq] at h
          simp only [Bool.and_eq_true, Nat.blt_eq] at hc
          subst h
          exact ⟨fn, c, funcA_eq hf, hb, by simpa [bne] using hc.1, rfl, hc.2, rfl, hr⟩
end Go.Ab
end

section
namespace Go.Ab
variable {β : Type} {P : Program} {ρ : Val} {E : Mem} {s : St} {w : World} {r : β} {k : Kv β}
variable {ds : List (Option Nat)} {ls : List AV} {fr : Fr} {a : Act} {nt mask : Nat}

/-! ### the order of the text: what is recorded -/
def E0 : Mem := ⟨fun _ => none, fun _ => 0⟩
theorem E0_le (E : Mem) : Mem.Le E0 E := ⟨fun p x h => (by cases h), fun p x h => (by cases h)⟩
theorem bind2_run : ∀ {t : Tree (AV × St)} {asm : List (BE × Bool)} {f : List (BE × Bool) → AV → St → Tree β}, (bind2 t asm f).run ρ = some r → AsmOk ρ asm →
    ∃ v s' asm', t.run ρ = some (v, s') ∧ AsmOk ρ asm' ∧ (f asm' v s').run ρ = some r
  | .ok (v, s'), asm, f, h, ha => ⟨v, s', asm, rfl, ha, h⟩
  | .bad n, asm, f, h, ha => by cases h
  | .br c t e, asm, f, h, ha => by
    have h : (Tree.br c (bind2 t ((c, true) :: asm) f) (bind2 e ((c, false) :: asm) f)).run ρ = some r := h
    simp only [Tree.run] at h
    by_cases hc : c.den ρ = true
    · rw [if_pos hc] at h
      obtain ⟨v, s', asm', h1, h2, h3⟩ := bind2_run h (fun c' b' hm => by
        rcases List.mem_cons.1 hm with e | hm
        · cases e; exact hc
        · exact ha _ _ hm)
      exact ⟨v, s', asm', by simp only [Tree.run]; rw [if_pos hc]; exact h1, h2, h3⟩
    · rw [if_neg hc] at h
      obtain ⟨v, s', asm', h1, h2, h3⟩ := bind2_run h (fun c' b' hm => by
        rcases List.mem_cons.1 hm with e | hm
        · cases e; simpa using hc
        · exact ha _ _ hm)
      exact ⟨v, s', asm', by simp only [Tree.run]; rw [if_neg hc]; exact h1, h2, h3⟩
theorem Pos.nat_eq : ∀ p : Pos, p.nat = p.toNat
  | .xH => rfl
  | .xO p => by show 2 * p.nat = _; rw [Pos.nat_eq p]; rfl
  | .xI p => by show 2 * p.nat + 1 = _; rw [Pos.nat_eq p]; rfl
structure TI where
  s1 : St
  ran : Bool
  v : AV
  b : Blk
  s2 : St
/-- a guard's verdict -/
def GuardR (ρ : Val) (g : Option (Nat × Bool)) (ls : List AV) (ran : Bool) : Prop :=
  match g with
  | none => ran = true
  | some (i, want) => ∃ v, nthL i ls = some v ∧ ((v.asTup.isSome = true ∧ ran = false) ∨ ∃ b, cv ρ E0 v = some (.bool b) ∧ ran = (b == want))
structure ItemOk (P : Program) (ρ : Val) (cd : CallT (AV × St)) (fr : Fr) (o : AOper) (ls : List AV) (s : St) (t : TI) : Prop where
  more : More ρ s t.s1
  asm : AsmOk ρ t.s2.asm
  guard : GuardR ρ o.guard ls t.ran
  skip : t.ran = false → t.v = undefA ∧ t.s2 = t.s1
  ran : t.ran = true → ∃ sr, (evOp P o.op cd ls fr t.s1 okP).run ρ = some (t.v, sr) ∧
      (o.op.cls = 0 → t.s2.heap = t.s1.heap ∧ t.s2.next = t.s1.next) ∧
      (o.op.cls = 1 → sr.heap.get t.s1.next = some t.b ∧ t.s2.heap = t.s1.heap.put t.s1.next (some t.b) ∧ t.s2.next = t.s1.next.succ) ∧
      (o.op.cls = 2 → t.s2.heap = sr.heap ∧ t.s2.next = sr.next ∧ t.s1.next.toNat ≤ sr.next.toNat)
def TraceOk (P : Program) (ρ : Val) (cd : CallT (AV × St)) (fr : Fr) : List AOper → List AV → St → List TI → Prop
  | [], _, _, [] => True
  | o :: l, ls, s, t :: ts => ItemOk P ρ cd fr o ls s t ∧ TraceOk P ρ cd fr l (t.v :: ls) t.s2 ts
  | _, _, _, _ => False
def dNext (o : AOper) (d : DSt) (t : TI) : DSt :=
  ⟨d.j + 1, t.v :: d.ls, ⟨t.ran, d.ls, t.v⟩ :: d.xs, bif Nat.beq o.op.cls 2 then t.s2 :: d.sts else d.sts, bif Nat.beq o.op.cls 1 && t.ran then ⟨d.j, t.s1.next, t.b⟩ :: d.ns else d.ns⟩
def dFin : List AOper → DSt → List TI → DSt
  | o :: l, d, t :: ts => dFin l (dNext o d t) ts
  | _, d, _ => d
def sFin : St → List TI → St
  | s, [] => s
  | _, t :: ts => sFin t.s2 ts
theorem cls_le (o : AOp) : o.cls = 0 ∨ o.cls = 1 ∨ o.cls = 2 := by cases o <;> simp [AOp.cls]
theorem run_guardD {g : Option (Nat × Bool)} {f : Bool → St → Tree β} (ha : AsmOk ρ s.asm) (h : (onGuard g ls s f).run ρ = some r) : ∃ b s1, More ρ s s1 ∧ GuardR ρ g ls b ∧ (f b s1).run ρ = some r := by
  rcases run_onSomeOr h with ⟨⟨i, want⟩, rfl, h⟩ | ⟨rfl, h⟩
  · obtain ⟨v, hv, h⟩ := run_onSome h
    rcases run_ifB h with ⟨hb, h⟩ | ⟨_, h⟩
    · exact ⟨false, s, .refl ha, ⟨v, hv, .inl ⟨hb, rfl⟩⟩, h⟩
    · obtain ⟨b, s', hb, hm, h⟩ := run_onBool (E := E0) ha h
      exact ⟨_, s', hm, ⟨v, hv, .inr ⟨b, hb, rfl⟩⟩, h⟩
  · exact ⟨true, s, .refl ha, rfl, h⟩
theorem runD_trace {cd : CallT (AV × St)} {K : DSt → St → Tree β} : ∀ (as : List AOper) (d : DSt) (s : St), (runD P cd fr as K d s).run ρ = some r → AsmOk ρ s.asm →
    ∃ ts, TraceOk P ρ cd fr as d.ls s ts ∧ (K (dFin as d ts) (sFin s ts)).run ρ = some r
  | [], d, s, h, ha => ⟨[], trivial, h⟩
  | o :: as, d, s, h, ha => by
    have h : (onGuard o.guard d.ls s (runDG P cd fr o (runD P cd fr as K) d)).run ρ = some r := h
    obtain ⟨yes, s1, hm, hg, h⟩ := run_guardD ha h
    have fin : ∀ (t : TI), ItemOk P ρ cd fr o d.ls s t → (runD P cd fr as K (dNext o d t) t.s2).run ρ = some r → ∃ ts, TraceOk P ρ cd fr (o :: as) d.ls s ts ∧ (K (dFin (o :: as) d ts) (sFin s ts)).run ρ = some r := by
      intro t ht h
      obtain ⟨ts, h1, h2⟩ := runD_trace as (dNext o d t) t.s2 h ht.asm
      exact ⟨t :: ts, ⟨ht, h1⟩, h2⟩
    rcases run_ifB h with ⟨rfl, h⟩ | ⟨rfl, h⟩
    · obtain ⟨v, sr, asm', hT, ha', h⟩ := bind2_run h hm.asm
      rcases cls_le o.op with hc | hc | hc
      · have h : (dQuiet (runD P cd fr as K) d s1 asm' v).run ρ = some r := by
          have h : (by3 o.op.cls (dQuiet (runD P cd fr as K) d s1 asm' v) _ _).run ρ = some r := h
          rw [hc] at h; exact h
        refine fin ⟨s1, true, v, .dead, ⟨s1.heap, s1.next, asm'⟩⟩ ⟨hm, ha', hg, fun h => (by cases h), fun _ => ⟨sr, hT, fun _ => ⟨rfl, rfl⟩, fun h1 => ?_, fun h2 => ?_⟩⟩ ?_
        · rw [hc] at h1; cases h1
        · rw [hc] at h2; cases h2
        · have e1 : dNext o d ⟨s1, true, v, .dead, ⟨s1.heap, s1.next, asm'⟩⟩ = ⟨d.j + 1, v :: d.ls, ⟨true, d.ls, v⟩ :: d.xs, d.sts, d.ns⟩ := by simp [dNext, hc]; try (constructor <;> rfl)
          rw [e1]
          exact h
      · have h : (dNew (runD P cd fr as K) d s1 asm' v sr).run ρ = some r := by
          have h : (by3 o.op.cls (dQuiet (runD P cd fr as K) d s1 asm' v) (dNew (runD P cd fr as K) d s1 asm' v sr) _).run ρ = some r := h
          rw [hc] at h; exact h
        obtain ⟨b, hb, h⟩ := run_onSome h
        refine fin ⟨s1, true, v, b, ⟨s1.heap.put s1.next (some b), s1.next.succ, asm'⟩⟩ ⟨hm, ha', hg, fun h => (by cases h), fun _ => ⟨sr, hT, fun h0 => ?_, fun _ => ⟨hb, rfl, rfl⟩, fun h2 => ?_⟩⟩ ?_
        · rw [hc] at h0; cases h0
        · rw [hc] at h2; cases h2
        · have e1 : dNext o d ⟨s1, true, v, b, ⟨s1.heap.put s1.next (some b), s1.next.succ, asm'⟩⟩ = ⟨d.j + 1, v :: d.ls, ⟨true, d.ls, v⟩ :: d.xs, d.sts, ⟨d.j, s1.next, b⟩ :: d.ns⟩ := by simp [dNext, hc]; try (constructor <;> rfl)
          rw [e1]
          exact h
      · have h : (dEff (runD P cd fr as K) d s1 asm' v sr).run ρ = some r := by
          have h : (by3 o.op.cls (dQuiet (runD P cd fr as K) d s1 asm' v) (dNew (runD P cd fr as K) d s1 asm' v sr) (dEff (runD P cd fr as K) d s1 asm' v sr)).run ρ = some r := h
          rw [hc] at h; exact h
        obtain ⟨hle, h⟩ := run_guardB h
        rw [Pos.nat_eq, Pos.nat_eq, Nat.ble_eq] at hle
        refine fin ⟨s1, true, v, .dead, ⟨sr.heap, sr.next, asm'⟩⟩ ⟨hm, ha', hg, fun h => (by cases h), fun _ => ⟨sr, hT, fun h0 => ?_, fun h1 => ?_, fun _ => ⟨rfl, rfl, hle⟩⟩⟩ ?_
        · rw [hc] at h0; cases h0
        · rw [hc] at h1; cases h1
        · have e1 : dNext o d ⟨s1, true, v, .dead, ⟨sr.heap, sr.next, asm'⟩⟩ = ⟨d.j + 1, v :: d.ls, ⟨true, d.ls, v⟩ :: d.xs, ⟨sr.heap, sr.next, asm'⟩ :: d.sts, d.ns⟩ := by simp [dNext, hc]; try (constructor <;> rfl)
          rw [e1]
          exact h
    · refine fin ⟨s1, false, undefA, .dead, s1⟩ ⟨hm, hm.asm, hg, fun _ => ⟨rfl, rfl⟩, fun h => (by cases h)⟩ ?_
      have e1 : dNext o d ⟨s1, false, undefA, .dead, s1⟩ = ⟨d.j + 1, undefA :: d.ls, ⟨false, d.ls, undefA⟩ :: d.xs, newSts o s1 d.sts, d.ns⟩ := by simp [dNext, newSts]
      rw [e1]
      exact h
/-! what the lists hold -/
theorem TraceOk.length {cd : CallT (AV × St)} : ∀ {as : List AOper} {ls : List AV} {s : St} {ts : List TI}, TraceOk P ρ cd fr as ls s ts → ts.length = as.length
  | [], _, _, [], _ => rfl
  | [], _, _, _ :: _, h => h.elim
  | _ :: _, _, _, [], h => h.elim
  | _ :: as, _, _, _ :: ts, h => by simp [TraceOk.length h.2]
def lsAt (ls : List AV) (ts : List TI) (i : Nat) : List AV := ((ts.take i).map (·.v)).reverse ++ ls
theorem TraceOk.at {cd : CallT (AV × St)} : ∀ {as : List AOper} {ls : List AV} {s : St} {ts : List TI}, TraceOk P ρ cd fr as ls s ts → ∀ i o t, as[i]? = some o → ts[i]? = some t → ItemOk P ρ cd fr o (lsAt ls ts i) (sFin s (ts.take i)) t
  | [], _, _, _, _, i, o, t, h1, _ => by simp at h1
  | _ :: _, _, _, [], h, _, _, _, _, _ => h.elim
  | o' :: as, ls, s, t' :: ts, h, 0, o, t, h1, h2 => by
    simp at h1 h2
    subst h1 h2
    exact h.1
  | o' :: as, ls, s, t' :: ts, h, i + 1, o, t, h1, h2 => by
    have := TraceOk.at h.2 i o t (by simpa using h1) (by simpa using h2)
    have e1 : lsAt ls (t' :: ts) (i + 1) = lsAt (t'.v :: ls) ts i := by simp [lsAt]
    rw [e1]
    exact this
theorem sFin_succ : ∀ (s : St) (ts : List TI) (i : Nat) (t : TI), ts[i]? = some t → sFin s (ts.take (i + 1)) = t.s2
  | s, [], i, t, h => by simp at h
  | s, t' :: ts, 0, t, h => by simp at h; subst h; simp [sFin]
  | s, t' :: ts, i + 1, t, h => by
    have := sFin_succ t'.s2 ts i t (by simpa using h)
    simpa [sFin] using this
theorem dFin_j : ∀ (as : List AOper) (d : DSt) (ts : List TI), ts.length = as.length → (dFin as d ts).j = d.j + as.length
  | [], d, [], _ => rfl
  | o :: as, d, t :: ts, h => by
    rw [dFin, dFin_j as _ ts (by simpa using h)]
    simp [dNext]; omega
  | [], _, _ :: _, h => by simp at h
  | _ :: _, _, [], h => by simp at h
def snaps : List AV → List TI → List Snap
  | _, [] => []
  | ls, t :: ts => ⟨t.ran, ls, t.v⟩ :: snaps (t.v :: ls) ts
theorem dFin_xs : ∀ (as : List AOper) (d : DSt) (ts : List TI), ts.length = as.length → (dFin as d ts).xs.reverse = d.xs.reverse ++ snaps d.ls ts
  | [], d, [], _ => by simp [dFin, snaps]
  | o :: as, d, t :: ts, h => by
    rw [dFin, dFin_xs as _ ts (by simpa using h)]
    simp [dNext, snaps]
  | [], _, _ :: _, h => by simp at h
  | _ :: _, _, [], h => by simp at h
def chainSts : List AOper → List TI → List St
  | o :: as, t :: ts => (bif Nat.beq o.op.cls 2 then [t.s2] else []) ++ chainSts as ts
  | _, _ => []
theorem dFin_sts : ∀ (as : List AOper) (d : DSt) (ts : List TI), ts.length = as.length → (dFin as d ts).sts.reverse = d.sts.reverse ++ chainSts as ts
  | [], d, [], _ => by simp [dFin, chainSts]
  | o :: as, d, t :: ts, h => by
    rw [dFin, dFin_sts as _ ts (by simpa using h)]
    simp only [dNext, chainSts]
    cases Nat.beq o.op.cls 2 <;> simp
  | [], _, _ :: _, h => by simp at h
  | _ :: _, _, [], h => by simp at h
theorem dFin_ns : ∀ (as : List AOper) (d : DSt) (ts : List TI), ts.length = as.length → ∀ n, n ∈ (dFin as d ts).ns ↔ n ∈ d.ns ∨ ∃ i o t, as[i]? = some o ∧ ts[i]? = some t ∧ o.op.cls = 1 ∧ t.ran = true ∧ n = ⟨d.j + i, t.s1.next, t.b⟩
  | [], d, [], _, n => by simp [dFin]
  | o :: as, d, t :: ts, h, n => by
    rw [dFin, dFin_ns as _ ts (by simpa using h)]
    have hd : n ∈ (dNext o d t).ns ↔ n ∈ d.ns ∨ (o.op.cls = 1 ∧ t.ran = true ∧ n = ⟨d.j, t.s1.next, t.b⟩) := by
      simp only [dNext]
      cases hb : (Nat.beq o.op.cls 1 && t.ran) with
      | true =>
        simp only [Bool.and_eq_true, Nat.beq_eq] at hb
        simp [hb.1, hb.2, or_comm]
      | false =>
        have : ¬ (o.op.cls = 1 ∧ t.ran = true) := fun ⟨h1, h2⟩ => by simp [h1, h2] at hb
        simp only [cond_false]
        constructor
        · exact .inl
        · rintro (h | ⟨h1, h2, _⟩)
          · exact h
          · exact absurd ⟨h1, h2⟩ this
    rw [hd]
    constructor
    · rintro ((h | ⟨h1, h2, h3⟩) | ⟨i, o', t', h1, h2, h3, h4, h5⟩)
      · exact .inl h
      · exact .inr ⟨0, o, t, rfl, rfl, h1, h2, h3⟩
      · refine .inr ⟨i + 1, o', t', by simpa using h1, by simpa using h2, h3, h4, ?_⟩
        rw [h5]
        simp only [dNext, New.mk.injEq, and_true]
        omega
    · rintro (h | ⟨i, o', t', h1, h2, h3, h4, h5⟩)
      · exact .inl (.inl h)
      · cases i with
        | zero =>
          simp at h1 h2
          subst h1 h2
          exact .inl (.inr ⟨h3, h4, h5⟩)
        | succ i =>
          refine .inr ⟨i, o', t', by simpa using h1, by simpa using h2, h3, h4, ?_⟩
          rw [h5]
          simp only [dNext, New.mk.injEq, and_true]
          omega
  | [], _, _ :: _, h, _ => by simp at h
  | _ :: _, _, [], h, _ => by simp at h
end Go.Ab
end

section
namespace Go.Ab

/-! ### what the static check says -/
theorem nthM_eq (n : Nat) (l : List Nat) : nthM n l = (l[n]?).getD 0 := by unfold nthM; rw [nthN_eq]
theorem masks_spec : ∀ (l : List Oper) (acc : List Nat), ∃ B, (masksOf l acc acc.length).reverse = acc.reverse ++ B ∧ B.length = l.length ∧
    ∀ i o, l[i]? = some o → B[i]? = some (maskOf (((acc.reverse ++ B).take (acc.length + i)).reverse) (acc.length + i) o.after.toList)
  | [], acc => ⟨[], by simp [masksOf], rfl, fun i o h => by simp at h⟩
  | o :: l, acc => by
    obtain ⟨B, h1, h2, h3⟩ := masks_spec l (maskOf acc acc.length o.after.toList :: acc)
    refine ⟨maskOf acc acc.length o.after.toList :: B, ?_, by simp [h2], ?_⟩
    · have : masksOf (o :: l) acc acc.length = masksOf l (maskOf acc acc.length o.after.toList :: acc) (maskOf acc acc.length o.after.toList :: acc).length := rfl
      rw [this, h1]; simp
    · intro i o' hi
      cases i with
      | zero =>
        simp at hi; subst hi
        have : ((acc.reverse ++ (maskOf acc acc.length o.after.toList :: B)).take (acc.length + 0)) = acc.reverse := by
          rw [List.take_append_of_le_length (by simp)]; exact List.take_of_length_le (by simp)
        rw [this]; simp
      | succ i =>
        have := h3 i o' (by simpa using hi)
        simp only [List.reverse_cons, List.append_assoc, List.singleton_append, List.length_cons] at this
        simp only [List.getElem?_cons_succ]
        rw [this]
        rw [show acc.length + 1 + i = acc.length + (i + 1) from by omega]
theorem maskOf_bit {acc : List Nat} {j : Nat} : ∀ (es : List Edge) (i : Nat), (maskOf acc j es).testBit i = true ↔ ∃ e ∈ es, bindsB e.ground = true ∧ (i = e.on ∨ (nthM (j - 1 - e.on) acc).testBit i = true)
  | [], i => by simp [maskOf]
  | e :: es, i => by
    have h : maskOf acc j (e :: es) = bif bindsB e.ground then Nat.lor (Nat.lor (2 ^ e.on) (nthM (j - 1 - e.on) acc)) (maskOf acc j es) else maskOf acc j es := rfl
    rw [h]
    cases hb : bindsB e.ground with
    | false =>
      simp only [cond_false, maskOf_bit es i, List.mem_cons]
      constructor
      · rintro ⟨e', h1, h2, h3⟩; exact ⟨e', .inr h1, h2, h3⟩
      · rintro ⟨e', rfl | h1, h2, h3⟩
        · rw [hb] at h2; cases h2
        · exact ⟨e', h1, h2, h3⟩
    | true =>
      have hl : ∀ a b : Nat, Nat.lor a b = a ||| b := fun _ _ => rfl
      simp only [cond_true, hl, Nat.testBit_or, Bool.or_eq_true, maskOf_bit es i, List.mem_cons, Nat.testBit_two_pow]
      constructor
      · rintro ((h1 | h1) | ⟨e', h1, h2, h3⟩)
        · exact ⟨e, .inl rfl, hb, .inl (by have h1 := of_decide_eq_true h1; exact h1.symm)⟩
        · exact ⟨e, .inl rfl, hb, .inr h1⟩
        · exact ⟨e', .inr h1, h2, h3⟩
      · rintro ⟨e', rfl | h1, h2, h3⟩
        · rcases h3 with h3 | h3
          · exact .inl (.inl (by simp [h3]))
          · exact .inl (.inr h3)
        · exact .inr ⟨e', h1, h2, h3⟩
theorem binds_any (e : Edge) : Region.binds .any e = bindsB e.ground := by
  unfold Region.binds bindsB
  cases e.ground <;> rfl
theorem edgesOk_lt {j : Nat} : ∀ {es : List Edge}, edgesOk j es = true → ∀ e ∈ es, bindsB e.ground = true → e.on < j
  | [], _, e, h, _ => by simp at h
  | e :: es, h, e', he', hb => by
    have h : (bif bindsB e.ground then (bif Nat.blt e.on j then edgesOk j es else false) else edgesOk j es) = true := h
    rcases List.mem_cons.1 he' with rfl | he'
    · rw [hb] at h
      simp only [cond_true] at h
      cases hl : Nat.blt e'.on j with
      | false => rw [hl] at h; cases h
      | true => simpa using hl
    · have : edgesOk j es = true := by
        cases hb' : bindsB e.ground with
        | false => rw [hb'] at h; exact h
        | true =>
          rw [hb'] at h
          cases hl : Nat.blt e.on j with
          | false => rw [hl] at h; cases h
          | true => rw [hl] at h; exact h
      exact edgesOk_lt this e' he' hb
theorem clsMask_bit {c : Nat} : ∀ (l : List AOper) (n i : Nat), (clsMask c l n).testBit i = true ↔ ∃ o, n ≤ i ∧ l[i - n]? = some o ∧ o.op.cls = c
  | [], n, i => by simp [clsMask]
  | o :: l, n, i => by
    have h : clsMask c (o :: l) n = Nat.lor (bif Nat.beq o.op.cls c then 2 ^ n else 0) (clsMask c l (n + 1)) := rfl
    have hl : ∀ a b : Nat, Nat.lor a b = a ||| b := fun _ _ => rfl
    rw [h, hl, Nat.testBit_or, Bool.or_eq_true, clsMask_bit l (n + 1) i]
    constructor
    · rintro (h1 | ⟨o', h1, h2, h3⟩)
      · cases hb : Nat.beq o.op.cls c with
        | false => rw [hb] at h1; simp at h1
        | true =>
          rw [hb] at h1
          simp only [cond_true, Nat.testBit_two_pow, decide_eq_true_eq] at h1
          subst h1
          exact ⟨o, Nat.le_refl _, by simp, by simpa using hb⟩
      · refine ⟨o', by omega, ?_, h3⟩
        rw [show i - n = (i - (n + 1)) + 1 from by omega]
        simpa using h2
    · rintro ⟨o', h1, h2, h3⟩
      by_cases e : i = n
      · subst e
        simp at h2
        subst h2
        left
        simp [h3]
      · right
        refine ⟨o', by omega, ?_, h3⟩
        rw [show i - n = (i - (n + 1)) + 1 from by omega] at h2
        simpa using h2
theorem subMask_bit {a b : Nat} (h : subMask a b = true) (i : Nat) (hi : a.testBit i = true) : b.testBit i = true := by
  unfold subMask at h
  have h : a &&& b = a := by simpa using h
  rw [← h, Nat.testBit_and, Bool.and_eq_true] at hi
  exact hi.2
theorem isDst_iff (t : Nat) (d : Option Nat) : isDst t d = true ↔ d = some t := by
  cases d with
  | none => simp [isDst]
  | some d => simp [isDst]
theorem distinctD_spec : ∀ {l : List (Option Nat)}, distinctD l = true → ∀ (i j t : Nat), i < j → l[i]? = some (some t) → l[j]? ≠ some (some t)
  | [], _, i, j, t, _, h, _ => by simp at h
  | d :: l, h, i, j, t, hij, hi, hj => by
    have h : ((Option.rec (motive := fun _ => Bool) true (fun d => !l.any (isDst d)) d) && distinctD l) = true := h
    simp only [Bool.and_eq_true] at h
    cases j with
    | zero => omega
    | succ j =>
      simp only [List.getElem?_cons_succ] at hj
      cases i with
      | zero =>
        simp at hi
        subst hi
        have h1 := h.1
        simp only [Bool.not_eq_true', List.any_eq_false] at h1
        exact h1 _ (List.mem_of_getElem? hj) ((isDst_iff _ _).2 rfl)
      | succ i => exact distinctD_spec h.2 i j t (by omega) (by simpa using hi) hj
theorem defOf_spec : ∀ {l : List (Option Nat)} {n i t : Nat}, l[i]? = some (some t) → (∀ i', i' < i → l[i']? ≠ some (some t)) → defOf t l n = some (n + i)
  | [], n, i, t, h, _ => by simp at h
  | d :: l, n, i, t, h, hn => by
    have hd : defOf t (d :: l) n = bif isDst t d then some n else defOf t l (n + 1) := rfl
    rw [hd]
    cases i with
    | zero =>
      simp at h
      subst h
      have : isDst t (some t) = true := (isDst_iff _ _).2 rfl
      rw [this]; rfl
    | succ i =>
      have h0 := hn 0 (by omega)
      simp at h0
      have : isDst t d = false := by
        cases hb : isDst t d with
        | false => rfl
        | true => exact absurd ((isDst_iff _ _).1 hb) h0
      rw [this]
      simp only [cond_false]
      rw [defOf_spec (by simpa using h) (fun i' hi' => by have := hn (i' + 1) (by omega); simpa using this)]
      congr 1; omega
theorem allOkD_at {b : List Nat} {chain news : Nat} {ops : Array Oper} {dsts : List (Option Nat)} : ∀ {l : List Oper} {j : Nat}, allOkD b chain news ops dsts l j = true → ∀ i o, l[i]? = some o → opOkD b chain news ops dsts (j + i) o = true
  | [], _, _, i, o, h => by simp at h
  | o' :: l, j, h, i, o, hi => by
    have h : (opOkD b chain news ops dsts j o' && allOkD b chain news ops dsts l (j + 1)) = true := h
    simp only [Bool.and_eq_true] at h
    cases i with
    | zero => simp at hi; subst hi; exact h.1
    | succ i =>
      have := allOkD_at h.2 i o (by simpa using hi)
      rw [show j + (i + 1) = j + 1 + i from by omega]
      exact this
/-- the static facts of a region that draws its order -/
structure Stat (ops : Array Oper) (as : List AOper) (bm : Nat → Nat) : Prop where
  on : ∀ (j : Nat) (o : Oper) (e : Edge), ops[j]? = some o → e ∈ o.after → Region.binds .any e = true → e.on < j ∧ (bm j).testBit e.on = true ∧ ∀ i, (bm e.on).testBit i = true → (bm j).testBit i = true
  inv : ∀ (j : Nat) (o : Oper) (i : Nat), ops[j]? = some o → (bm j).testBit i = true → ∃ e ∈ o.after, Region.binds .any e = true ∧ e.on < j ∧ (i = e.on ∨ (bm e.on).testBit i = true)
  chain : ∀ (c : Nat) (oc : AOper) (i : Nat) (oi : AOper), as[c]? = some oc → oc.op.cls = 2 → i < c → as[i]? = some oi → oi.op.cls ≠ 0 → (bm c).testBit i = true
  tmp : ∀ (j : Nat) (o : Oper) (t i : Nat) (oi : Oper), ops[j]? = some o → t ∈ o.looksAt ops → ops[i]? = some oi → oi.dst = some t → (i < j ∧ (bm j).testBit i = true) ∨ (j < i ∧ (bm i).testBit j = true)
  guard : ∀ (j : Nat) (o : Oper) (g : Nat) (want : Bool), ops[j]? = some o → o.guard = some (g, want) → g < j ∧ ∃ og t, ops[g]? = some og ∧ og.dst = some t
  dist : ∀ (i j : Nat) (oi oj : Oper) (t : Nat), ops[i]? = some oi → ops[j]? = some oj → oi.dst = some t → oj.dst = some t → i = j
  nodef : ∀ o ∈ ops.toList, isDefer o.op = false
  nosel : ∀ o ∈ ops.toList, ∀ cs b, o.op ≠ .select cs b
theorem stat_of {ops : Array Oper} {as : List AOper} (hlen : as.length = ops.size) (h : drawOk ops as = true) : Stat ops as (fun j => nthM j (masksOf ops.toList [] 0).reverse) := by
  unfold drawOk at h
  simp only [Bool.and_eq_true] at h
  obtain ⟨⟨hnd, hdist⟩, hall⟩ := h
  obtain ⟨B, hB, hBl, hBs⟩ := masks_spec ops.toList []
  simp only [List.length_nil, List.reverse_nil, List.nil_append, Nat.zero_add] at hB hBs
  rw [hB] at hall ⊢
  have hat : ∀ (j : Nat) (o : Oper), ops[j]? = some o → ops.toList[j]? = some o := fun j o h => by rw [Array.getElem?_toList]; exact h
  have hok : ∀ (j : Nat) (o : Oper), ops[j]? = some o → opOkD B (clsMask 2 as 0) (clsMask 1 as 0) ops (ops.toList.map (·.dst)) j o = true := fun j o h => by
    have := allOkD_at hall j o (hat j o h)
    simpa using this
  have hedges : ∀ (j : Nat) (o : Oper), ops[j]? = some o → edgesOk j o.after.toList = true := fun j o h => by
    have := hok j o h
    simp only [opOkD, Bool.and_eq_true] at this
    exact this.1.1.1
  have hmask : ∀ (j : Nat) (o : Oper), ops[j]? = some o → nthM j B = maskOf ((B.take j).reverse) j o.after.toList := fun j o h => by
    rw [nthM_eq, hBs j o (hat j o h)]; rfl
  have hjlt : ∀ (j : Nat) (o : Oper), ops[j]? = some o → j < B.length := fun j o h => by
    rw [hBl]
    have := (List.getElem?_eq_some_iff.1 (hat j o h)).1
    exact this
  have hacc : ∀ (j : Nat) (o : Oper) (e : Edge), ops[j]? = some o → e ∈ o.after → bindsB e.ground = true → e.on < j ∧ nthM (j - 1 - e.on) ((B.take j).reverse) = nthM e.on B := fun j o e h he hb => by
    have hlt := edgesOk_lt (hedges j o h) e (by simpa using he) hb
    refine ⟨hlt, ?_⟩
    have hj := hjlt j o h
    rw [nthM_eq, nthM_eq, List.getElem?_reverse (by simp; omega)]
    congr 1
    rw [List.getElem?_take]
    simp only [List.length_take]
    rw [if_pos (by omega)]
    congr 1
    omega
  refine ⟨?_, ?_, ?_, ?_, ?_, ?_, ?_, ?_⟩
  · intro j o e h he hb
    rw [binds_any] at hb
    obtain ⟨h1, h2⟩ := hacc j o e h he hb
    refine ⟨h1, ?_, fun i hi => ?_⟩
    · show (nthM j B).testBit _ = true
      rw [hmask j o h, maskOf_bit]
      exact ⟨e, by simpa using he, hb, .inl rfl⟩
    · show (nthM j B).testBit _ = true
      rw [hmask j o h, maskOf_bit]
      exact ⟨e, by simpa using he, hb, .inr (by rw [h2]; exact hi)⟩
  · intro j o i h hi
    have hi : (nthM j B).testBit i = true := hi
    rw [hmask j o h, maskOf_bit] at hi
    obtain ⟨e, he, hb, hi⟩ := hi
    have he : e ∈ o.after := by simpa using he
    obtain ⟨h1, h2⟩ := hacc j o e h he hb
    refine ⟨e, he, by rw [binds_any]; exact hb, h1, ?_⟩
    rw [h2] at hi
    exact hi
  · intro c oc i oi hc hcls hic hi hicls
    have hcl : c < ops.size := by rw [← hlen]; exact (List.getElem?_eq_some_iff.1 hc).1
    have := hok c ops[c] (Array.getElem?_eq_getElem hcl)
    simp only [opOkD, Bool.and_eq_true] at this
    have h2 := this.2
    have hb : (clsMask 2 as 0).testBit c = true := (clsMask_bit as 0 c).2 ⟨oc, Nat.zero_le _, by simpa using hc, hcls⟩
    rw [hb] at h2
    refine subMask_bit h2 i ?_
    have hl : ∀ a b : Nat, Nat.lor a b = a ||| b := fun _ _ => rfl
    simp only [below, hl, Nat.testBit_mod_two_pow, Nat.testBit_or, Bool.and_eq_true, decide_eq_true_eq, Bool.or_eq_true]
    refine ⟨hic, ?_⟩
    rcases cls_le oi.op with h0 | h1 | h2
    · exact absurd h0 hicls
    · exact .inr ((clsMask_bit as 0 i).2 ⟨oi, Nat.zero_le _, by simpa using hi, h1⟩)
    · exact .inl ((clsMask_bit as 0 i).2 ⟨oi, Nat.zero_le _, by simpa using hi, h2⟩)
  · intro j o t i oi hj ht hi hd
    have := hok j o hj
    simp only [opOkD, Bool.and_eq_true, List.all_eq_true] at this
    have h2 := this.1.1.2 t ht
    have hidx : (ops.toList.map (·.dst))[i]? = some (some t) := by
      rw [List.getElem?_map, hat i oi hi]; simp [hd]
    have hdef := defOf_spec (n := 0) hidx (fun i' hi' h' => distinctD_spec hdist i' i t hi' h' hidx)
    rw [Nat.zero_add] at hdef
    unfold tmpOk at h2
    rw [hdef] at h2
    have h2 : (bif Nat.blt i j then (nthM j B).testBit i else bif Nat.blt j i then (nthM i B).testBit j else false) = true := h2
    cases h3 : Nat.blt i j with
    | true => rw [h3] at h2; exact .inl ⟨by simpa using h3, h2⟩
    | false =>
      rw [h3] at h2
      cases h4 : Nat.blt j i with
      | true => rw [h4] at h2; exact .inr ⟨by simpa using h4, h2⟩
      | false => rw [h4] at h2; cases h2
  · intro j o g want hj hg
    have := hok j o hj
    simp only [opOkD, Bool.and_eq_true] at this
    have h2 := this.1.2
    rw [hg] at h2
    simp only [guardOkD, Bool.and_eq_true, Nat.blt_eq] at h2
    refine ⟨h2.1, ?_⟩
    obtain ⟨t, ht⟩ := Option.isSome_iff_exists.1 h2.2
    obtain ⟨og, h3, h4⟩ := Option.bind_eq_some_iff.1 ht
    exact ⟨og, t, h3, h4⟩
  · intro i j oi oj t hi hj hdi hdj
    have h1 : (ops.toList.map (·.dst))[i]? = some (some t) := by rw [List.getElem?_map, hat i oi hi]; simp [hdi]
    have h2 : (ops.toList.map (·.dst))[j]? = some (some t) := by rw [List.getElem?_map, hat j oj hj]; simp [hdj]
    rcases Nat.lt_trichotomy i j with h | h | h
    · exact absurd h2 (distinctD_spec hdist i j t h h1)
    · exact h
    · exact absurd h1 (distinctD_spec hdist j i t h h2)
  · intro o ho
    unfold noDefer at hnd
    have := List.all_eq_true.1 hnd o ho
    cases hop : o.op <;> rw [hop] at this <;> first | rfl | (simp at this)
  · intro o ho cs b hop
    unfold noDefer at hnd
    have := List.all_eq_true.1 hnd o ho
    rw [hop] at this
    simp at this
theorem Stat.lt {ops : Array Oper} {as : List AOper} {bm : Nat → Nat} (h : Stat ops as bm) {j : Nat} {o : Oper} (hj : ops[j]? = some o) {i : Nat} (hi : (bm j).testBit i = true) : i < j := by
  induction j using Nat.strongRecOn generalizing o with
  | _ j ih =>
    obtain ⟨e, he, hb, hlt, hi⟩ := h.inv j o i hj hi
    rcases hi with rfl | hi
    · exact hlt
    · have hsz : e.on < ops.size := Nat.lt_trans hlt (Array.getElem?_eq_some_iff.1 hj).1
      have := ih e.on hlt (Array.getElem?_eq_getElem hsz) hi
      omega
theorem Stat.trans {ops : Array Oper} {as : List AOper} {bm : Nat → Nat} (h : Stat ops as bm) {j : Nat} {o : Oper} (hj : ops[j]? = some o) {i k : Nat} (hi : (bm j).testBit i = true) (hk : (bm i).testBit k = true) : (bm j).testBit k = true := by
  induction j using Nat.strongRecOn generalizing o with
  | _ j ih =>
    obtain ⟨e, he, hb, hlt, hi⟩ := h.inv j o i hj hi
    obtain ⟨_, _, h3⟩ := h.on j o e hj he hb
    rcases hi with rfl | hi
    · exact h3 k hk
    · have hsz : e.on < ops.size := Nat.lt_trans hlt (Array.getElem?_eq_some_iff.1 hj).1
      exact h3 k (ih e.on hlt (Array.getElem?_eq_getElem hsz) hi)
end Go.Ab
end

section
namespace Go.Ab
variable {β : Type} {P : Program} {ρ : Val} {E : Mem} {s : St} {w : World} {r : β} {k : Kv β}
variable {fr : Fr} {a : Act}

theorem ER.congr {o : Oper} {a' : Act} (h : ER P ρ E s w o a k r) (he : execOp a'.eval o = execOp a.eval o) : ER P ρ E s w o a' k r := by
  unfold ER Yields at *
  rw [he]; exact h

/-! ### the translation looks at the operands alone -/
section
variable {ds ds' : List (Option Nat)}
theorem partsS_congr {fs : Array Field} : ∀ {l : List (Nat × Operand)}, (∀ x ∈ l, trArg ds x.2 = trArg ds' x.2) → partsS P ds fs l = partsS P ds' fs l
  | [], _ => rfl
  | (i, x) :: l, h => by
    unfold partsS
    rw [partsS_congr (l := l) (fun y hy => h y (List.mem_cons_of_mem _ hy)), show trArg ds x = trArg ds' x from h (i, x) (List.mem_cons_self ..)]
theorem partsA_congr {n : Nat} : ∀ {l : List (Nat × Operand)}, (∀ x ∈ l, trArg ds x.2 = trArg ds' x.2) → partsA ds n l = partsA ds' n l
  | [], _ => rfl
  | (i, x) :: l, h => by
    unfold partsA
    rw [partsA_congr (l := l) (fun y hy => h y (List.mem_cons_of_mem _ hy)), show trArg ds x = trArg ds' x from h (i, x) (List.mem_cons_self ..)]
theorem trArgs_congr {xs : Array Operand} (h : ∀ x ∈ xs, trArg ds x = trArg ds' x) : trArgs ds xs = trArgs ds' xs := by
  unfold trArgs
  exact List.map_congr_left fun x hx => h x (by simpa using hx)
theorem mapArgs_congr {l : List Operand} (h : ∀ x ∈ l, trArg ds x = trArg ds' x) : l.map (trArg ds) = l.map (trArg ds') := List.map_congr_left h
theorem trOp_congr {o : Op} (h : ∀ x ∈ o.operands, trArg ds x = trArg ds' x) : trOp P ds o = trOp P ds' o := by
  have pairs : ∀ ps : Array (Nat × Operand), (∀ x ∈ (ps.toList.map (·.2)).toArray, trArg ds x = trArg ds' x) → ∀ x ∈ ps.toList, trArg ds x.2 = trArg ds' x.2 := fun ps hp x hx =>
    hp x.2 (by simp only [List.mem_toArray]; exact List.mem_map.2 ⟨x, hx, rfl⟩)
  cases o <;> simp only [Op.operands] at h <;> simp only [trOp]
  case build t ps =>
    unfold trBuild
    simp only [partsS_congr (pairs ps h), partsA_congr (pairs ps h)]
  case buildSlice t n ps =>
    unfold trBSlice
    simp only [partsA_congr (pairs ps h)]
  case makeFunc fn x y =>
    rw [trArgs_congr (xs := x) fun z hz => h z (by simp [hz]), trArgs_congr (xs := y) fun z hz => h z (by simp [hz])]
  case makeMap t x => cases x <;> rfl
  case slice t x lo hi mx =>
    have h0 : trArg ds x = trArg ds' x := h x (by simp)
    have h1 : ∀ y : Option Operand, (∀ z, y = some z → trArg ds z = trArg ds' z) → trOpt ds y = trOpt ds' y := fun y hy => by
      cases y with
      | none => rfl
      | some z => simp [trOpt, hy z rfl]
    unfold trSlice
    rw [h0, h1 lo (fun z hz => h z (by simp [hz])), h1 hi (fun z hz => h z (by simp [hz])), h1 mx (fun z hz => h z (by simp [hz]))]
  case next x b => cases b <;> simp_all
  case call c =>
    obtain ⟨cal, args, tys⟩ := c
    have ha : ∀ z ∈ args, trArg ds z = trArg ds' z := fun z hz => h z (by simp [Call.operands, hz])
    unfold trCall
    cases cal with
    | value f =>
      have hf : trArg ds f = trArg ds' f := h f (by simp [Call.operands])
      cases f <;> simp only [trArgs_congr ha, hf]
    | invoke x n =>
      have hf : trArg ds x = trArg ds' x := h x (by simp [Call.operands])
      simp only [trArgs_congr ha, hf]
    | builtin b =>
      obtain ⟨al⟩ := args
      obtain ⟨tl⟩ := tys
      simp only [List.mem_toArray] at ha
      simp only
      unfold trBuiltin
      simp only
      split
      · rw [ha _ (by simp)]
      · rw [ha _ (by simp)]
      · unfold trAppend; rename_i x y _ _; rw [ha x (by simp), ha y (by simp)]
      · unfold trCopy; rename_i x y _ _; rw [ha x (by simp), ha y (by simp)]
      · rename_i x l; rw [ha x (by simp), mapArgs_congr (l := l) fun z hz => ha z (by simp [hz])]
      · rename_i x l; rw [ha x (by simp), mapArgs_congr (l := l) fun z hz => ha z (by simp [hz])]
      · unfold trDelete; rename_i x y _ _; rw [ha x (by simp), ha y (by simp)]
      · rfl
  case defer c =>
    obtain ⟨cal, args, tys⟩ := c
    have ha : ∀ z ∈ args, trArg ds z = trArg ds' z := fun z hz => h z (by simp [Call.operands, hz])
    cases cal with
    | value f =>
      have hf : trArg ds f = trArg ds' f := h f (by simp [Call.operands])
      simp only [trArgs_congr ha, hf]
    | invoke x n => rfl
    | builtin b => rfl
  case binOp o t x y c =>
    have h0 := h x (by simp)
    have h1 := h y (by simp)
    unfold trBin
    simp only [h0, h1]
  case convert a b x =>
    have h0 := h x (by simp)
    unfold trConv
    simp only [h0]
  all_goals first
    | rfl
    | (have h0 := fun x hx => h x hx
       simp only [List.mem_toArray, List.mem_cons, List.not_mem_nil, or_false, forall_eq_or_imp, forall_eq] at h
       first
         | (simp only [h]; done)
         | (unfold trFadr; simp only [h]; done)
         | (unfold trFld; simp only [h]; done)
         | (unfold trIxa; simp only [h]; done)
         | (unfold trIx; simp only [h]; done)
         | (unfold trLookup; simp only [h]; done)
         | (unfold trAssert; simp only [h]; done)
         | (unfold trMkSl; simp only [h]; done))
end
end Go.Ab
end

section
namespace Go.Ab
variable {P : Program} {ρ : Val}

/-! ### a region that draws its order: the setting -/
instance : Inhabited TI := ⟨⟨⟨.lf, .xH, []⟩, false, .bad, .dead, ⟨.lf, .xH, []⟩⟩⟩
def dsAt (ops : Array Oper) (i : Nat) : List (Option Nat) := ((ops.toList.take i).map (·.dst)).reverse
open Classical in
noncomputable def Mem.sub (F : Mem) (X : Pos → Prop) : Mem := ⟨fun p => if X p then F.blk p else none, F.cap⟩
theorem Mem.sub_blk {F : Mem} {X : Pos → Prop} {p : Pos} {x : Nat × Nat} : (F.sub X).blk p = some x ↔ X p ∧ F.blk p = some x := by
  unfold Mem.sub
  simp only
  split
  · rename_i h; simp [h]
  · rename_i h; simp [h]
theorem Mem.sub_eq {F : Mem} {X : Pos → Prop} {p : Pos} (h : X p) : (F.sub X).blk p = F.blk p := by simp [Mem.sub, h]
theorem Mem.sub_le {F : Mem} {X Y : Pos → Prop} (h : ∀ p x, F.blk p = some x → X p → Y p) : Mem.Le (F.sub X) (F.sub Y) :=
  ⟨fun p x hx => by rw [Mem.sub_blk] at hx ⊢; exact ⟨h p x hx.2 hx.1, hx.2⟩, fun _ _ _ => rfl⟩
theorem Mem.sub_mono {F F' : Mem} {X Y : Pos → Prop} (hF : Mem.Le F F') (h : ∀ p x, F.blk p = some x → X p → Y p) : Mem.Le (F.sub X) (F'.sub Y) :=
  ⟨fun p x hx => by rw [Mem.sub_blk] at hx ⊢; exact ⟨h p x hx.2 hx.1, hF.blk p x hx.2⟩, fun p x hx => by rw [Mem.sub_blk] at hx; exact hF.cap p x hx.2⟩
/-- the fixed data of the region -/
structure DC where
  nt : Nat
  mask : Nat
  ops : Array Oper
  bm : Nat → Nat
  fr : Fr
  Ei : Mem
  s0 : St
  w0 : World
  a0 : Act
  ts : List TI
  cd : CallT (AV × St)
  asm : List (BE × Bool)
  nx : Pos
  ns : List New
namespace DC
variable (c : DC)
def sg (i : Nat) : St := sFin c.s0 (c.ts.take i)
def tI (i : Nat) : TI := (c.ts[i]?).getD default
noncomputable def op (P : Program) (o : Oper) (i : Nat) : AOp := trOp P (dsAt c.ops i) o.op
noncomputable def clo (P : Program) (i : Nat) : Nat := match c.ops[i]? with | some o => (c.op P o i).cls | none => 0
def newRan (P : Program) (i : Nat) : Prop := c.clo P i = 1 ∧ (c.tI i).ran = true ∧ i < c.ops.size
def id (i : Nat) : Pos := (c.sg i).next
def bel (i : Nat) (p : Pos) : Prop := p.toNat < (c.sg i).next.toNat
def Y (P : Program) (q i : Nat) (p : Pos) : Prop := c.bel q p ∨ ∃ j, (c.bm i).testBit j = true ∧ c.newRan P j ∧ p = c.id j
def X (P : Program) (q i : Nat) (p : Pos) : Prop := c.bel q p ∨ ∃ j, (j = i ∨ (c.bm i).testBit j = true) ∧ c.newRan P j ∧ p = c.id j
/-- what is known of the data -/
structure Ok (P : Program) (ρ : Val) : Prop where
  cdok : CallOk P c.cd
  as : ∃ as : List AOper, Stat c.ops as c.bm ∧ ∀ i o, c.ops[i]? = some o → ∃ ao, as[i]? = some ao ∧ ao.op = c.op P o i
  len : c.ts.length = c.ops.size
  it : ∀ i o, c.ops[i]? = some o → dstOk c.nt o.dst = true ∧ ∃ g, trGuard c.ops (dsAt c.ops i) o.guard = some g ∧
    ItemOk P ρ c.cd c.fr ⟨trDst c.mask o.dst, g, c.op P o i, isDefer o.op⟩ (lsAt [] c.ts i) (c.sg i) (c.tI i)
  frel : FrRel ρ c.nt c.mask c.Ei c.fr c.a0
  asmok : AsmOk ρ c.asm
  nsok : ∀ n, n ∈ c.ns ↔ ∃ j, c.newRan P j ∧ n = ⟨j, c.id j, (c.tI j).b⟩
  nxok : ∀ i, i ≤ c.ops.size → (c.sg i).next.toNat ≤ c.nx.toNat
  chk : ∀ i o q, c.ops[i]? = some o → c.clo P i = 0 → (c.tI i).ran = true → q ≤ c.ops.size → (q = 0 ∨ c.clo P (q - 1) = 2) →
    (∀ j, c.clo P j = 2 → (c.bm i).testBit j = true → j < q) → (∀ j, j < q → c.clo P j = 2 → (c.bm j).testBit i = false) →
    isOkSame (c.tI i).v (evOp P (c.op P o i) callNo (lsAt [] c.ts i) c.fr ⟨addNews (c.bm i) (c.sg q).next.nat c.ns (c.sg q).heap, c.nx, c.asm⟩ okU) = true
variable {c}
theorem sg_zero : c.sg 0 = c.s0 := by unfold DC.sg; simp [sFin]
theorem sg_succ (h : c.ts.length = c.ops.size) {i : Nat} (hi : i < c.ops.size) : c.sg (i + 1) = (c.tI i).s2 := by
  have hlt : i < c.ts.length := by omega
  have : c.ts[i]? = some c.ts[i] := List.getElem?_eq_getElem hlt
  unfold DC.sg DC.tI
  rw [sFin_succ _ _ _ _ this, this]
  rfl
section
variable (hc : c.Ok P ρ)
include hc
theorem get_op {i : Nat} (hi : i < c.ops.size) : ∃ o, c.ops[i]? = some o := ⟨_, Array.getElem?_eq_getElem hi⟩
theorem clo_eq {i : Nat} {o : Oper} (ho : c.ops[i]? = some o) : c.clo P i = (c.op P o i).cls := by unfold DC.clo; rw [ho]
theorem clo_lt {i : Nat} (h : c.clo P i ≠ 0) : i < c.ops.size := by
  unfold DC.clo at h
  split at h
  · rename_i o ho; exact (Array.getElem?_eq_some_iff.1 ho).1
  · exact absurd rfl h
theorem step_plain {i : Nat} (hi : i < c.ops.size) (h2 : c.clo P i = 2 → (c.tI i).ran = false) (h1 : ¬ c.newRan P i) : (c.sg (i + 1)).heap = (c.sg i).heap ∧ (c.sg (i + 1)).next = (c.sg i).next := by
  obtain ⟨o, ho⟩ := get_op hc hi
  obtain ⟨_, g, _, hit⟩ := hc.it i o ho
  have hcl := clo_eq (P := P) hc ho
  rw [sg_succ hc.len hi]
  cases hran : (c.tI i).ran with
  | false => rw [(hit.skip hran).2]; exact ⟨hit.more.heap, hit.more.next⟩
  | true =>
    obtain ⟨sr, hT, hq, hn, he⟩ := hit.ran hran
    have h0 : (c.op P o i).cls = 0 := by
      rcases cls_le (c.op P o i) with h | h | h
      · exact h
      · exact absurd ⟨by rw [hcl]; exact h, hran, hi⟩ h1
      · have := h2 (by rw [hcl]; exact h); rw [hran] at this; cases this
    obtain ⟨e1, e2⟩ := hq h0
    exact ⟨e1.trans hit.more.heap, e2.trans hit.more.next⟩
theorem step_new {i : Nat} (h1 : c.newRan P i) : (c.sg (i + 1)).heap = (c.sg i).heap.put (c.sg i).next (some (c.tI i).b) ∧ (c.sg (i + 1)).next = (c.sg i).next.succ := by
  obtain ⟨h1, hran, hi⟩ := h1
  obtain ⟨o, ho⟩ := get_op hc hi
  obtain ⟨_, g, _, hit⟩ := hc.it i o ho
  have hcl := clo_eq (P := P) hc ho
  obtain ⟨sr, hT, hq, hn, he⟩ := hit.ran hran
  obtain ⟨e1, e2, e3⟩ := hn (by rw [← h1, hcl])
  rw [sg_succ hc.len hi, e2, e3, hit.more.heap, hit.more.next]
  exact ⟨rfl, rfl⟩
theorem step_mono {i : Nat} (hi : i < c.ops.size) : (c.sg i).next.toNat ≤ (c.sg (i + 1)).next.toNat := by
  by_cases h1 : c.newRan P i
  · rw [(step_new hc h1).2, Pos.toNat_succ]; omega
  · by_cases h2 : c.clo P i = 2 → (c.tI i).ran = false
    · rw [(step_plain hc hi h2 h1).2]; exact Nat.le_refl _
    · have h2' : c.clo P i = 2 ∧ (c.tI i).ran = true := by
        refine ⟨Classical.byContradiction fun h => h2 fun h' => absurd h' h, ?_⟩
        cases hr : (c.tI i).ran with
        | true => rfl
        | false => exact absurd (fun _ => hr) h2
      obtain ⟨o, ho⟩ := get_op hc hi
      obtain ⟨_, g, _, hit⟩ := hc.it i o ho
      have hcl := clo_eq (P := P) hc ho
      obtain ⟨sr, hT, hq, hn, he⟩ := hit.ran h2'.2
      obtain ⟨e1, e2, e3⟩ := he (by rw [← h2'.1, hcl])
      rw [sg_succ hc.len hi, e2, ← hit.more.next]
      exact e3
theorem mono {i j : Nat} (hij : i ≤ j) (hj : j ≤ c.ops.size) : (c.sg i).next.toNat ≤ (c.sg j).next.toNat := by
  induction j with
  | zero => have : i = 0 := by omega
            subst this; exact Nat.le_refl _
  | succ j ih =>
    by_cases e : i = j + 1
    · subst e; exact Nat.le_refl _
    · exact Nat.le_trans (ih (by omega) (by omega)) (step_mono hc (by omega))
theorem id_lt {i j : Nat} (hi : c.newRan P i) (hij : i < j) (hj : j ≤ c.ops.size) : (c.id i).toNat < (c.sg j).next.toNat := by
  have h1 : (c.sg (i + 1)).next.toNat = (c.id i).toNat + 1 := by rw [(step_new hc hi).2, Pos.toNat_succ]; rfl
  have := mono hc (show i + 1 ≤ j by omega) hj
  omega
theorem id_inj {i j : Nat} (hi : c.newRan P i) (hj : c.newRan P j) (h : c.id i = c.id j) : i = j := by
  rcases Nat.lt_trichotomy i j with h' | h' | h'
  · have := id_lt hc hi h' (Nat.le_of_lt hj.2.2)
    rw [h] at this; exact absurd this (Nat.lt_irrefl _)
  · exact h'
  · have := id_lt hc hj h' (Nat.le_of_lt hi.2.2)
    rw [← h] at this; exact absurd this (Nat.lt_irrefl _)
theorem heap_between {q m : Nat} (hqm : q ≤ m) (hm : m ≤ c.ops.size) (hno : ∀ j, q ≤ j → j < m → c.clo P j = 2 → (c.tI j).ran = false) {p : Pos} {b : Blk} (h : (c.sg m).heap.get p = some b) :
    (c.sg q).heap.get p = some b ∨ ∃ j, q ≤ j ∧ j < m ∧ c.newRan P j ∧ p = c.id j ∧ b = (c.tI j).b := by
  induction m with
  | zero => have : q = 0 := by omega
            subst this; exact .inl h
  | succ m ih =>
    by_cases e : q = m + 1
    · subst e; exact .inl h
    · have ih' := ih (by omega) (by omega) (fun j h1 h2 => hno j h1 (by omega))
      have lift : (c.sg m).heap.get p = some b → (c.sg q).heap.get p = some b ∨ ∃ j, q ≤ j ∧ j < m + 1 ∧ c.newRan P j ∧ p = c.id j ∧ b = (c.tI j).b := fun h => by
        rcases ih' h with h | ⟨j, h1, h2, h3⟩
        · exact .inl h
        · exact .inr ⟨j, h1, by omega, h3⟩
      by_cases h1 : c.newRan P m
      · rw [(step_new hc h1).1, Trie.get_put] at h
        by_cases e2 : p = (c.sg m).next
        · rw [if_pos e2] at h
          cases h
          exact .inr ⟨m, by omega, by omega, h1, e2, rfl⟩
        · rw [if_neg e2] at h
          exact lift h
      · rw [(step_plain hc (by omega) (hno m (by omega) (by omega)) h1).1] at h
        exact lift h
theorem heap_keep {q m : Nat} (hqm : q ≤ m) (hm : m ≤ c.ops.size) (hno : ∀ j, q ≤ j → j < m → c.clo P j = 2 → (c.tI j).ran = false) {p : Pos} {b : Blk} (hlt : p.toNat < (c.sg q).next.toNat) (h : (c.sg q).heap.get p = some b) :
    (c.sg m).heap.get p = some b := by
  induction m with
  | zero => have : q = 0 := by omega
            subst this; exact h
  | succ m ih =>
    by_cases e : q = m + 1
    · subst e; exact h
    · have ih' := ih (by omega) (by omega) (fun j h1 h2 => hno j h1 (by omega))
      by_cases h1 : c.newRan P m
      · rw [(step_new hc h1).1, Trie.get_put, if_neg (fun e2 => ?_)]
        · exact ih'
        · have := mono hc (show q ≤ m by omega) (show m ≤ c.ops.size by omega)
          rw [e2] at hlt; omega
      · rw [(step_plain hc (by omega) (hno m (by omega) (by omega)) h1).1]
        exact ih'
end
end DC
/-- the invariant: D: what is done · q: behind the last effect · F: where all lies -/
structure DInv (P : Program) (ρ : Val) (c : DC) (D : Nat → Bool) (q : Nat) (F : Mem) (a : Act) (w : World) : Prop where
  cl : ∀ j, D j = true → ∀ i, (c.bm j).testBit i = true → D i = true
  lt : ∀ j, D j = true → j < c.ops.size
  qle : q ≤ c.ops.size
  qch : q = 0 ∨ (c.clo P (q - 1) = 2 ∧ D (q - 1) = true)
  above : ∀ j, c.clo P j = 2 → q ≤ j → D j = false
  hr : HRel ρ (F.sub (c.bel q)) ⟨(c.sg q).heap, (c.sg q).next, c.asm⟩ w
  st : Step c.Ei c.s0 c.w0 (F.sub (c.bel q)) ⟨(c.sg q).heap, (c.sg q).next, c.asm⟩ w
  dom : ∀ p x, F.blk p = some x → c.bel q p ∨ ∃ j, D j = true ∧ c.newRan P j ∧ q ≤ j ∧ p = c.id j
  pend : ∀ j, D j = true → c.newRan P j → q ≤ j → ∃ k, F.blk (c.id j) = some (k, 0) ∧ BRel ρ (F.sub (c.X P q j)) (c.id j) (c.tI j).b w ∧ Live (c.tI j).b ∧ k < w.heap.size ∧ c.w0.heap.size ≤ k ∧
    ∀ p b o, (c.sg q).heap.get p = some b → Live b → c.bel q p → F.blk p ≠ some (k, o)
  pinj : ∀ j j' k, D j = true → D j' = true → c.newRan P j → c.newRan P j' → q ≤ j → q ≤ j' → F.blk (c.id j) = some (k, 0) → F.blk (c.id j') = some (k, 0) → j = j'
  vals : ∀ i o t, D i = true → c.ops[i]? = some o → o.dst = some t → cv ρ (F.sub (c.X P q i)) (c.tI i).v = some (a.tmps.getD t undef)
  olds : ∀ t, (∀ i o, D i = true → c.ops[i]? = some o → o.dst ≠ some t) → a.tmps.getD t undef = c.a0.tmps.getD t undef
  size : a.tmps.size = c.nt
  defs : a.defers = c.a0.defers
namespace DC
variable {c : DC} {D : Nat → Bool} {q : Nat} {F : Mem} {a : Act} {w : World}
/-- the blocks that wait are taken in -/
theorem absorb (hc : c.Ok P ρ) (h : DInv P ρ c D q F a w) {m : Nat} (hqm : q ≤ m) (hm : m ≤ c.ops.size) (hno : ∀ j, q ≤ j → j < m → c.clo P j ≠ 2) (hall : ∀ j, q ≤ j → j < m → c.newRan P j → D j = true) :
    HRel ρ (F.sub (c.bel m)) ⟨(c.sg m).heap, (c.sg m).next, c.asm⟩ w ∧ Step c.Ei c.s0 c.w0 (F.sub (c.bel m)) ⟨(c.sg m).heap, (c.sg m).next, c.asm⟩ w := by
  have hmono := mono hc hqm hm
  have hle : Mem.Le (F.sub (c.bel q)) (F.sub (c.bel m)) := Mem.sub_le fun p x _ hp => by unfold DC.bel at *; omega
  have hbt := fun {p : Pos} {b : Blk} => heap_between hc hqm hm (fun j h1 h2 h3 => absurd h3 (hno j h1 h2)) (p := p) (b := b)
  have hXm : ∀ j, j < m → Mem.Le (F.sub (c.X P q j)) (F.sub (c.bel m)) := fun j hj => Mem.sub_le fun p x _ hp => by
    rcases hp with hp | ⟨j', hj', hn, rfl⟩
    · unfold DC.bel at *; omega
    · have : j' < m := by
        rcases hj' with rfl | hb
        · exact hj
        · obtain ⟨as, hst, _⟩ := hc.as
          have hjn : j < c.ops.size := by omega
          have := hst.lt (Array.getElem?_eq_getElem hjn) hb
          omega
      exact id_lt hc hn this hm
  -- where a live block of the later state lies
  have place : ∀ p b k o, (c.sg m).heap.get p = some b → Live b → (F.sub (c.bel m)).blk p = some (k, o) →
      ((c.sg q).heap.get p = some b ∧ (F.sub (c.bel q)).blk p = some (k, o)) ∨ ∃ j, q ≤ j ∧ j < m ∧ c.newRan P j ∧ D j = true ∧ p = c.id j ∧ b = (c.tI j).b ∧ o = 0 ∧ F.blk (c.id j) = some (k, 0) := by
    intro p b k o hp hl he
    rw [Mem.sub_blk] at he
    rcases hbt hp with h1 | ⟨j, h1, h2, h3, rfl, rfl⟩
    · left
      refine ⟨h1, Mem.sub_blk.2 ⟨?_, he.2⟩⟩
      exact h.hr.dom p b h1
    · right
      have hD := hall j h1 h2 h3
      obtain ⟨k', hk', _⟩ := h.pend j hD h3 h1
      rw [hk'] at he
      cases he.2
      exact ⟨j, h1, h2, h3, hD, rfl, rfl, rfl, hk'⟩
  refine ⟨⟨?_, ?_, ?_, ?_, hc.asmok⟩, ⟨h.st.le.trans hle, Nat.le_trans h.st.next hmono, ?_, h.st.size, h.st.frame, ?_, h.st.os, h.st.out, h.st.tape, ?_⟩⟩
  · intro p b hp
    rcases hbt hp with h1 | ⟨j, h1, h2, h3, rfl, rfl⟩
    · exact (h.hr.blks p b h1).congr hle fun _ _ _ _ => rfl
    · obtain ⟨k, _, hb, _⟩ := h.pend j (hall j h1 h2 h3) h3 h1
      exact hb.congr (hXm j h2) fun _ _ _ _ => rfl
  · intro p p' b b' k o o' hp hp' hl hl' he he'
    rcases place p b k o hp hl he with ⟨g1, g2⟩ | ⟨j, j1, j2, j3, j4, rfl, rfl, rfl, j5⟩
    · rcases place p' b' k o' hp' hl' he' with ⟨g1', g2'⟩ | ⟨j, j1, j2, j3, j4, rfl, rfl, rfl, j5⟩
      · exact h.hr.inj p p' b b' k o o' g1 g1' hl hl' g2 g2'
      · left; obtain ⟨k', e1, _, _, _, _, e2⟩ := h.pend j j4 j3 j1
        rw [j5] at e1; cases e1
        rw [Mem.sub_blk] at g2
        exact absurd g2.2 (e2 p b o g1 hl g2.1)
    · rcases place p' b' k o' hp' hl' he' with ⟨g1', g2'⟩ | ⟨j', j1', j2', j3', j4', rfl, rfl, rfl, j5'⟩
      · obtain ⟨k', e1, _, _, _, _, e2⟩ := h.pend j j4 j3 j1
        rw [j5] at e1; cases e1
        rw [Mem.sub_blk] at g2'
        exact absurd g2'.2 (e2 p' b' o' g1' hl' g2'.1)
      · left; rw [h.pinj j j' k j4 j4' j3 j3' j1 j1' j5 j5']
  · intro p b hp
    rcases hbt hp with h1 | ⟨j, h1, h2, h3, rfl, rfl⟩
    · exact Nat.lt_of_lt_of_le (h.hr.dom p b h1) hmono
    · exact id_lt hc h3 h2 hm
  · intro p x hx
    exact (Mem.sub_blk.1 hx).1
  · intro p hp
    have h1 := h.st.old p hp
    have hbq : c.bel q p := Nat.lt_of_lt_of_le hp h.st.next
    rw [Mem.sub_eq hbq] at h1
    rw [Mem.sub_eq (show c.bel m p from Nat.lt_of_lt_of_le hbq hmono)]
    exact h1
  · intro p b k o hp hl he
    rcases place p b k o hp hl he with ⟨g1, g2⟩ | ⟨j, j1, j2, j3, j4, rfl, rfl, rfl, j5⟩
    · exact h.st.img p b k o g1 hl g2
    · obtain ⟨k', e1, _, _, _, e2, _⟩ := h.pend j j4 j3 j1
      rw [j5] at e1; cases e1
      exact .inl e2
  · intro p x k t hp
    have h1 := h.st.ro p x k t hp
    exact heap_keep hc hqm hm (fun j h1 h2 h3 => absurd h3 (hno j h1 h2)) (h.hr.dom p _ h1) h1
end DC
end Go.Ab
end

section
namespace Go.Ab
variable {P : Program} {ρ : Val}

theorem findD_at : ∀ (t : Nat) (ds : List (Option Nat)) (n j : Nat), findD t ds n = some j → n ≤ j ∧ ds[j - n]? = some (some t)
  | t, [], n, j, h => by cases h
  | t, none :: ds, n, j, h => by
    obtain ⟨h1, h2⟩ := findD_at t ds (n + 1) j h
    exact ⟨by omega, by rw [show j - n = (j - (n + 1)) + 1 from by omega]; simpa using h2⟩
  | t, some u :: ds, n, j, h => by
    have h' : (Bool.rec (motive := fun _ => Option Nat) (findD t ds (n + 1)) (some n) (Nat.beq u t)) = some j := h
    cases hb : Nat.beq u t with
    | true => rw [hb] at h'; cases h'; exact ⟨Nat.le_refl _, by simp; simpa using hb⟩
    | false =>
      rw [hb] at h'
      obtain ⟨h1, h2⟩ := findD_at t ds (n + 1) j h'
      exact ⟨by omega, by rw [show j - n = (j - (n + 1)) + 1 from by omega]; simpa using h2⟩
theorem findD_none : ∀ (t : Nat) (ds : List (Option Nat)) (n : Nat), findD t ds n = none → ∀ j : Nat, ds[j]? ≠ some (some t)
  | t, [], n, h, j => by simp
  | t, none :: ds, n, h, j => by
    cases j with
    | zero => simp
    | succ j => simpa using findD_none t ds (n + 1) h j
  | t, some u :: ds, n, h, j => by
    have h' : (Bool.rec (motive := fun _ => Option Nat) (findD t ds (n + 1)) (some n) (Nat.beq u t)) = none := h
    cases hb : Nat.beq u t with
    | true => rw [hb] at h'; cases h'
    | false =>
      rw [hb] at h'
      cases j with
      | zero => simp; intro e; subst e; simp at hb
      | succ j => simpa using findD_none t ds (n + 1) h' j
/-- the operands' definitions alone -/
def maskD (lk : List Nat) (d : Option Nat) : Option Nat := match d with | some d => if d ∈ lk then some d else none | none => none
theorem findD_mask (lk : List Nat) : ∀ (t : Nat) (ds : List (Option Nat)) (n : Nat), findD t (ds.map (maskD lk)) n = if t ∈ lk then findD t ds n else none
  | t, [], n => by simp [findD]
  | t, none :: ds, n => by
    have := findD_mask lk t ds (n + 1)
    exact this
  | t, some u :: ds, n => by
    have ih := findD_mask lk t ds (n + 1)
    have h2 : findD t (some u :: ds) n = (Bool.rec (motive := fun _ => Option Nat) (findD t ds (n + 1)) (some n) (Nat.beq u t)) := rfl
    by_cases hu : u ∈ lk
    · have hm : (some u :: ds).map (maskD lk) = some u :: ds.map (maskD lk) := by simp [maskD, hu]
      rw [hm]
      have h1 : findD t (some u :: ds.map (maskD lk)) n = (Bool.rec (motive := fun _ => Option Nat) (findD t (ds.map (maskD lk)) (n + 1)) (some n) (Nat.beq u t)) := rfl
      rw [h1, h2, ih]
      cases hb : Nat.beq u t with
      | true =>
        have : u = t := by simpa using hb
        subst this
        simp [hu]
      | false => rfl
    · have hm : (some u :: ds).map (maskD lk) = none :: ds.map (maskD lk) := by simp [maskD, hu]
      rw [hm]
      have h1 : findD t (none :: ds.map (maskD lk)) n = findD t (ds.map (maskD lk)) (n + 1) := rfl
      rw [h1, h2, ih]
      by_cases ht : t ∈ lk
      · rw [if_pos ht, if_pos ht]
        have : Nat.beq u t = false := by
          cases hb : Nat.beq u t with
          | false => rfl
          | true => have e : u = t := by simpa using hb
                    subst e; exact absurd ht hu
        rw [this]
      · rw [if_neg ht, if_neg ht]
namespace DC
variable {c : DC} {D : Nat → Bool} {q : Nat} {F : Mem} {a : Act} {w : World}
theorem dsAt_get {i j : Nat} {t : Nat} (h : (dsAt c.ops i)[j]? = some (some t)) (hi : i ≤ c.ops.size) : j < i ∧ ∃ o, c.ops[i - 1 - j]? = some o ∧ o.dst = some t := by
  unfold dsAt at h
  have hl : ((c.ops.toList.take i).map (·.dst)).length = i := by simp; omega
  have hj : j < i := by
    have := (List.getElem?_eq_some_iff.1 h).1
    rw [List.length_reverse, hl] at this
    exact this
  refine ⟨hj, ?_⟩
  rw [List.getElem?_reverse (by rw [hl]; exact hj), hl, List.getElem?_map, List.getElem?_take, if_pos (by omega)] at h
  obtain ⟨o, ho, hd⟩ := Option.map_eq_some_iff.1 h
  exact ⟨o, by simpa using ho, hd⟩
theorem dsAt_has {i i' t : Nat} {o : Oper} (hi : i' < i) (ho : c.ops[i']? = some o) (hd : o.dst = some t) (hin : i ≤ c.ops.size) : (dsAt c.ops i)[i - 1 - i']? = some (some t) := by
  unfold dsAt
  have hl : ((c.ops.toList.take i).map (·.dst)).length = i := by simp; omega
  rw [List.getElem?_reverse (by rw [hl]; omega), hl, List.getElem?_map, List.getElem?_take, if_pos (by omega)]
  rw [show i - 1 - (i - 1 - i') = i' from by omega]
  rw [show c.ops.toList[i']? = some o from by simpa using ho]
  simp [hd]
theorem lsAt_get {i j : Nat} {v : AV} (hlen : c.ts.length = c.ops.size) (hi : i ≤ c.ops.size) (hj : j < i) (h : nthL j (lsAt [] c.ts i) = some v) : v = (c.tI (i - 1 - j)).v := by
  rw [nthL_eq] at h
  unfold lsAt at h
  rw [List.append_nil] at h
  have hl : ((c.ts.take i).map (·.v)).length = i := by simp; omega
  rw [List.getElem?_reverse (by rw [hl]; exact hj), hl, List.getElem?_map, List.getElem?_take, if_pos (by omega)] at h
  obtain ⟨t, ht, hv⟩ := Option.map_eq_some_iff.1 h
  unfold DC.tI
  rw [ht]
  exact hv.symm
/-- the act that an operation may look at -/
def mAct (c : DC) (lk : List Nat) (a : Act) : Act := ⟨(Array.range c.nt).map fun t => if t ∈ lk then a.tmps.getD t undef else c.a0.tmps.getD t undef, a.defers⟩
theorem mAct_get (hc : c.Ok P ρ) (hs : a.tmps.size = c.nt) (lk : List Nat) (t : Nat) : (mAct c lk a).tmps.getD t undef = if t ∈ lk then a.tmps.getD t undef else c.a0.tmps.getD t undef := by
  unfold mAct
  by_cases ht : t < c.nt
  · simp [Array.getD_eq_getD_getElem?, Array.getElem?_map, ht]
  · have h1 : a.tmps.getD t undef = undef := by
      rw [Array.getD_eq_getD_getElem?, Array.getElem?_eq_none (by omega)]; rfl
    have h2 : c.a0.tmps.getD t undef = undef := by
      rw [Array.getD_eq_getD_getElem?, Array.getElem?_eq_none (by rw [hc.frel.size]; omega)]; rfl
    rw [h1, h2]
    simp [Array.getD_eq_getD_getElem?, Array.getElem?_map, ht]
/-- an operation is ready -/
structure Rdy (c : DC) (D : Nat → Bool) (i : Nat) (o : Oper) : Prop where
  op : c.ops[i]? = some o
  new : D i = false
  all : ∀ j, (c.bm i).testBit j = true → D j = true
variable {i : Nat} {o : Oper}
/-- the definitions ahead that an operation looks at -/
theorem look (hc : c.Ok P ρ) (h : DInv P ρ c D q F a w) (hr : Rdy c D i o) {t : Nat} (ht : t ∈ o.looksAt c.ops) :
    (∀ j v, findD t (dsAt c.ops i) 0 = some j → nthL j (lsAt [] c.ts i) = some v → cv ρ (F.sub (c.Y P q i)) v = some (a.tmps.getD t undef)) ∧
    (findD t (dsAt c.ops i) 0 = none → a.tmps.getD t undef = c.a0.tmps.getD t undef) := by
  obtain ⟨as, hst, _⟩ := hc.as
  have hin : i < c.ops.size := (Array.getElem?_eq_some_iff.1 hr.op).1
  constructor
  · intro j v hj hv
    obtain ⟨_, h1⟩ := findD_at t _ 0 j hj
    obtain ⟨hji, o', ho', hd'⟩ := dsAt_get (c := c) h1 (Nat.le_of_lt hin)
    simp only [Nat.sub_zero] at hji ho'
    rw [lsAt_get hc.len (Nat.le_of_lt hin) hji hv]
    rcases hst.tmp i o t _ o' hr.op ht ho' hd' with ⟨h2, h3⟩ | ⟨h2, _⟩
    · have hD := hr.all _ h3
      refine cv_mono (Mem.sub_le fun p x _ hp => ?_) (h.vals _ o' t hD ho' hd')
      rcases hp with hp | ⟨j', hj', hn, rfl⟩
      · exact .inl hp
      · refine .inr ⟨j', ?_, hn, rfl⟩
        rcases hj' with rfl | hb
        · exact h3
        · exact hst.trans hr.op h3 hb
    · omega
  · intro hno
    refine h.olds t fun i' o' hD ho' hd' => ?_
    rcases hst.tmp i o t i' o' hr.op ht ho' hd' with ⟨h2, h3⟩ | ⟨h2, h3⟩
    · exact findD_none t _ 0 hno _ (dsAt_has h2 ho' hd' (Nat.le_of_lt hin))
    · have := h.cl i' hD i h3
      rw [hr.new] at this; cases this
theorem Ei_le (h : DInv P ρ c D q F a w) : Mem.Le c.Ei (F.sub (c.bel q)) := h.st.le
/-- the operands -/
theorem res_at (hc : c.Ok P ρ) (h : DInv P ρ c D q F a w) (hr : Rdy c D i o) {Em : Mem} (hEm : Mem.Le (F.sub (c.Y P q i)) Em) :
    Res ρ Em ((dsAt c.ops i).map (maskD (o.looksAt c.ops))) (lsAt [] c.ts i) c.fr (mAct c (o.looksAt c.ops) a) := by
  intro x v hv
  cases x with
  | const u => exact cstArg_ok hv
  | global g => cases hv
  | func f => cases hv; simp [cv, cvs, Act.eval]
  | tmp t =>
    show cv ρ Em v = some ((mAct c (o.looksAt c.ops) a).tmps.getD t undef)
    rw [mAct_get hc h.size]
    unfold trArg at hv
    simp only [findD_mask] at hv
    have hEi : Mem.Le c.Ei Em := (Ei_le h).trans ((Mem.sub_le fun p x _ hp => .inl hp).trans hEm)
    by_cases ht : t ∈ o.looksAt c.ops
    · rw [if_pos ht] at hv ⊢
      obtain ⟨l1, l2⟩ := look hc h hr ht
      cases hf : findD t (dsAt c.ops i) 0 with
      | some j => rw [hf] at hv; exact cv_mono hEm (l1 j v hf hv)
      | none =>
        rw [hf] at hv
        rw [l2 hf]
        exact cv_mono hEi (hc.frel.val t v hv)
    · rw [if_neg ht] at hv ⊢
      exact cv_mono hEi (hc.frel.val t v hv)
theorem op_mask (hr : Rdy c D i o) : trOp P ((dsAt c.ops i).map (maskD (o.looksAt c.ops))) o.op = c.op P o i := by
  unfold DC.op
  refine trOp_congr fun x hx => ?_
  cases x with
  | tmp t =>
    have ht : t ∈ o.looksAt c.ops := List.mem_append_left _ (List.mem_filterMap.2 ⟨.tmp t, by simpa using hx, rfl⟩)
    unfold trArg
    simp only [findD_mask, if_pos ht]
  | _ => rfl
theorem exec_mask (hc : c.Ok P ρ) (h : DInv P ρ c D q F a w) (hr : Rdy c D i o) : execOp a.eval o = execOp (mAct c (o.looksAt c.ops) a).eval o := by
  obtain ⟨as, hst, _⟩ := hc.as
  refine execOp_congr o (hst.nosel o (by
    have := Array.getElem?_eq_some_iff.1 hr.op
    obtain ⟨h1, h2⟩ := this
    rw [← h2]; exact Array.getElem_mem_toList _)) fun x hx => ?_
  cases x with
  | tmp t =>
    have ht : t ∈ o.looksAt c.ops := List.mem_append_left _ (List.mem_filterMap.2 ⟨.tmp t, by simpa using hx, rfl⟩)
    show a.tmps.getD t undef = (mAct c (o.looksAt c.ops) a).tmps.getD t undef
    rw [mAct_get hc h.size, if_pos ht]
  | _ => rfl
theorem wanted_at (hc : c.Ok P ρ) (h : DInv P ρ c D q F a w) (hr : Rdy c D i o) : Region.wanted o (yielded c.ops a.tmps) = (c.tI i).ran := by
  obtain ⟨as, hst, _⟩ := hc.as
  obtain ⟨_, g, hg, hit⟩ := hc.it i o hr.op
  have hgr := hit.guard
  rcases trGuard_some hg with ⟨hgn, rfl⟩ | ⟨j, want, t, i', hgs, ht, hi', rfl⟩
  · have : (c.tI i).ran = true := hgr
    rw [this]
    simp [Region.wanted, hgn]
  · obtain ⟨v, hv, hcase⟩ : ∃ v, nthL i' (lsAt [] c.ts i) = some v ∧ ((v.asTup.isSome = true ∧ (c.tI i).ran = false) ∨ ∃ b, cv ρ E0 v = some (.bool b) ∧ (c.tI i).ran = (b == want)) := hgr
    have hlk : t ∈ o.looksAt c.ops := by
      unfold Oper.looksAt
      rw [hgs]
      exact List.mem_append_right _ (by simp only [ht]; simp)
    have hcv := (look hc h hr hlk).1 i' v hi' hv
    obtain ⟨hlt, og, t', ho, hd⟩ := hst.guard i o j want hr.op hgs
    have htt : t' = t := by rw [ho] at ht; simpa [hd] using ht
    subst htt
    have htn : t' < a.tmps.size := by
      rw [h.size]
      have := (hc.it j og ho).1
      rw [hd] at this
      simpa [dstOk] using this
    have hget : a.tmps[t']? = some (a.tmps.getD t' undef) := by
      rw [Array.getD_eq_getD_getElem?, Array.getElem?_eq_getElem htn]; rfl
    have hy : ((c.ops[j]?).bind (·.dst)).bind (a.tmps[·]?) = some (a.tmps.getD t' undef) := by rw [ht]; exact hget
    simp only [Region.wanted, hgs]
    unfold yielded
    rw [hy]
    rcases hcase with ⟨hb, hran⟩ | ⟨b, hb, hran⟩
    · obtain ⟨vs, hvs⟩ := Option.isSome_iff_exists.1 hb
      rw [asTup_eq hvs] at hcv
      simp only [cv, Option.map_eq_some_iff] at hcv
      obtain ⟨us, _, hu⟩ := hcv
      rw [← hu, hran]
      rfl
    · rw [cv_mono (E0_le _) hb] at hcv
      simp only [Option.some.injEq] at hcv
      rw [← hcv, hran]
      cases b <;> cases want <;> rfl
end DC
end Go.Ab
end

section
namespace Go.Ab
variable {P : Program} {ρ : Val}

theorem HRel.congr2 {E E' : Mem} {s : St} {w : World} (h : HRel ρ E s w) (h1 : Mem.Le E E') (h2 : Mem.Le E' E) : HRel ρ E' s w :=
  ⟨fun p b hp => (h.blks p b hp).congr h1 fun _ _ _ _ => rfl, fun p q b b' k o o' hp hq hl hl' he he' => h.inj p q b b' k o o' hp hq hl hl' (h2.blk _ _ he) (h2.blk _ _ he'), h.dom, fun p x hx => h.free p x (h2.blk _ _ hx), h.asm⟩
theorem Mem.Le.eq {E E' : Mem} (h1 : Mem.Le E E') (h2 : Mem.Le E' E) (p : Pos) : E'.blk p = E.blk p := by
  cases h : E.blk p with
  | some x => exact h1.blk p x h
  | none =>
    cases h' : E'.blk p with
    | none => rfl
    | some x => rw [h2.blk p x h'] at h; cases h
theorem Step.congr2 {E0 E E' : Mem} {s0 s : St} {w0 w : World} (h : Step E0 s0 w0 E s w) (h1 : Mem.Le E E') (h2 : Mem.Le E' E) : Step E0 s0 w0 E' s w :=
  ⟨h.le.trans h1, h.next, fun p hp => (h1.eq h2 p).trans (h.old p hp), h.size, h.frame, fun p b k o hp hl he => h.img p b k o hp hl (h2.blk _ _ he), h.os, h.out, h.tape, h.ro⟩
theorem HRel.grow {E : Mem} {s : St} {w : World} (h : HRel ρ E s w) (obj : Obj) : HRel ρ E s (w.alloc obj) :=
  ⟨fun p b hp => (h.blks p b hp).congr (.refl E) fun k o hl he => by
      obtain ⟨k', o', e1, e2⟩ := (h.blks p b hp).lt hl
      rw [he] at e1; cases e1
      exact heap_alloc_lt _ _ _ e2, h.inj, h.dom, h.free, h.asm⟩
theorem Step.grow {E0 E : Mem} {s0 s : St} {w0 w : World} (h : Step E0 s0 w0 E s w) (obj : Obj) : Step E0 s0 w0 E s (w.alloc obj) :=
  ⟨h.le, h.next, h.old, by have := h.size; show _ ≤ (w.heap.push obj).size; simp; omega, fun k hk hn => by rw [heap_alloc_lt _ _ _ (Nat.lt_of_lt_of_le hk h.size)]; exact h.frame k hk hn, h.img, h.os, h.out, h.tape, h.ro⟩
theorem addNews_get {m qn : Nat} {h : Trie Blk} {p : Pos} {b : Blk} : ∀ {ns : List New}, (addNews m qn ns h).get p = some b → h.get p = some b ∨ ∃ n ∈ ns, m.testBit n.j = true ∧ qn ≤ n.p.nat ∧ p = n.p ∧ b = n.b
  | [], hp => .inl hp
  | n :: ns, hp => by
    have hp : (bif m.testBit n.j && Nat.ble qn n.p.nat then (addNews m qn ns h).put n.p (some n.b) else addNews m qn ns h).get p = some b := hp
    have lift : (addNews m qn ns h).get p = some b → h.get p = some b ∨ ∃ n' ∈ n :: ns, m.testBit n'.j = true ∧ qn ≤ n'.p.nat ∧ p = n'.p ∧ b = n'.b := fun hp => by
      rcases addNews_get hp with h1 | ⟨n', h1, h2⟩
      · exact .inl h1
      · exact .inr ⟨n', List.mem_cons_of_mem _ h1, h2⟩
    cases hb : (m.testBit n.j && Nat.ble qn n.p.nat) with
    | false => rw [hb] at hp; exact lift hp
    | true =>
      rw [hb] at hp
      simp only [cond_true, Trie.get_put] at hp
      simp only [Bool.and_eq_true, Nat.ble_eq] at hb
      by_cases e : p = n.p
      · rw [if_pos e] at hp
        cases hp
        exact .inr ⟨n, List.mem_cons_self .., hb.1, hb.2, e, rfl⟩
      · rw [if_neg e] at hp
        exact lift hp
theorem put_get (a : Act) (dst : Option Nat) (u : Value) (t : Nat) : (a.put dst u).tmps.getD t undef = if dst = some t ∧ t < a.tmps.size then u else a.tmps.getD t undef := by
  cases dst with
  | none => simp [Act.put]
  | some d =>
    by_cases h : d = t
    · subst h
      by_cases hlt : d < a.tmps.size
      · simp [Act.put, hlt]
      · rw [if_neg (fun h => hlt h.2)]
        simp [Act.put, Array.getD_eq_getD_getElem?, Array.getElem?_setIfInBounds, hlt]
    · rw [if_neg (fun h' => h (by have := h'.1; simpa using this))]
      simp [Act.put, Array.getD_eq_getD_getElem?, Array.getElem?_setIfInBounds, h]
namespace DC
variable {c : DC} {D : Nat → Bool} {q : Nat} {F : Mem} {a : Act} {w : World} {i : Nat} {o : Oper}
def add (D : Nat → Bool) (i : Nat) : Nat → Bool := fun j => if j = i then true else D j
theorem add_same : add D i i = true := by simp [add]
theorem add_iff {j : Nat} : add D i j = true ↔ j = i ∨ D j = true := by
  unfold add
  by_cases h : j = i <;> simp [h]
theorem isChain (hc : c.Ok P ρ) {j : Nat} (h : c.clo P j = 2) {k : Nat} (hk : k < j) (hk0 : c.clo P k ≠ 0) : (c.bm j).testBit k = true := by
  obtain ⟨as, hst, has⟩ := hc.as
  have hj := clo_lt (P := P) hc (i := j) (by omega)
  obtain ⟨oj, hoj⟩ := get_op (P := P) hc hj
  obtain ⟨ok, hok⟩ := get_op (P := P) hc (Nat.lt_trans hk hj)
  obtain ⟨aj, h1, h2⟩ := has j oj hoj
  obtain ⟨ak, h3, h4⟩ := has k ok hok
  refine hst.chain j aj k ak h1 ?_ hk h3 ?_
  · rw [h2, ← clo_eq hc hoj]; exact h
  · rw [h4, ← clo_eq hc hok]; exact hk0
theorem rdy_lt (hr : Rdy c D i o) : i < c.ops.size := (Array.getElem?_eq_some_iff.1 hr.op).1
/-- an effect or new memory that is ready lies behind the last effect -/
theorem q_le (hc : c.Ok P ρ) (h : DInv P ρ c D q F a w) (hr : Rdy c D i o) (h0 : c.clo P i ≠ 0) : q ≤ i := by
  rcases h.qch with rfl | ⟨h1, h2⟩
  · omega
  · rcases Nat.lt_trichotomy i (q - 1) with h3 | h3 | h3
    · have := h.cl _ h2 i (isChain hc h1 h3 h0)
      rw [hr.new] at this; cases this
    · rw [← h3, hr.new] at h2; cases h2
    · omega
theorem chain_done (hc : c.Ok P ρ) (h : DInv P ρ c D q F a w) {j : Nat} (hj : c.clo P j = 2) (hq : j < q) : D j = true := by
  rcases h.qch with rfl | ⟨h1, h2⟩
  · omega
  · by_cases e : j = q - 1
    · rw [e]; exact h2
    · exact h.cl _ h2 j (isChain hc h1 (by omega) (by omega))
theorem X_mono {q q' j : Nat} (hc : c.Ok P ρ) (hqq : q ≤ q') (hq' : q' ≤ c.ops.size) {p : Pos} (h : c.X P q j p) : c.X P q' j p := by
  rcases h with h | h
  · left
    have := mono hc hqq hq'
    unfold DC.bel at *
    omega
  · exact .inr h
/-- what the frame holds behind an operation -/
theorem after_vals (hc : c.Ok P ρ) (h : DInv P ρ c D q F a w) (hr : Rdy c D i o) {u : Value} {F' : Mem} {q' : Nat} (hu : cv ρ (F'.sub (c.X P q' i)) (c.tI i).v = some u)
    (hm : ∀ j, D j = true → Mem.Le (F.sub (c.X P q j)) (F'.sub (c.X P q' j))) :
    (∀ j oj t, add D i j = true → c.ops[j]? = some oj → oj.dst = some t → cv ρ (F'.sub (c.X P q' j)) (c.tI j).v = some ((a.put o.dst u).tmps.getD t undef)) ∧
    (∀ t, (∀ j oj, add D i j = true → c.ops[j]? = some oj → oj.dst ≠ some t) → (a.put o.dst u).tmps.getD t undef = c.a0.tmps.getD t undef) := by
  obtain ⟨as, hst, _⟩ := hc.as
  constructor
  · intro j oj t hj hoj hd
    rw [put_get]
    by_cases e : j = i
    · subst e
      have : oj = o := by rw [hr.op] at hoj; exact (Option.some.inj hoj).symm
      subst this
      have htn : t < a.tmps.size := by
        rw [h.size]
        have := (hc.it j oj hoj).1
        rw [hd] at this
        simpa [dstOk] using this
      rw [if_pos ⟨hd, htn⟩]
      exact hu
    · have hDj : D j = true := (add_iff.1 hj).resolve_left e
      rw [if_neg (fun h' => e (hst.dist j i oj o t hoj hr.op hd h'.1))]
      exact cv_mono (hm j hDj) (h.vals j oj t hDj hoj hd)
  · intro t hno
    rw [put_get, if_neg (fun h' => hno i o add_same hr.op h'.1)]
    exact h.olds t fun j oj hj hoj => hno j oj (add_iff.2 (.inr hj)) hoj
theorem add_cl (h : DInv P ρ c D q F a w) (hr : Rdy c D i o) : ∀ j, add D i j = true → ∀ k, (c.bm j).testBit k = true → add D i k = true := by
  intro j hj k hk
  rcases add_iff.1 hj with rfl | hj
  · exact add_iff.2 (.inr (hr.all k hk))
  · exact add_iff.2 (.inr (h.cl j hj k hk))
theorem add_lt (h : DInv P ρ c D q F a w) (hr : Rdy c D i o) : ∀ j, add D i j = true → j < c.ops.size := by
  intro j hj
  rcases add_iff.1 hj with rfl | hj
  · exact rdy_lt hr
  · exact h.lt j hj
/-- nothing but a value -/
theorem tr_value (hc : c.Ok P ρ) (h : DInv P ρ c D q F a w) (hr : Rdy c D i o) (h2 : c.clo P i ≠ 2) (h1 : ¬ c.newRan P i) {u : Value} (hu : cv ρ (F.sub (c.X P q i)) (c.tI i).v = some u) :
    DInv P ρ c (add D i) q F (a.put o.dst u) w := by
  obtain ⟨v1, v2⟩ := after_vals hc h hr hu (fun j _ => .refl _)
  have old : ∀ j, add D i j = true → c.newRan P j → D j = true := fun j hj hn => (add_iff.1 hj).resolve_left fun e => by subst e; exact h1 hn
  refine ⟨add_cl h hr, add_lt h hr, h.qle, ?_, ?_, h.hr, h.st, ?_, ?_, ?_, v1, v2, by rw [Act.put_size]; exact h.size, by rw [Act.put_defers]; exact h.defs⟩
  · rcases h.qch with e | ⟨e1, e2⟩
    · exact .inl e
    · exact .inr ⟨e1, add_iff.2 (.inr e2)⟩
  · intro j hj hq
    have := h.above j hj hq
    have hne : j ≠ i := fun e => by subst e; exact h2 hj
    simp [add, hne, this]
  · intro p x hx
    rcases h.dom p x hx with h' | ⟨j, e1, e2⟩
    · exact .inl h'
    · exact .inr ⟨j, add_iff.2 (.inr e1), e2⟩
  · intro j hj hn hq
    exact h.pend j (old j hj hn) hn hq
  · intro j j' k hj hj' hn hn' hq hq' e e'
    exact h.pinj j j' k (old j hj hn) (old j' hj' hn') hn hn' hq hq' e e'
/-- the state in which a quiet operation may come up -/
theorem quiet_state (hc : c.Ok P ρ) (h : DInv P ρ c D q F a w) (hr : Rdy c D i o) :
    HRel ρ (F.sub (c.Y P q i)) ⟨addNews (c.bm i) (c.sg q).next.nat c.ns (c.sg q).heap, c.nx, c.asm⟩ w := by
  obtain ⟨as, hst, _⟩ := hc.as
  have hle : Mem.Le (F.sub (c.bel q)) (F.sub (c.Y P q i)) := Mem.sub_le fun p x _ hp => .inl hp
  have get : ∀ p b, (addNews (c.bm i) (c.sg q).next.nat c.ns (c.sg q).heap).get p = some b → (c.sg q).heap.get p = some b ∨ ∃ j, q ≤ j ∧ (c.bm i).testBit j = true ∧ c.newRan P j ∧ D j = true ∧ p = c.id j ∧ b = (c.tI j).b := by
    intro p b hp
    rcases addNews_get hp with h1 | ⟨n, hn, h1, h2, h3, h4⟩
    · exact .inl h1
    · obtain ⟨j, hnj, rfl⟩ := (hc.nsok n).1 hn
      simp only at h1 h2 h3 h4
      refine .inr ⟨j, ?_, h1, hnj, hr.all j h1, h3, h4⟩
      rcases Nat.lt_or_ge j q with hlt | hge
      · have := id_lt hc hnj hlt h.qle
        rw [Pos.nat_eq, Pos.nat_eq] at h2
        omega
      · exact hge
  have hXY : ∀ j, (c.bm i).testBit j = true → Mem.Le (F.sub (c.X P q j)) (F.sub (c.Y P q i)) := fun j hj => Mem.sub_le fun p x _ hp => by
    rcases hp with hp | ⟨j', hj', hn, rfl⟩
    · exact .inl hp
    · refine .inr ⟨j', ?_, hn, rfl⟩
      rcases hj' with rfl | hb
      · exact hj
      · exact hst.trans hr.op hj hb
  have hnx : ∀ j, c.newRan P j → (c.id j).toNat < c.nx.toNat := fun j hj => Nat.lt_of_lt_of_le (id_lt hc hj (Nat.lt_succ_self j) hj.2.2) (hc.nxok (j + 1) hj.2.2)
  have hbx : ∀ p, c.bel q p → p.toNat < c.nx.toNat := fun p hp => Nat.lt_of_lt_of_le hp (hc.nxok q h.qle)
  have place : ∀ p b k o, (addNews (c.bm i) (c.sg q).next.nat c.ns (c.sg q).heap).get p = some b → Live b → (F.sub (c.Y P q i)).blk p = some (k, o) →
      ((c.sg q).heap.get p = some b ∧ (F.sub (c.bel q)).blk p = some (k, o)) ∨ ∃ j, q ≤ j ∧ c.newRan P j ∧ D j = true ∧ p = c.id j ∧ b = (c.tI j).b ∧ o = 0 ∧ F.blk (c.id j) = some (k, 0) := by
    intro p b k o hp hl he
    rw [Mem.sub_blk] at he
    rcases get p b hp with h1 | ⟨j, h1, h2, h3, hD, rfl, rfl⟩
    · exact .inl ⟨h1, Mem.sub_blk.2 ⟨h.hr.dom p b h1, he.2⟩⟩
    · right
      obtain ⟨k', hk', _⟩ := h.pend j hD h3 h1
      rw [hk'] at he
      cases he.2
      exact ⟨j, h1, h3, hD, rfl, rfl, rfl, hk'⟩
  refine ⟨?_, ?_, ?_, ?_, hc.asmok⟩
  · intro p b hp
    rcases get p b hp with h1 | ⟨j, h1, h2, h3, hD, rfl, rfl⟩
    · exact (h.hr.blks p b h1).congr hle fun _ _ _ _ => rfl
    · obtain ⟨k, _, hb, _⟩ := h.pend j hD h3 h1
      exact hb.congr (hXY j h2) fun _ _ _ _ => rfl
  · intro p p' b b' k o o' hp hp' hl hl' he he'
    rcases place p b k o hp hl he with ⟨g1, g2⟩ | ⟨j, j1, j3, j4, rfl, rfl, rfl, j5⟩
    · rcases place p' b' k o' hp' hl' he' with ⟨g1', g2'⟩ | ⟨j, j1, j3, j4, rfl, rfl, rfl, j5⟩
      · exact h.hr.inj p p' b b' k o o' g1 g1' hl hl' g2 g2'
      · obtain ⟨k', e1, _, _, _, _, e2⟩ := h.pend j j4 j3 j1
        rw [j5] at e1; cases e1
        rw [Mem.sub_blk] at g2
        exact absurd g2.2 (e2 p b o g1 hl g2.1)
    · rcases place p' b' k o' hp' hl' he' with ⟨g1', g2'⟩ | ⟨j', j1', j3', j4', rfl, rfl, rfl, j5'⟩
      · obtain ⟨k', e1, _, _, _, _, e2⟩ := h.pend j j4 j3 j1
        rw [j5] at e1; cases e1
        rw [Mem.sub_blk] at g2'
        exact absurd g2'.2 (e2 p' b' o' g1' hl' g2'.1)
      · left; rw [h.pinj j j' k j4 j4' j3 j3' j1 j1' j5 j5']
  · intro p b hp
    rcases get p b hp with h1 | ⟨j, h1, h2, h3, hD, rfl, rfl⟩
    · exact hbx p (h.hr.dom p b h1)
    · exact hnx j h3
  · intro p x hx
    rcases (Mem.sub_blk.1 hx).1 with hp | ⟨j, _, hn, rfl⟩
    · exact hbx p hp
    · exact hnx j hn
/-- a quiet operation -/
theorem quiet_run (hc : c.Ok P ρ) (h : DInv P ρ c D q F a w) (hr : Rdy c D i o) (h0 : c.clo P i = 0) (hran : (c.tI i).ran = true) :
    ∃ u, (execOp a.eval o).run P w = .ok (.value u) w ∧ cv ρ (F.sub (c.X P q i)) (c.tI i).v = some u := by
  have hqs := quiet_state hc h hr
  have hchk := hc.chk i o q hr.op h0 hran h.qle (h.qch.imp (fun e => e) And.left)
    (fun j hj hb => by
      rcases Nat.lt_or_ge j q with hlt | hge
      · exact hlt
      · have := h.above j hj hge
        rw [hr.all j hb] at this; cases this)
    (fun j hj hcj => by
      cases hb : (c.bm j).testBit i with
      | false => rfl
      | true =>
        have := h.cl j (chain_done hc h hcj hj) i hb
        rw [hr.new] at this; cases this)
  have hres := res_at hc h hr (Em := F.sub (c.Y P q i)) (.refl _)
  have hT : ∃ v, evOp P (c.op P o i) callNo (lsAt [] c.ts i) c.fr ⟨addNews (c.bm i) (c.sg q).next.nat c.ns (c.sg q).heap, c.nx, c.asm⟩ okU = .ok v ∧ v = (c.tI i).v := by
    unfold isOkSame at hchk
    split at hchk
    · rename_i v hv; exact ⟨v, hv, same_eq _ _ hchk⟩
    · cases hchk
  obtain ⟨v, hT, rfl⟩ := hT
  have hrun : (evOp P (c.op P o i) callNo (lsAt [] c.ts i) c.fr ⟨addNews (c.bm i) (c.sg q).next.nat c.ns (c.sg q).heap, c.nx, c.asm⟩ okU).run ρ = some (c.tI i).v := by rw [hT]; rfl
  rw [← op_mask (P := P) hr] at hrun
  obtain ⟨v', u, s', hm, hv, hex, hk⟩ := quiet_ok hres hqs (by rw [op_mask hr, ← clo_eq hc hr.op]; exact h0) hrun
  have hv' : v' = (c.tI i).v := by
    have : some v' = some (c.tI i).v := hk
    exact Option.some.inj this
  refine ⟨u, ?_, ?_⟩
  · rw [exec_mask hc h hr]; exact hex
  · rw [← hv']
    exact cv_mono (Mem.sub_le fun p x _ hp => by
      rcases hp with hp | ⟨j, hj, hn, rfl⟩
      · exact .inl hp
      · exact .inr ⟨j, .inr hj, hn, rfl⟩) hv
end DC
end Go.Ab
end

section
namespace Go.Ab
variable {P : Program} {ρ : Val}
namespace DC
variable {c : DC} {D : Nat → Bool} {q : Nat} {F : Mem} {a : Act} {w : World} {i : Nat} {o : Oper}
/-- new memory -/
theorem new_run (hc : c.Ok P ρ) (h : DInv P ρ c D q F a w) (hr : Rdy c D i o) (hn : c.newRan P i) :
    ∃ u obj F', (execOp a.eval o).run P w = .ok (.value u) (w.alloc obj) ∧ DInv P ρ c (add D i) q F' (a.put o.dst u) (w.alloc obj) := by
  obtain ⟨as, hst, _⟩ := hc.as
  obtain ⟨hcl1, hran, hin⟩ := hn
  have hn : c.newRan P i := ⟨hcl1, hran, hin⟩
  obtain ⟨_, g, _, hit⟩ := hc.it i o hr.op
  obtain ⟨sr, hT, _, hnw, _⟩ := hit.ran hran
  have hcls : (c.op P o i).cls = 1 := by rw [← clo_eq hc hr.op]; exact hcl1
  obtain ⟨hb1, _, _⟩ := hnw hcls
  have hqi := q_le hc h hr (by omega)
  have hid : (c.tI i).s1.next = c.id i := hit.more.next
  -- the outcome
  have hres := res_at hc h hr (Em := F.sub (c.Y P q i)) (.refl _)
  rw [← op_mask (P := P) hr] at hT
  obtain ⟨v, b, s1', hm, hlive, hk, hw⟩ := alloc_ok hres hit.more.asm (by rw [op_mask hr]; exact hcls) hT
  have hk : some (v, s1'.new b) = some ((c.tI i).v, sr) := hk
  simp only [Option.some.injEq, Prod.mk.injEq] at hk
  obtain ⟨rfl, rfl⟩ := hk
  have hbb : b = (c.tI i).b := by
    have : (s1'.new b).heap.get (c.tI i).s1.next = some b := by
      show (s1'.heap.put s1'.next (some b)).get _ = _
      rw [hm.next, Trie.get_put, if_pos rfl]
    rw [hb1] at this
    exact (Option.some.inj this).symm
  subst hbb
  obtain ⟨obj, u, hrun, hE⟩ := hw w
  rw [hid] at hE
  -- its place
  have hnone : F.blk (c.id i) = none := by
    cases hF : F.blk (c.id i) with
    | none => rfl
    | some x =>
      rcases h.dom _ x hF with h1 | ⟨j, h1, h2, _, h3⟩
      · have := mono hc hqi (Nat.le_of_lt hin)
        unfold DC.bel DC.id at h1
        omega
      · have := id_inj hc hn h2 h3
        subst this
        rw [hr.new] at h1; cases h1
  have hFF : Mem.Le F (F.addAt (c.id i) w.heap.size 0 0) := Mem.le_addAt hnone
  have hnb : ¬ c.bel q (c.id i) := fun h1 => by
    have := mono hc hqi (Nat.le_of_lt hin)
    unfold DC.bel DC.id at h1
    omega
  have hsame : ∀ p, p ≠ c.id i → (F.addAt (c.id i) w.heap.size 0 0).blk p = F.blk p := fun p hp => by simp [Mem.addAt, hp]
  have hself : (F.addAt (c.id i) w.heap.size 0 0).blk (c.id i) = some (w.heap.size, 0) := by simp [Mem.addAt]
  have hq1 : Mem.Le (F.sub (c.bel q)) ((F.addAt (c.id i) w.heap.size 0 0).sub (c.bel q)) := Mem.sub_mono hFF fun _ _ _ hp => hp
  have hq2 : Mem.Le ((F.addAt (c.id i) w.heap.size 0 0).sub (c.bel q)) (F.sub (c.bel q)) := by
    refine ⟨fun p x hx => ?_, fun p x hx => ?_⟩
    · rw [Mem.sub_blk] at hx ⊢
      have hne : p ≠ c.id i := fun e => hnb (by rw [← e]; exact hx.1)
      rw [hsame p hne] at hx
      exact hx
    · rw [Mem.sub_blk] at hx
      have hne : p ≠ c.id i := fun e => hnb (by rw [← e]; exact hx.1)
      simp [Mem.sub, Mem.addAt, hne]
  have hXle : ∀ j, Mem.Le (F.sub (c.X P q j)) ((F.addAt (c.id i) w.heap.size 0 0).sub (c.X P q j)) := fun j => Mem.sub_mono hFF fun _ _ _ hp => hp
  have hEle : Mem.Le (F.sub (c.Y P q i)) ((F.addAt (c.id i) w.heap.size 0 0).sub (c.X P q i)) := Mem.sub_mono hFF fun p x _ hp => by
    rcases hp with hp | ⟨j, hj, hnj, rfl⟩
    · exact .inl hp
    · exact .inr ⟨j, .inr hj, hnj, rfl⟩
  obtain ⟨hcv, hBR⟩ := hE ((F.addAt (c.id i) w.heap.size 0 0).sub (c.X P q i)) hEle (Mem.sub_blk.2 ⟨.inr ⟨i, .inl rfl, hn, rfl⟩, hself⟩)
  obtain ⟨v1, v2⟩ := after_vals hc h hr (F' := F.addAt (c.id i) w.heap.size 0 0) (q' := q) hcv (fun j _ => hXle j)
  have idne : ∀ j, c.newRan P j → j ≠ i → c.id j ≠ c.id i := fun j hj hne e => hne (id_inj hc hj hn e)
  have old : ∀ j, add D i j = true → j ≠ i → D j = true := fun j hj hne => (add_iff.1 hj).resolve_left hne
  refine ⟨u, obj, F.addAt (c.id i) w.heap.size 0 0, by rw [exec_mask hc h hr]; exact hrun, add_cl h hr, add_lt h hr, h.qle, ?_, ?_, ((h.hr.congr2 hq1 hq2).grow obj), ((h.st.congr2 hq1 hq2).grow obj), ?_, ?_, ?_, v1, v2, by rw [Act.put_size]; exact h.size, by rw [Act.put_defers]; exact h.defs⟩
  · rcases h.qch with e | ⟨e1, e2⟩
    · exact .inl e
    · exact .inr ⟨e1, add_iff.2 (.inr e2)⟩
  · intro j hj hq
    have := h.above j hj hq
    have hne : j ≠ i := fun e => by subst e; omega
    simp [add, hne, this]
  · intro p x hx
    by_cases e : p = c.id i
    · exact .inr ⟨i, add_same, hn, hqi, e⟩
    · rw [hsame p e] at hx
      rcases h.dom p x hx with h' | ⟨j, e1, e2⟩
      · exact .inl h'
      · exact .inr ⟨j, add_iff.2 (.inr e1), e2⟩
  · intro j hj hnj hq
    by_cases e : j = i
    · subst e
      refine ⟨w.heap.size, hself, hBR (w.alloc obj) (heap_alloc_new w obj), hlive, by show _ < (w.heap.push obj).size; simp, h.st.size, ?_⟩
      intro p b o' hp hl hb he
      have hne : p ≠ c.id j := fun e => hnb (by rw [← e]; exact hb)
      rw [hsame p hne] at he
      obtain ⟨k', o2, e1, e2⟩ := (h.hr.blks p b hp).lt hl
      rw [Mem.sub_blk, he] at e1
      have := e1.2
      cases this
      exact Nat.lt_irrefl _ e2
    · obtain ⟨k, p1, p2, p3, p4, p5, p6⟩ := h.pend j (old j hj e) hnj hq
      refine ⟨k, by rw [hsame _ (idne j hnj e)]; exact p1, p2.congr (hXle j) fun k' o' _ he => ?_, p3, by show _ < (w.heap.push obj).size; simp; omega, p5, fun p b o' hp hl hb he => ?_⟩
      · rw [Mem.sub_blk, p1] at he
        cases he.2
        exact heap_alloc_lt _ _ _ p4
      · have hne : p ≠ c.id i := fun e => hnb (by rw [← e]; exact hb)
        rw [hsame p hne] at he
        exact p6 p b o' hp hl hb he
  · intro j j' k hj hj' hnj hnj' hq hq' e e'
    by_cases ej : j = i
    · by_cases ej' : j' = i
      · rw [ej, ej']
      · rw [ej, hself] at e
        cases e
        rw [hsame _ (idne j' hnj' ej')] at e'
        obtain ⟨k', p1, _, _, p4, _⟩ := h.pend j' (old j' hj' ej') hnj' hq'
        rw [e'] at p1; cases p1
        exact absurd p4 (Nat.lt_irrefl _)
    · rw [hsame _ (idne j hnj ej)] at e
      by_cases ej' : j' = i
      · rw [ej', hself] at e'
        cases e'
        obtain ⟨k', p1, _, _, p4, _⟩ := h.pend j (old j hj ej) hnj hq
        rw [e] at p1; cases p1
        exact absurd p4 (Nat.lt_irrefl _)
      · rw [hsame _ (idne j' hnj' ej')] at e'
        exact h.pinj j j' k (old j hj ej) (old j' hj' ej') hnj hnj' hq hq' e e'
end DC
end Go.Ab
end

section
namespace Go.Ab
variable {P : Program} {ρ : Val}
namespace DC
variable {c : DC} {D : Nat → Bool} {q : Nat} {F : Mem} {a : Act} {w : World} {i : Nat} {o : Oper}
theorem no_chain (hc : c.Ok P ρ) (h : DInv P ρ c D q F a w) (hr : Rdy c D i o) (h2 : c.clo P i = 2) : ∀ j, q ≤ j → j < i → c.clo P j ≠ 2 := by
  intro j hq hj hcj
  have := h.above j hcj hq
  rw [hr.all j (isChain hc h2 hj (by omega))] at this; cases this
theorem news_done (hc : c.Ok P ρ) (hr : Rdy c D i o) (h2 : c.clo P i = 2) : ∀ j, j < i → c.newRan P j → D j = true := fun j hj hn =>
  hr.all j (isChain hc h2 hj (by have := hn.1; omega))
open Classical in
/-- where all lies behind an effect -/
noncomputable def over (c : DC) (i : Nat) (E F : Mem) : Mem := ⟨fun p => if c.bel (i + 1) p then E.blk p else F.blk p, fun p => if c.bel (i + 1) p then E.cap p else F.cap p⟩
theorem over_in {E F : Mem} {p : Pos} (h : c.bel (i + 1) p) : (over c i E F).blk p = E.blk p ∧ (over c i E F).cap p = E.cap p := by simp [over, h]
theorem over_out {E F : Mem} {p : Pos} (h : ¬ c.bel (i + 1) p) : (over c i E F).blk p = F.blk p ∧ (over c i E F).cap p = F.cap p := by simp [over, h]
/-- an effect, once it is known what the memory is behind it -/
theorem chain_go (hc : c.Ok P ρ) (h : DInv P ρ c D q F a w) (hr : Rdy c D i o) (h2 : c.clo P i = 2) {u : Value} {w' : World} {E' : Mem}
    (hst : Step (F.sub (c.bel i)) ⟨(c.sg i).heap, (c.sg i).next, c.asm⟩ w E' ⟨(c.sg (i + 1)).heap, (c.sg (i + 1)).next, c.asm⟩ w')
    (hrel : HRel ρ E' ⟨(c.sg (i + 1)).heap, (c.sg (i + 1)).next, c.asm⟩ w') (hv : cv ρ E' (c.tI i).v = some u) :
    DInv P ρ c (add D i) (i + 1) (over c i E' F) (a.put o.dst u) w' := by
  have hin := rdy_lt hr
  have hqi := q_le hc h hr (by omega)
  have hno := no_chain hc h hr h2
  have hnews := news_done hc hr h2
  obtain ⟨hr0, hs0⟩ := absorb hc h hqi (Nat.le_of_lt hin) hno (fun j _ hj hn => hnews j hj hn)
  have hle1 : ∀ p, c.bel q p → c.bel i p := fun p hp => by have := mono hc hqi (Nat.le_of_lt hin); unfold DC.bel at *; omega
  have hle2 : ∀ p, c.bel i p → c.bel (i + 1) p := fun p hp => by have := step_mono hc hin; unfold DC.bel at *; omega
  have hni : ¬ c.newRan P i := fun hn => by have := hn.1; omega
  -- the blocks that wait behind
  have hout : ∀ j, c.newRan P j → i + 1 ≤ j → ¬ c.bel (i + 1) (c.id j) := fun j hn hj hb => by
    have := mono hc hj (Nat.le_of_lt hn.2.2)
    unfold DC.bel DC.id at hb
    omega
  have hbel : ∀ p x, F.blk p = some x → c.bel (i + 1) p → c.bel i p := by
    intro p x hx hb
    rcases h.dom p x hx with h1 | ⟨j, h1, h2', h3, rfl⟩
    · exact hle1 p h1
    · rcases Nat.lt_trichotomy j i with h4 | h4 | h4
      · exact id_lt hc h2' h4 (Nat.le_of_lt hin)
      · subst h4; exact absurd h2' hni
      · exact absurd hb (hout j h2' h4)
  have hFF : Mem.Le F (over c i E' F) := by
    refine ⟨fun p x hx => ?_, fun p x hx => ?_⟩
    · by_cases hb : c.bel (i + 1) p
      · rw [(over_in hb).1]
        exact hst.le.blk p x (Mem.sub_blk.2 ⟨hbel p x hx hb, hx⟩)
      · rw [(over_out hb).1]; exact hx
    · by_cases hb : c.bel (i + 1) p
      · rw [(over_in hb).2]
        exact hst.le.cap p x (Mem.sub_blk.2 ⟨hbel p x hx hb, hx⟩)
      · rw [(over_out hb).2]
  have hE1 : Mem.Le E' ((over c i E' F).sub (c.bel (i + 1))) := by
    have hb : ∀ p x, E'.blk p = some x → c.bel (i + 1) p := fun p x hx => hrel.free p x hx
    refine ⟨fun p x hx => Mem.sub_blk.2 ⟨hb p x hx, by rw [(over_in (hb p x hx)).1]; exact hx⟩, fun p x hx => (over_in (hb p x hx)).2⟩
  have hE2 : Mem.Le ((over c i E' F).sub (c.bel (i + 1))) E' := by
    refine ⟨fun p x hx => ?_, fun p x hx => ?_⟩
    · rw [Mem.sub_blk] at hx
      rw [(over_in hx.1).1] at hx
      exact hx.2
    · rw [Mem.sub_blk] at hx
      exact (over_in hx.1).2.symm
  have hqn : i + 1 ≤ c.ops.size := hin
  have hXle : ∀ j, Mem.Le (F.sub (c.X P q j)) ((over c i E' F).sub (c.X P (i + 1) j)) := fun j => Mem.sub_mono hFF fun p _ _ hp => X_mono hc (by omega) hqn hp
  obtain ⟨v1, v2⟩ := after_vals hc h hr (F' := over c i E' F) (q' := i + 1) (cv_mono (hE1.trans (Mem.sub_le fun p _ _ hp => .inl hp)) hv) (fun j _ => hXle j)
  have old : ∀ j, add D i j = true → i + 1 ≤ j → D j = true := fun j hj hij => (add_iff.1 hj).resolve_left (by omega)
  -- a live block of the state ahead is no waiting block
  have apart : ∀ j k, D j = true → c.newRan P j → i + 1 ≤ j → F.blk (c.id j) = some (k, 0) → ∀ p b o', (c.sg i).heap.get p = some b → Live b → (F.sub (c.bel i)).blk p ≠ some (k, o') := by
    intro j k hD hn hij hk p b o' hp hl he
    rw [Mem.sub_blk] at he
    obtain ⟨k', p1, _, _, _, _, p6⟩ := h.pend j hD hn (by omega)
    rw [hk] at p1; cases p1
    rcases heap_between hc hqi (Nat.le_of_lt hin) (fun j h1 h2 h3 => absurd h3 (hno j h1 h2)) hp with h3 | ⟨j', h3, h4, h5, rfl, rfl⟩
    · exact p6 p b o' h3 hl (h.hr.dom p b h3) he.2
    · have hD' := hnews j' h4 h5
      obtain ⟨k2, e1, _⟩ := h.pend j' hD' h5 h3
      rw [he.2] at e1
      cases e1
      have := h.pinj j' j k hD' hD h5 hn h3 (by omega) he.2 hk
      omega
  refine ⟨add_cl h hr, add_lt h hr, hqn, .inr ⟨by simpa using h2, by simp [add]⟩, ?_, hrel.congr2 hE1 hE2, (hs0.trans hst).congr2 hE1 hE2, ?_, ?_, ?_, v1, v2, by rw [Act.put_size]; exact h.size, by rw [Act.put_defers]; exact h.defs⟩
  · intro j hj hij
    have := h.above j hj (by omega)
    have hne : j ≠ i := by omega
    simp [add, hne, this]
  · intro p x hx
    by_cases hb : c.bel (i + 1) p
    · exact .inl hb
    · rw [(over_out hb).1] at hx
      rcases h.dom p x hx with h1 | ⟨j, h1, h3, h4, rfl⟩
      · exact absurd (hle2 p (hle1 p h1)) hb
      · refine .inr ⟨j, add_iff.2 (.inr h1), h3, ?_, rfl⟩
        rcases Nat.lt_trichotomy j i with h5 | h5 | h5
        · exact absurd (hle2 _ (id_lt hc h3 h5 (Nat.le_of_lt hin))) hb
        · subst h5; exact absurd h3 hni
        · exact h5
  · intro j hj hn hij
    have hD := old j hj hij
    obtain ⟨k, p1, p2, p3, p4, p5, p6⟩ := h.pend j hD hn (by omega)
    have hap := apart j k hD hn hij p1
    refine ⟨k, by rw [(over_out (hout j hn hij)).1]; exact p1, p2.congr (hXle j) fun k' o' _ he => ?_, p3, Nat.lt_of_lt_of_le p4 hst.size, p5, fun p b o' hp hl hb he => ?_⟩
    · rw [Mem.sub_blk, p1] at he
      cases he.2
      exact hst.frame _ p4 fun p b o' hp hl he' => hap p b o' hp hl he'
    · rw [(over_in hb).1] at he
      rcases hst.img p b k o' hp hl he with h5 | ⟨p', b', o2, h5, h6, h7⟩
      · omega
      · exact hap p' b' o2 h5 h6 h7
  · intro j j' k hj hj' hn hn' hij hij' e e'
    rw [(over_out (hout j hn hij)).1] at e
    rw [(over_out (hout j' hn' hij')).1] at e'
    exact h.pinj j j' k (old j hj hij) (old j' hj' hij') hn hn' (by omega) (by omega) e e'
/-- an effect that is left out -/
theorem chain_skip (hc : c.Ok P ρ) (h : DInv P ρ c D q F a w) (hr : Rdy c D i o) (h2 : c.clo P i = 2) (hran : (c.tI i).ran = false) : ∃ F', DInv P ρ c (add D i) (i + 1) F' (a.put o.dst undef) w := by
  have hin := rdy_lt hr
  have hqi := q_le hc h hr (by omega)
  obtain ⟨hr0, hs0⟩ := absorb hc h hqi (Nat.le_of_lt hin) (no_chain hc h hr h2) (fun j _ hj hn => news_done hc hr h2 j hj hn)
  obtain ⟨e1, e2⟩ := step_plain hc hin (fun _ => hran) (fun hn => by have := hn.1; omega)
  obtain ⟨_, g, _, hit⟩ := hc.it i o hr.op
  refine ⟨_, chain_go hc h hr h2 (E' := F.sub (c.bel i)) ?_ ?_ ?_⟩
  · rw [e1, e2]; exact .refl ..
  · rw [e1, e2]; exact hr0
  · rw [(hit.skip hran).1]; exact undefA_cv
/-- an effect that is carried out -/
theorem chain_run (hc : c.Ok P ρ) (h : DInv P ρ c D q F a w) (hr : Rdy c D i o) (h2 : c.clo P i = 2) (hran : (c.tI i).ran = true) :
    Yields P o a w fun u w' => ∃ F', DInv P ρ c (add D i) (i + 1) F' (a.put o.dst u) w' := by
  obtain ⟨as, hst, _⟩ := hc.as
  have hin := rdy_lt hr
  have hqi := q_le hc h hr (by omega)
  obtain ⟨hr0, hs0⟩ := absorb hc h hqi (Nat.le_of_lt hin) (no_chain hc h hr h2) (fun j _ hj hn => news_done hc hr h2 j hj hn)
  obtain ⟨_, g, _, hit⟩ := hc.it i o hr.op
  obtain ⟨sr, hT, _, _, hef⟩ := hit.ran hran
  have hcls : (c.op P o i).cls = 2 := by rw [← clo_eq hc hr.op]; exact h2
  obtain ⟨e1, e2, _⟩ := hef hcls
  rw [← sg_succ hc.len hin] at e1 e2
  have hYb : Mem.Le (F.sub (c.Y P q i)) (F.sub (c.bel i)) := Mem.sub_le fun p x _ hp => by
    rcases hp with hp | ⟨j, hj, hn, rfl⟩
    · have := mono hc hqi (Nat.le_of_lt hin)
      unfold DC.bel at *
      omega
    · exact id_lt hc hn (hst.lt hr.op hj) (Nat.le_of_lt hin)
  have hres := res_at hc h hr hYb
  have hm1 : More ρ ⟨(c.sg i).heap, (c.sg i).next, c.asm⟩ (c.tI i).s1 := ⟨hit.more.heap, hit.more.next, hit.more.asm⟩
  have hrs := hr0.more hm1
  rw [← op_mask (P := P) hr] at hT
  have hnd : isDefer o.op = false := hst.nodef o (by
    obtain ⟨h1, h2⟩ := Array.getElem?_eq_some_iff.1 hr.op
    rw [← h2]; exact Array.getElem_mem_toList _)
  have her := (op_ok hres hc.cdok hrs hnd hT).congr (exec_mask hc h hr)
  unfold ER at her
  unfold Yields YieldsR at her ⊢
  have key : ∀ u w', (∃ v s' E', cv ρ E' v = some u ∧ Step (F.sub (c.bel i)) (c.tI i).s1 w E' s' w' ∧ HRel ρ E' s' w' ∧ (okP v s').run ρ = some ((c.tI i).v, sr)) → ∃ F', DInv P ρ c (add D i) (i + 1) F' (a.put o.dst u) w' := by
    rintro u w' ⟨v, s', E', hv, hs, hr', hk⟩
    have hk : some (v, s') = some ((c.tI i).v, sr) := hk
    simp only [Option.some.injEq, Prod.mk.injEq] at hk
    obtain ⟨rfl, rfl⟩ := hk
    have hm2 : More ρ s' ⟨(c.sg (i + 1)).heap, (c.sg (i + 1)).next, c.asm⟩ := ⟨e1, e2, hc.asmok⟩
    exact ⟨_, chain_go hc h hr h2 (((Step.more hm1).trans hs).trans (.more hm2)) (hr'.more hm2) hv⟩
  generalize (execOp a.eval o).run P w = x at her
  cases x with
  | halt _ _ => exact her.elim
  | ok n w1 =>
    cases n <;> try (exact (her : False).elim)
    case value u => exact key _ _ her
    case skip => exact key _ _ her
    case enter f args =>
      refine Calls.mono (her : Calls P f args w1 _) ?_
      rintro e w'' ⟨u, rfl, hu⟩
      exact ⟨u, rfl, key _ _ hu⟩
    case round l f tmps assign body =>
      refine RoundIn.mono (her : RoundIn Fence.wide 0 P l f tmps assign body w1 _) ?_
      rintro e w'' ⟨u, rfl, hu⟩
      exact ⟨u, rfl, key _ _ hu⟩
end DC
end Go.Ab
end

section
namespace Go.Ab
variable {P : Program} {ρ : Val}
/-- how many operations are left -/
def cntF (D : Nat → Bool) : Nat → Nat
  | 0 => 0
  | n + 1 => cntF D n + (if D n = true then 0 else 1)
theorem cntF_congr {D D' : Nat → Bool} : ∀ n, (∀ j, j < n → D j = D' j) → cntF D n = cntF D' n
  | 0, _ => rfl
  | n + 1, h => by unfold cntF; rw [cntF_congr n fun j hj => h j (by omega), h n (by omega)]
theorem cntF_add {D : Nat → Bool} {i : Nat} (hD : D i = false) : ∀ n, i < n → cntF (DC.add D i) n + 1 = cntF D n
  | 0, h => by omega
  | n + 1, h => by
    unfold cntF
    by_cases e : i = n
    · subst e
      rw [cntF_congr i (D := DC.add D i) (D' := D) fun j hj => by simp [DC.add]; omega]
      simp [DC.add, hD]
    · have := cntF_add hD n (by omega)
      have h2 : DC.add D i n = D n := by simp [DC.add]; omega
      rw [h2]; omega
theorem cntF_zero {D : Nat → Bool} : ∀ n, cntF D n = 0 → ∀ j, j < n → D j = true
  | 0, _, j, hj => by omega
  | n + 1, h, j, hj => by
    unfold cntF at h
    have h1 : D n = true := Classical.byContradiction fun h' => by rw [if_neg h'] at h; omega
    by_cases e : j = n
    · subst e; exact h1
    · exact cntF_zero n (by omega) j (by omega)
theorem cntF_all {D : Nat → Bool} : ∀ n, (∀ j, j < n → D j = false) → cntF D n = n
  | 0, _ => rfl
  | n + 1, h => by unfold cntF; rw [cntF_all n fun j hj => h j (by omega), h n (by omega)]; simp
namespace DC
variable {c : DC} {D : Nat → Bool} {q : Nat} {F : Mem} {a : Act} {w : World} {i : Nat} {o : Oper}
theorem ready_rdy (hc : c.Ok P ρ) {listed : Array Bool} (hs : listed.size = c.ops.size) (h : DInv P ρ c (fun j => listed.getD j false) q F a w) (hi : i ∈ Region.ready .any c.ops listed) : ∃ o, Rdy c (fun j => listed.getD j false) i o := by
  obtain ⟨as, hst, _⟩ := hc.as
  unfold Region.ready at hi
  rw [List.mem_filter] at hi
  obtain ⟨hin, hi⟩ := hi
  have hin : i < c.ops.size := by simpa using hin
  simp only [Bool.and_eq_true] at hi
  obtain ⟨h1, h2⟩ := hi
  have ho : c.ops[i]? = some c.ops[i] := Array.getElem?_eq_getElem hin
  rw [ho] at h2
  simp only [Option.map_some, Option.getD_some] at h2
  have hall : ∀ e ∈ c.ops[i].after, Region.binds .any e = true → listed.getD e.on false = true := by
    intro e he hb
    have := (Array.all_eq_true'.1 h2) e he
    rw [hb] at this
    simpa using this
  refine ⟨c.ops[i], ho, ?_, fun j hj => ?_⟩
  · have hlt : i < listed.size := by omega
    simp [Array.getD_eq_getD_getElem?, hlt] at h1 ⊢
    exact h1
  · obtain ⟨e, he, hb, _, hor⟩ := hst.inv i _ j ho hj
    rcases hor with rfl | hbit
    · exact hall e he hb
    · exact h.cl _ (hall e he hb) j hbit
theorem ready_nil (hc : c.Ok P ρ) {listed : Array Bool} (hs : listed.size = c.ops.size) (h : Region.ready .any c.ops listed = []) : ∀ j, j < c.ops.size → listed.getD j false = true := by
  obtain ⟨as, hst, _⟩ := hc.as
  intro j
  induction j using Nat.strongRecOn with
  | _ j ih =>
    intro hj
    refine Classical.byContradiction fun hn => ?_
    have hmem : j ∈ Region.ready .any c.ops listed := by
      unfold Region.ready
      rw [List.mem_filter]
      refine ⟨by simpa using hj, ?_⟩
      have hlt : j < listed.size := by omega
      have ho : c.ops[j]? = some c.ops[j] := Array.getElem?_eq_getElem hj
      rw [ho]
      simp only [Option.map_some, Option.getD_some, Bool.and_eq_true]
      refine ⟨?_, ?_⟩
      · simp [Array.getD_eq_getD_getElem?, hlt] at hn ⊢
        exact hn
      · rw [Array.all_eq_true']
        intro e he
        cases hb : Region.binds .any e with
        | false => rfl
        | true =>
          obtain ⟨h1, _⟩ := hst.on j _ e ho he hb
          simpa using ih e.on h1 (by omega)
    rw [h] at hmem; cases hmem
/-- any order -/
theorem any_ok {rd : Option Nat} (hc : c.Ok P ρ) {Q : Exit → Act → World → Prop} (hQ : ∀ D q F a w, DInv P ρ c D q F a w → (∀ j, j < c.ops.size → D j = true) → Q .normal a w) : ∀ (fuel : Nat) (listed : Array Bool) (q : Nat) (F : Mem) (a : Act) (w : World),
    listed.size = c.ops.size → cntF (fun j => listed.getD j false) c.ops.size = fuel → DInv P ρ c (fun j => listed.getD j false) q F a w → wpAnyIn (Fw rd) 0 P .any c.ops Q fuel listed a w
  | 0, listed, q, F, a, w, hs, hf, h => by
    have hall := cntF_zero _ hf
    refine ⟨?_, hQ _ q F a w h hall⟩
    unfold Region.ready
    rw [List.filter_eq_nil_iff]
    intro j hj
    have hj : j < c.ops.size := by simpa using hj
    have := hall j hj
    have hlt : j < listed.size := by omega
    simp [Array.getD_eq_getD_getElem?, hlt] at this ⊢
    simp [this]
  | fuel + 1, listed, q, F, a, w, hs, hf, h => by
    refine ⟨fun hr => hQ _ q F a w h (ready_nil hc hs hr), fun i hi => ?_⟩
    obtain ⟨o, hr⟩ := ready_rdy hc hs h hi
    have hin := rdy_lt hr
    have hset : (fun j => (listed.setIfInBounds i true).getD j false) = add (fun j => listed.getD j false) i := by
      funext j
      have hlt : i < listed.size := by omega
      by_cases e : j = i
      · subst e; simp [add, Array.getD_eq_getD_getElem?, hlt]
      · simp [add, e, Array.getD_eq_getD_getElem?, Array.getElem?_setIfInBounds, Ne.symm e]
    have next : ∀ q' F' a' w', DInv P ρ c (add (fun j => listed.getD j false) i) q' F' a' w' → wpAnyIn (Fw rd) 0 P .any c.ops Q fuel (listed.setIfInBounds i true) a' w' := by
      intro q' F' a' w' h'
      refine any_ok hc hQ fuel _ q' F' a' w' (by simpa using hs) ?_ (by rw [hset]; exact h')
      rw [hset]
      have := cntF_add (D := fun j => listed.getD j false) hr.new c.ops.size hin
      omega
    unfold wpOpIn
    rw [hr.op]
    simp only
    rw [wanted_at hc h hr]
    obtain ⟨_, g, _, hit⟩ := hc.it i o hr.op
    have hnd : ∀ x, o.op ≠ .defer x := fun x hx => by
      obtain ⟨as, hst, _⟩ := hc.as
      have h3 := hst.nodef o (by
        obtain ⟨h1, h2⟩ := Array.getElem?_eq_some_iff.1 hr.op
        rw [← h2]; exact Array.getElem_mem_toList _)
      rw [hx] at h3; cases h3
    cases hran : (c.tI i).ran with
    | true =>
      rw [if_pos rfl]
      rcases cls_le (c.op P o i) with h0 | h1 | h2
      · have h0' : c.clo P i = 0 := by rw [clo_eq hc hr.op]; exact h0
        obtain ⟨u, hrun, hv⟩ := quiet_run hc h hr h0' hran
        refine (Yields.value hrun (R := fun u' w' => u' = u ∧ w' = w) ⟨rfl, rfl⟩).wpIn (rd := rd) (.inr hnd) ?_
        rintro _ _ ⟨rfl, rfl⟩
        exact next _ _ _ _ (tr_value hc h hr (by omega) (fun hn => by have := hn.1; omega) hv)
      · have h1' : c.clo P i = 1 := by rw [clo_eq hc hr.op]; exact h1
        obtain ⟨u, obj, F', hrun, hinv⟩ := new_run hc h hr ⟨h1', hran, hin⟩
        refine (Yields.value hrun (R := fun u' w' => u' = u ∧ DInv P ρ c (add (fun j => listed.getD j false) i) q F' (a.put o.dst u') w') ⟨rfl, hinv⟩).wpIn (rd := rd) (.inr hnd) ?_
        rintro u2 w2 ⟨_, hinv2⟩
        exact next _ _ _ _ hinv2
      · have h2' : c.clo P i = 2 := by rw [clo_eq hc hr.op]; exact h2
        refine (chain_run hc h hr h2' hran).wpIn (rd := rd) (.inr hnd) fun u w' ⟨F', hinv⟩ => ?_
        exact next _ _ _ _ hinv
    | false =>
      rw [if_neg (by simp)]
      by_cases h2 : c.clo P i = 2
      · obtain ⟨F', hinv⟩ := chain_skip hc h hr h2 hran
        exact ⟨fun f _ => fw_fn rd f, next _ _ _ _ hinv⟩
      · refine ⟨fun f _ => fw_fn rd f, next _ _ _ _ (tr_value hc h hr h2 (fun hn => by have := hn.2.1; rw [hran] at this; cases this) ?_)⟩
        rw [(hit.skip hran).1]; exact undefA_cv
theorem init_inv {hc : c.Ok P ρ} (hr : HRel ρ c.Ei c.s0 c.w0) : DInv P ρ c (fun _ => false) 0 c.Ei c.a0 c.w0 := by
  have e0 : c.sg 0 = c.s0 := sg_zero
  have hb : ∀ p x, c.Ei.blk p = some x → c.bel 0 p := fun p x hx => by
    unfold DC.bel; rw [e0]; exact hr.free p x hx
  have h1 : Mem.Le c.Ei (c.Ei.sub (c.bel 0)) := ⟨fun p x hx => Mem.sub_blk.2 ⟨hb p x hx, hx⟩, fun _ _ _ => rfl⟩
  have h2 : Mem.Le (c.Ei.sub (c.bel 0)) c.Ei := ⟨fun p x hx => (Mem.sub_blk.1 hx).2, fun _ _ _ => rfl⟩
  have hm : More ρ c.s0 ⟨(c.sg 0).heap, (c.sg 0).next, c.asm⟩ := by rw [e0]; exact ⟨rfl, rfl, hc.asmok⟩
  refine ⟨fun j h => (by cases h), fun j h => (by cases h), Nat.zero_le _, .inl rfl, fun _ _ _ => rfl, (hr.more hm).congr2 h1 h2, (Step.more hm).congr2 h1 h2, fun p x hx => .inl (hb p x hx), fun j h => (by cases h), fun j j' k h => (by cases h), fun i o t h => (by cases h), fun t _ => rfl, hc.frel.size, rfl⟩
end DC
end Go.Ab
end

section
namespace Go.Ab
variable {P : Program} {ρ : Val}

/-! ### the data of the region, from the run -/
theorem trOps_length {nt mask : Nat} {ops : Array Oper} : ∀ (l : List Oper) (ds : List (Option Nat)), (trOps P nt mask ops l ds).length = l.length
  | [], _ => rfl
  | o :: l, ds => by
    have : trOps P nt mask ops (o :: l) ds = trOper P nt mask ops ds o :: trOps P nt mask ops l (o.dst :: ds) := rfl
    rw [this]; simp [trOps_length l]
theorem trOps_at {nt mask : Nat} {ops : Array Oper} : ∀ (l : List Oper) (ds : List (Option Nat)) (i : Nat) (o : Oper), l[i]? = some o → (trOps P nt mask ops l ds)[i]? = some (trOper P nt mask ops (((l.take i).map (·.dst)).reverse ++ ds) o)
  | [], _, i, o, h => by simp at h
  | o' :: l, ds, 0, o, h => by
    simp at h; subst h
    rfl
  | o' :: l, ds, i + 1, o, h => by
    have e : trOps P nt mask ops (o' :: l) ds = trOper P nt mask ops ds o' :: trOps P nt mask ops l (o'.dst :: ds) := rfl
    rw [e]
    simp only [List.getElem?_cons_succ]
    rw [trOps_at l (o'.dst :: ds) i o (by simpa using h)]
    simp
theorem snaps_at : ∀ (ls : List AV) (ts : List TI) (i : Nat) (t : TI), ts[i]? = some t → (snaps ls ts)[i]? = some ⟨t.ran, lsAt ls ts i, t.v⟩
  | ls, [], i, t, h => by simp at h
  | ls, t' :: ts, 0, t, h => by simp at h; subst h; simp [snaps, lsAt]
  | ls, t' :: ts, i + 1, t, h => by
    have := snaps_at (t'.v :: ls) ts i t (by simpa using h)
    have e1 : lsAt ls (t' :: ts) (i + 1) = lsAt (t'.v :: ls) ts i := by simp [lsAt]
    rw [e1]
    simpa [snaps] using this
theorem winsFrom_at {b chain : List Nat} : ∀ (l : List Nat) (n i m : Nat), l[i]? = some m → (winsFrom b chain l n)[i]? = some (winOf b chain (n + i) m)
  | [], n, i, m, h => by simp at h
  | m' :: l, n, 0, m, h => by simp at h; subst h; rfl
  | m' :: l, n, i + 1, m, h => by
    have e : winsFrom b chain (m' :: l) n = winOf b chain n m' :: winsFrom b chain l (n + 1) := rfl
    rw [e]
    simp only [List.getElem?_cons_succ]
    rw [winsFrom_at l (n + 1) i m (by simpa using h)]
    congr 2; omega
theorem checkD_at {fr : Fr} {nx : Pos} {asm : List (BE × Bool)} {sts : List St} {ns : List New} : ∀ {as : List AOper} {xs : List Snap} {ws : List Win}, checkD P fr nx asm sts ns as xs ws = true →
    ∀ (i : Nat) (ao : AOper) (x : Snap) (w : Win), as[i]? = some ao → xs[i]? = some x → ws[i]? = some w → ao.op.cls = 0 → x.ran = true → sameIn P ao.op x.ls fr x.val nx asm w.m ns (window w.lo w.hi sts) = true
  | [], xs, ws, _, i, ao, x, w, h, _, _, _, _ => by simp at h
  | _ :: _, [], ws, _, i, ao, x, w, _, h, _, _, _ => by simp at h
  | _ :: _, _ :: _, [], _, i, ao, x, w, _, _, h, _, _ => by simp at h
  | o :: as, x' :: xs, w' :: ws, h, i, ao, x, w, h1, h2, h3, h4, h5 => by
    unfold checkD at h
    simp only [Bool.and_eq_true] at h
    cases i with
    | zero =>
      simp at h1 h2 h3
      subst h1 h2 h3
      have := h.1
      rw [h4, h5] at this
      exact this
    | succ i => exact checkD_at h.2 i ao x w (by simpa using h1) (by simpa using h2) (by simpa using h3) h4 h5
theorem sameIn_mem {o : AOp} {ls : List AV} {fr : Fr} {v : AV} {nx : Pos} {asm : List (BE × Bool)} {m : Nat} {ns : List New} : ∀ {l : List St}, sameIn P o ls fr v nx asm m ns l = true → ∀ s ∈ l,
    isOkSame v (evOp P o callNo ls fr ⟨addNews m s.next.nat ns s.heap, nx, asm⟩ okU) = true
  | [], _, s, hs => by cases hs
  | s' :: l, h, s, hs => by
    have h : (isOkSame v (evOp P o callNo ls fr ⟨addNews m s'.next.nat ns s'.heap, nx, asm⟩ okU) && sameIn P o ls fr v nx asm m ns l) = true := h
    simp only [Bool.and_eq_true] at h
    rcases List.mem_cons.1 hs with rfl | hs
    · exact h.1
    · exact sameIn_mem h.2 s hs
theorem window_mem {sts : List St} {lo hi k : Nat} {s : St} (hk : sts[k]? = some s) (h1 : lo ≤ k) (h2 : k ≤ hi) : s ∈ window lo hi sts := by
  unfold window
  have : ((sts.drop lo).take (hi + 1 - lo))[k - lo]? = some s := by
    rw [List.getElem?_take, if_pos (by omega), List.getElem?_drop, show lo + (k - lo) = k from by omega]
    exact hk
  exact List.mem_of_getElem? this
theorem filter_le {p q : Nat → Bool} : ∀ (l : List Nat), (∀ x ∈ l, p x = true → q x = true) → (l.filter p).length ≤ (l.filter q).length
  | [], _ => by simp
  | x :: l, h => by
    have ih := filter_le l fun y hy => h y (List.mem_cons_of_mem _ hy)
    cases hp : p x with
    | true =>
      have hq := h x (List.mem_cons_self ..) hp
      simp [hp, hq]; exact ih
    | false =>
      cases hq : q x with
      | true => simp [hp, hq]; omega
      | false => simp [hp, hq]; exact ih
theorem chainOf_mem : ∀ (l : List AOper) (n j : Nat), j ∈ chainOf l n → n ≤ j ∧ ∃ o, l[j - n]? = some o ∧ o.op.cls = 2
  | [], n, j, h => by cases h
  | o :: l, n, j, h => by
    have h : j ∈ (bif Nat.beq o.op.cls 2 then n :: chainOf l (n + 1) else chainOf l (n + 1)) := h
    have lift : j ∈ chainOf l (n + 1) → n ≤ j ∧ ∃ o', (o :: l)[j - n]? = some o' ∧ o'.op.cls = 2 := fun h => by
      obtain ⟨h1, o', h2, h3⟩ := chainOf_mem l (n + 1) j h
      exact ⟨by omega, o', by rw [show j - n = (j - (n + 1)) + 1 from by omega]; simpa using h2, h3⟩
    cases hb : Nat.beq o.op.cls 2 with
    | true =>
      rw [hb] at h
      rcases List.mem_cons.1 h with rfl | h
      · exact ⟨Nat.le_refl _, o, by simp, by simpa using hb⟩
      · exact lift h
    | false => rw [hb] at h; exact lift h
/-- the state behind an effect, among the states -/
theorem chainSts_at : ∀ (as : List AOper) (ts : List TI) (n j : Nat) (t : TI), ts.length = as.length → n ≤ j → (∃ o, as[j - n]? = some o ∧ o.op.cls = 2) → ts[j - n]? = some t →
    ∃ k, ((chainOf as n).filter fun x => decide (x < j + 1)).length = k + 1 ∧ (chainSts as ts)[k]? = some t.s2
  | [], ts, n, j, t, _, _, ⟨o, h, _⟩, _ => by simp at h
  | o :: as, [], n, j, t, h, _, _, _ => by simp at h
  | o :: as, t' :: ts, n, j, t, hl, hnj, ⟨o', h1, h2⟩, h3 => by
    have e1 : chainOf (o :: as) n = (bif Nat.beq o.op.cls 2 then n :: chainOf as (n + 1) else chainOf as (n + 1)) := rfl
    by_cases e : j = n
    · subst e
      simp at h1 h3
      subst h1 h3
      have hnil : (chainOf as (j + 1)).filter (fun x => decide (x < j + 1)) = [] := by
        rw [List.filter_eq_nil_iff]
        intro x hx
        have := (chainOf_mem as (j + 1) x hx).1
        simp; omega
      refine ⟨0, ?_, ?_⟩
      · rw [e1, h2]
        simp [hnil]
      · simp [chainSts, h2]
    · obtain ⟨k, hk1, hk2⟩ := chainSts_at as ts (n + 1) j t (by simpa using hl) (by omega) ⟨o', by rw [show j - n = (j - (n + 1)) + 1 from by omega] at h1; simpa using h1, h2⟩ (by rw [show j - n = (j - (n + 1)) + 1 from by omega] at h3; simpa using h3)
      cases hb : Nat.beq o.op.cls 2 with
      | true =>
        refine ⟨k + 1, ?_, ?_⟩
        · rw [e1, hb]
          simp only [cond_true, List.filter_cons]
          rw [if_pos (by simp; omega)]
          simp [hk1]
        · simp only [chainSts, hb, cond_true, List.singleton_append, List.getElem?_cons_succ]
          exact hk2
      | false =>
        refine ⟨k, ?_, ?_⟩
        · rw [e1, hb]; exact hk1
        · simp only [chainSts, hb, cond_false, List.nil_append]
          exact hk2
theorem trace_asm {cd : CallT (AV × St)} {fr : Fr} : ∀ {as : List AOper} {ls : List AV} {s : St} {ts : List TI}, TraceOk P ρ cd fr as ls s ts → AsmOk ρ s.asm → AsmOk ρ (sFin s ts).asm
  | [], _, s, [], _, ha => ha
  | [], _, _, _ :: _, h, _ => h.elim
  | _ :: _, _, _, [], h, _ => h.elim
  | _ :: _, _, s, t :: ts, h, _ => by
    have := trace_asm h.2 h.1.asm
    exact this
theorem item_next {cd : CallT (AV × St)} {fr : Fr} {o : AOper} {ls : List AV} {s : St} {t : TI} (h : ItemOk P ρ cd fr o ls s t) : s.next.toNat ≤ t.s2.next.toNat := by
  cases hr : t.ran with
  | false => rw [(h.skip hr).2, h.more.next]; exact Nat.le_refl _
  | true =>
    obtain ⟨sr, _, h0, h1, h2⟩ := h.ran hr
    rcases cls_le o.op with hc | hc | hc
    · rw [(h0 hc).2, h.more.next]; exact Nat.le_refl _
    · rw [(h1 hc).2.2, Pos.toNat_succ, h.more.next]; omega
    · rw [(h2 hc).2.1, ← h.more.next]; exact (h2 hc).2.2
theorem trace_next {cd : CallT (AV × St)} {fr : Fr} : ∀ {as : List AOper} {ls : List AV} {s : St} {ts : List TI}, TraceOk P ρ cd fr as ls s ts → ∀ i, (sFin s (ts.take i)).next.toNat ≤ (sFin s ts).next.toNat
  | [], _, s, [], _, i => by simp [sFin]
  | [], _, _, _ :: _, h, _ => h.elim
  | _ :: _, _, _, [], h, _ => h.elim
  | _ :: as, _, s, t :: ts, h, 0 => by
    have h1 := item_next h.1
    have h2 := trace_next h.2 0
    simp [sFin] at h2 ⊢
    omega
  | _ :: _, _, _, t :: ts, h, i + 1 => by
    have := trace_next h.2 i
    simpa [sFin] using this
/-- what the frame holds at the end -/
theorem storeAll_get {p : Pos} {v : AV} : ∀ (as : List AOper) (xs : List Snap) (fr : Fr), (storeAll fr as xs).tmps.get p = some v →
    (∃ (i : Nat) (ao : AOper) (x : Snap), as[i]? = some ao ∧ xs[i]? = some x ∧ ao.dst = some p ∧ x.val = v) ∨ (fr.tmps.get p = some v ∧ ∀ (i : Nat) (ao : AOper) (x : Snap), as[i]? = some ao → xs[i]? = some x → ao.dst ≠ some p)
  | [], _, fr, h => .inr ⟨h, fun i ao x h1 => by simp at h1⟩
  | _ :: _, [], fr, h => .inr ⟨h, fun i ao x _ h2 => by simp at h2⟩
  | o :: as, x :: xs, fr, h => by
    have h : (storeAll (fr.store o.dst x.val) as xs).tmps.get p = some v := h
    rcases storeAll_get as xs _ h with ⟨i, ao, x', h1, h2, h3, h4⟩ | ⟨h1, h2⟩
    · exact .inl ⟨i + 1, ao, x', by simpa using h1, by simpa using h2, h3, h4⟩
    · cases hd : o.dst with
      | none =>
        rw [hd] at h1
        refine .inr ⟨h1, fun i ao x' h3 h4 => ?_⟩
        cases i with
        | zero => simp at h3; subst h3; rw [hd]; simp
        | succ i => exact h2 i ao x' (by simpa using h3) (by simpa using h4)
      | some d =>
        rw [hd] at h1
        have h1 : (fr.tmps.put d (some x.val)).get p = some v := h1
        rw [Trie.get_put] at h1
        by_cases e : p = d
        · rw [if_pos e] at h1
          exact .inl ⟨0, o, x, rfl, rfl, by rw [hd, e], Option.some.inj h1⟩
        · rw [if_neg e] at h1
          refine .inr ⟨h1, fun i ao x' h3 h4 => ?_⟩
          cases i with
          | zero => simp at h3; subst h3; rw [hd]; simpa using fun e' => e e'.symm
          | succ i => exact h2 i ao x' (by simpa using h3) (by simpa using h4)
theorem storeAll_defs : ∀ (as : List AOper) (xs : List Snap) (fr : Fr), (storeAll fr as xs).defs = fr.defs
  | [], _, _ => rfl
  | _ :: _, [], _ => rfl
  | o :: as, x :: xs, fr => by
    have : storeAll fr (o :: as) (x :: xs) = storeAll (fr.store o.dst x.val) as xs := rfl
    rw [this, storeAll_defs as xs]
    cases o.dst <;> rfl
end Go.Ab
end

section
namespace Go.Ab
variable {P : Program} {ρ : Val}

theorem nxt_tI (c : DC) {i : Nat} {t : TI} (h : c.ts[i]? = some t) : c.tI i = t := by unfold DC.tI; rw [h]; rfl
theorem drawSound (hm : P.follows .mixedOrders = true) : DrawSound P := by
  intro β ρ cd nt mask id ops fr s E w a r K Q rd hcd hok h hr hf hQ
  refine wpIn_region_any hm ?_
  obtain ⟨ts, htr, h⟩ := runD_trace (trOps P nt mask ops ops.toList []) ⟨0, [], [], [s], []⟩ s h hr.asm
  obtain ⟨hchk, h⟩ := run_guardB h
  have hal : (trOps P nt mask ops ops.toList []).length = ops.size := by rw [trOps_length]; simp
  have htl : ts.length = (trOps P nt mask ops ops.toList []).length := htr.length
  have htn : ts.length = ops.size := by rw [htl, hal]
  have hasm := trace_asm htr hr.asm
  rw [dFin_sts _ _ _ htl, dFin_xs _ _ _ htl] at hchk
  rw [dFin_xs _ _ _ htl] at h
  simp only [List.reverse_cons, List.reverse_nil, List.nil_append, List.singleton_append] at hchk h
  have hstat := stat_of hal hok
  let c : DC := { nt := nt, mask := mask, ops := ops, bm := fun j => nthM j (masksOf ops.toList [] 0).reverse, fr := fr, Ei := E, s0 := s, w0 := { w with drawn := w.drawn + 1 }, a0 := a, ts := ts, cd := cd,
                  asm := (sFin s ts).asm, nx := (sFin s ts).next, ns := (dFin (trOps P nt mask ops ops.toList []) ⟨0, [], [], [s], []⟩ ts).ns }
  have hat : ∀ (i : Nat) (o : Oper), ops[i]? = some o → (trOps P nt mask ops ops.toList [])[i]? = some (trOper P nt mask ops (dsAt ops i) o) := fun i o ho => by
    have := trOps_at (P := P) (nt := nt) (mask := mask) (ops := ops) ops.toList [] i o (by rw [Array.getElem?_toList]; exact ho)
    rw [this]; simp [dsAt]
  have hget : ∀ (i : Nat), i < ops.size → ∃ t, ts[i]? = some t := fun i hi => ⟨_, List.getElem?_eq_getElem (by omega)⟩
  -- every operation is of its proper form
  have hit : ∀ (i : Nat) (o : Oper) (t : TI), ops[i]? = some o → ts[i]? = some t → dstOk nt o.dst = true ∧ ∃ g, trGuard ops (dsAt ops i) o.guard = some g ∧
      trOper P nt mask ops (dsAt ops i) o = ⟨trDst mask o.dst, g, trOp P (dsAt ops i) o.op, isDefer o.op⟩ ∧ ItemOk P ρ cd fr ⟨trDst mask o.dst, g, trOp P (dsAt ops i) o.op, isDefer o.op⟩ (lsAt [] ts i) (sFin s (ts.take i)) t := by
    intro i o t ho ht
    have hI := htr.at i _ t (hat i o ho) ht
    have bad : ∀ n, ¬ ItemOk P ρ cd fr ⟨none, none, .no n, false⟩ (lsAt [] ts i) (sFin s (ts.take i)) t := fun n hI => by
      have hran : t.ran = true := hI.guard
      obtain ⟨sr, hT, _⟩ := hI.ran hran
      cases hT
    unfold trOper at hI ⊢
    cases hd : dstOk nt o.dst with
    | false => rw [hd] at hI; exact absurd hI (bad 361)
    | true =>
      rw [hd] at hI
      simp only [cond_true] at hI ⊢
      cases hg : trGuard ops (dsAt ops i) o.guard with
      | none => rw [hg] at hI; exact absurd hI (bad 360)
      | some g =>
        rw [hg] at hI
        exact ⟨trivial, g, rfl, rfl, hI⟩
  have hclo : ∀ (i : Nat) (o : Oper), ops[i]? = some o → c.clo P i = (trOp P (dsAt ops i) o.op).cls := fun i o ho => by
    show (match ops[i]? with | some o => (c.op P o i).cls | none => 0) = _
    rw [ho]; rfl
  have hop : ∀ (i : Nat) (o : Oper), ops[i]? = some o → ∃ ao, (trOps P nt mask ops ops.toList [])[i]? = some ao ∧ ao.op = trOp P (dsAt ops i) o.op := fun i o ho => by
    obtain ⟨t, ht⟩ := hget i (Array.getElem?_eq_some_iff.1 ho).1
    obtain ⟨_, g, _, e, _⟩ := hit i o t ho ht
    exact ⟨_, hat i o ho, by rw [e]⟩
  have hchain2 : ∀ (j : Nat), j ∈ chainOf (trOps P nt mask ops ops.toList []) 0 → c.clo P j = 2 := fun j hj => by
    obtain ⟨_, o', h1, h2⟩ := chainOf_mem _ 0 j hj
    simp only [Nat.sub_zero] at h1
    have hjn : j < ops.size := by rw [← hal]; exact (List.getElem?_eq_some_iff.1 h1).1
    have ho : ops[j]? = some ops[j] := Array.getElem?_eq_getElem hjn
    obtain ⟨ao, h3, h4⟩ := hop j _ ho
    rw [h1] at h3; cases h3
    rw [hclo j _ ho, ← h4]; exact h2
  have hc : c.Ok P ρ := by
    refine ⟨hcd, ⟨_, hstat, hop⟩, htn, ?_, hf, hasm, ?_, ?_, ?_⟩
    · intro i o ho
      obtain ⟨t, ht⟩ := hget i (Array.getElem?_eq_some_iff.1 ho).1
      obtain ⟨h1, g, h2, _, h3⟩ := hit i o t ho ht
      refine ⟨h1, g, h2, ?_⟩
      rw [nxt_tI c ht]
      exact h3
    · intro n
      rw [show n ∈ c.ns ↔ _ from dFin_ns _ _ _ htl n]
      constructor
      · rintro (hn | ⟨i, ao, t, h1, h2, h3, h4, h5⟩)
        · cases hn
        · have hin : i < ops.size := by rw [← hal]; exact (List.getElem?_eq_some_iff.1 h1).1
          have ho : ops[i]? = some ops[i] := Array.getElem?_eq_getElem hin
          obtain ⟨_, g, _, e, hI⟩ := hit i _ t ho h2
          obtain ⟨ao', h6, h7⟩ := hop i _ ho
          rw [h1] at h6; cases h6
          refine ⟨i, ⟨by rw [hclo i _ ho, ← h7]; exact h3, by rw [nxt_tI c h2]; exact h4, hin⟩, ?_⟩
          rw [h5, nxt_tI c h2]
          have : c.id i = t.s1.next := hI.more.next.symm
          rw [this]
          simp
      · rintro ⟨j, ⟨h1, h2, h3⟩, h4⟩
        obtain ⟨t, ht⟩ := hget j h3
        have ho : ops[j]? = some ops[j] := Array.getElem?_eq_getElem h3
        obtain ⟨_, g, _, e, hI⟩ := hit j _ t ho ht
        obtain ⟨ao', h6, h7⟩ := hop j _ ho
        rw [nxt_tI c ht] at h2 h4
        refine .inr ⟨j, ao', t, h6, ht, by rw [h7, ← hclo j _ ho]; exact h1, h2, ?_⟩
        have : c.id j = t.s1.next := hI.more.next.symm
        rw [h4, this]
        simp
    · intro i _
      exact trace_next htr i
    · intro i o q ho h0 hran hqn hq hlo hhi
      obtain ⟨t, ht⟩ := hget i (Array.getElem?_eq_some_iff.1 ho).1
      obtain ⟨ao, h1, h2⟩ := hop i o ho
      obtain ⟨B, hB, hBl, hBs⟩ := masks_spec ops.toList []
      simp only [List.length_nil, List.reverse_nil, List.nil_append, Nat.zero_add] at hB hBs
      have hB2 : (masksOf ops.toList [] 0).reverse = B := hB
      have hin : i < ops.size := (Array.getElem?_eq_some_iff.1 ho).1
      have hBi : B[i]? = some (nthM i B) := by
        have hlt : i < B.length := by rw [hBl]; simpa using hin
        rw [nthM_eq, List.getElem?_eq_getElem hlt]; rfl
      have hw : (winsOf ops (trOps P nt mask ops ops.toList []))[i]? = some (winOf B (chainOf (trOps P nt mask ops ops.toList []) 0) i (nthM i B)) := by
        unfold winsOf
        rw [hB2]
        have := winsFrom_at (b := B) (chain := chainOf (trOps P nt mask ops ops.toList []) 0) B 0 i _ hBi
        rw [this]; simp
      rw [nxt_tI c ht] at hran ⊢
      have hsame := checkD_at hchk i ao _ _ h1 (snaps_at [] ts i t ht) hw (by rw [h2, ← hclo i o ho]; exact h0) hran
      rw [h2] at hsame
      -- the state
      have hk : ∃ k, ((chainOf (trOps P nt mask ops ops.toList []) 0).filter fun x => decide (x < q)).length = k ∧ (s :: chainSts (trOps P nt mask ops ops.toList []) ts)[k]? = some (c.sg q) := by
        by_cases hqp : q = 0
        · subst hqp
          refine ⟨0, ?_, by simp [DC.sg, sFin, c]⟩
          rw [List.length_eq_zero_iff, List.filter_eq_nil_iff]
          intro x _; simp
        · have hq : c.clo P (q - 1) = 2 := hq.resolve_left hqp
          have hq1 : q - 1 < ops.size := by
            have h5 : q ≤ ops.size := hqn
            omega
          obtain ⟨t', ht'⟩ := hget (q - 1) hq1
          have ho' : ops[q - 1]? = some ops[q - 1] := Array.getElem?_eq_getElem hq1
          obtain ⟨ao', h6, h7⟩ := hop (q - 1) _ ho'
          obtain ⟨k, hk1, hk2⟩ := chainSts_at _ ts 0 (q - 1) t' htl (Nat.zero_le _) ⟨ao', by simpa using h6, by rw [h7, ← hclo _ _ ho']; exact hq⟩ (by simpa using ht')
          rw [show q - 1 + 1 = q from by omega] at hk1
          refine ⟨k + 1, hk1, ?_⟩
          rw [List.getElem?_cons_succ, hk2]
          have : c.sg (q - 1 + 1) = t'.s2 := sFin_succ s ts (q - 1) t' ht'
          rw [show q - 1 + 1 = q from by omega] at this
          rw [this]
      obtain ⟨k, hk1, hk2⟩ := hk
      have hbm : ∀ j, c.bm j = nthM j B := fun j => by show nthM j (masksOf ops.toList [] 0).reverse = _; rw [hB2]
      rw [hbm i]
      refine sameIn_mem hsame (c.sg q) (window_mem hk2 ?_ ?_)
      · show ((chainOf _ 0).filter fun i_1 => (nthM i B).testBit i_1).length ≤ k
        rw [← hk1]
        exact filter_le _ fun x hx hb => by
          have := hlo x (hchain2 x hx) (by rw [hbm]; exact hb)
          simpa using this
      · show k ≤ ((chainOf _ 0).filter fun i_1 => !(nthM i_1 B).testBit i).length
        rw [← hk1]
        exact filter_le _ fun x hx hb => by
          have hxq : x < q := by simpa using hb
          have := hhi x hxq (hchain2 x hx)
          rw [hbm] at this
          simp [this]
  refine DC.any_ok (c := c) hc ?_ ops.size (Array.replicate ops.size false) 0 E a { w with drawn := w.drawn + 1 } (by simp [c]) ?_ ?_
  · intro D q F a' w' hinv hall
    obtain ⟨hrn, hsn⟩ := DC.absorb hc hinv hinv.qle (Nat.le_refl _) (fun j hj hjn hcj => by
      have := hinv.above j hcj hj
      rw [hall j hjn] at this; cases this) (fun j _ hjn _ => hall j hjn)
    have hsg : c.sg c.ops.size = sFin s ts := by
      show sFin s (ts.take ops.size) = _
      rw [List.take_of_length_le (by omega)]
    rw [hsg] at hrn hsn
    refine hQ _ _ (F.sub (c.bel c.ops.size)) w' a' h ((Step.drawn _).trans hsn) hrn ?_
    have hEi : Mem.Le E (F.sub (c.bel c.ops.size)) := hsn.le
    refine ⟨hinv.size, fun t v hv => ?_, fun t v hv => ?_, ?_⟩
    · rcases storeAll_get _ _ _ hv with ⟨i, ao, x, h1, h2, h3, h4⟩ | ⟨h1, h2⟩
      · have hin : i < ops.size := by rw [← hal]; exact (List.getElem?_eq_some_iff.1 h1).1
        have ho : ops[i]? = some ops[i] := Array.getElem?_eq_getElem hin
        obtain ⟨ti, hti⟩ := hget i hin
        obtain ⟨_, g, _, e, _⟩ := hit i _ ti ho hti
        rw [hat i _ ho, e] at h1
        cases h1
        rw [snaps_at [] ts i ti hti] at h2
        cases h2
        have hd : ops[i].dst = some t := by
          have h3 : trDst mask ops[i].dst = some (posOf t) := h3
          unfold trDst at h3
          split at h3
          · rename_i d hd
            cases hb : Nat.testBit mask d with
            | false => rw [hb] at h3; cases h3
            | true =>
              rw [hb] at h3
              rw [hd, posOf_inj (Option.some.inj h3)]
          · cases h3
        have hvi := hinv.vals i _ t (hall i hin) ho hd
        rw [nxt_tI c hti] at hvi
        simp only at h4
        rw [← h4]
        refine cv_mono (Mem.sub_le fun p y _ hp => ?_) hvi
        rcases hp with hp | ⟨j, hj, hn, rfl⟩
        · have := DC.mono hc hinv.qle (Nat.le_refl c.ops.size)
          unfold DC.bel at *
          omega
        · exact DC.id_lt hc hn hn.2.2 (Nat.le_refl _)
      · have hk := hf.key t v h1
        have hno : ∀ (i : Nat) (o : Oper), D i = true → c.ops[i]? = some o → o.dst ≠ some t := fun i o _ ho hd => by
          have hin : i < ops.size := (Array.getElem?_eq_some_iff.1 ho).1
          obtain ⟨ti, hti⟩ := hget i hin
          obtain ⟨_, g, _, e, _⟩ := hit i o ti ho hti
          refine h2 i _ _ (hat i o ho) (snaps_at [] ts i ti hti) ?_
          rw [e]
          simp [trDst, hd, hk]
        rw [hinv.olds t hno]
        exact cv_mono hEi (hf.val t v h1)
    · rcases storeAll_get _ _ _ hv with ⟨i, ao, x, h1, h2, h3, h4⟩ | ⟨h1, _⟩
      · have hin : i < ops.size := by rw [← hal]; exact (List.getElem?_eq_some_iff.1 h1).1
        have ho : ops[i]? = some ops[i] := Array.getElem?_eq_getElem hin
        obtain ⟨ti, hti⟩ := hget i hin
        obtain ⟨_, g, _, e, _⟩ := hit i _ ti ho hti
        rw [hat i _ ho, e] at h1
        cases h1
        have h3 : trDst mask ops[i].dst = some (posOf t) := h3
        unfold trDst at h3
        split at h3
        · rename_i d hd
          cases hb : Nat.testBit mask d with
          | false => rw [hb] at h3; cases h3
          | true =>
            rw [hb] at h3
            rw [← posOf_inj (Option.some.inj h3)]; exact hb
        · cases h3
      · exact hf.key t v h1
    · rw [storeAll_defs]
      rw [show a'.defers = a.defers from hinv.defs]
      exact hf.defs.mono hEi
  · exact cntF_all _ fun j _ => by
      by_cases hj : j < ops.size
      · simp [Array.getD_eq_getD_getElem?, hj]
      · simp [Array.getD_eq_getD_getElem?, hj]
  · have hfun : (fun j => (Array.replicate ops.size false).getD j false) = fun _ => false := by
      funext j
      by_cases hj : j < ops.size
      · simp [Array.getD_eq_getD_getElem?, hj]
      · simp [Array.getD_eq_getD_getElem?, hj]
    rw [hfun]
    exact DC.init_inv (hc := hc) (hr.drawn _)
end Go.Ab
end

section
namespace Go.Ab
variable {β : Type} {P : Program} {ρ : Val} {E : Mem} {s : St} {w : World} {r : β} {k : Kv β}

/-- the table of a program -/
noncomputable def mkCtx (P : Program) (masks : List Nat) (sum : FuncId → Option SumT) : Ctx := { info := fnInfo P masks, trCode := fun m c => tr P (m % 65536) (m / 65536) c, sum := sum }
theorem mkCtx_ok {masks : List Nat} {sum : FuncId → Option SumT} (hs : ∀ f g, sum f = some g → ∀ β : Type, SumOk P f (g β)) : CtxOk P (mkCtx P masks sum) :=
  ⟨fun f i h => fnInfo_ok h, fun _ _ => rfl, hs⟩
/-- THE EXECUTOR IS SOUND: a call. -/
theorem calls_of_run (hm : P.follows .mixedOrders = true) {C : Ctx} (hC : CtxOk P C) (n : Nat) {f : FuncId} {args : List AV} {us : List Value} (hf : f ≠ yieldId) (h : (callA C (exec P C n β) f args s k).run ρ = some r) (hr : HRel ρ E s w) (ha : cvs ρ E args = some us) :
    Calls P f us.toArray w (Out P ρ E s w k r) :=
  ((callA_ok (exec_ok hC (drawSound hm) n β) hC).fn ρ r f args s k E w us hf h hr ha).2
/-- a memory of which nothing is known -/
theorem HRel.empty (w : World) (p : Pos) : HRel ρ E0 ⟨.lf, p, []⟩ w :=
  ⟨fun q b h => by simp at h, fun q q' b b' c o o' h => by simp at h, fun q b h => by simp at h, fun q x h => (by cases h), fun c b h => (by cases h)⟩
/-- a closed call: the value, and what the old memory is behind it -/
theorem calls_closed (hm : P.follows .mixedOrders = true) {C : Ctx} (hC : CtxOk P C) (n : Nat) {f : FuncId} {args : List AV} {us : List Value} {p : Pos} {v : AV} {u : Value} (ρ : Val) (hf : f ≠ yieldId) (h : callA C (exec P C n AV) f args ⟨.lf, p, []⟩ (fun v _ => .ok v) = .ok v)
    (ha : cvs ρ E0 args = some us) (hv : cv ρ E0 v = some u) (w : World) :
    Calls P f us.toArray w fun e w' => e = .returned u ∧ w.heap.size ≤ w'.heap.size ∧ (∀ i, i < w.heap.size → w'.heap[i]? = w.heap[i]?) ∧ w'.os = w.os ∧ w'.output = w.output ∧ w'.tape = w.tape := by
  refine Calls.mono (calls_of_run hm hC n (ρ := ρ) (r := v) hf (by rw [h]; rfl) (HRel.empty w p) ha) ?_
  rintro e w' ⟨v', u', s', E', rfl, hv', hst, _, hk⟩
  have : some v' = some v := hk
  cases this
  rw [cv_mono (E0_le E') hv] at hv'
  cases hv'
  exact ⟨rfl, hst.size, fun i hi => hst.frame i hi fun q b o hq => by simp at hq, hst.os, hst.out, hst.tape⟩
end Go.Ab
end
