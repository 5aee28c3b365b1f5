/- The executor agrees with the model on regions, code, calls and deferred calls. -/
import Derived.Test.YtbmneikfcbbmmaaGreatFD
import Derived.Laws.RangeString
import Derived.Laws.IdiomStrings
import Derived.RangeFuncIn
set_option linter.unusedVariables false
set_option linter.unusedSimpArgs false
set_option linter.unusedSectionVars false
section
namespace Go.Ab
variable {β : Type} {P : Program} {ρ : Val} {E : Mem} {s : St} {w : World} {r : β} {k : Kv β}
variable {ds : List (Option Nat)} {ls : List AV} {fr : Fr} {a : Act} {call : CallT β}

/-! ### strings and their iterators -/
theorem ef_s2b (hres : Res ρ E ds ls fr a) (hr : HRel ρ E s w) {st dt : TypeId} {x : Operand} (hc : (trConv P ds st dt x).cls = 2) (h : (evOp P (trConv P ds st dt x) call ls fr s k).run ρ = some r) : Eff P ρ E s w (convert st dt (a.eval x)) k r := by
  have main : ∀ e b, undA P st = some .string → undA P dt = some (.slice e) → undA P e = some (.int .u8) → (evOp P (.s2b b (trArg ds x)) call ls fr s k).run ρ = some r → Eff P ρ E s w (convert st dt (a.eval x)) k r := by
    intro e b h1 h2 h3 h
    obtain ⟨v, hv, h⟩ := run_onArg hres h
    obtain ⟨l, hl, h⟩ := run_onSome h
    obtain ⟨_, h⟩ := run_guardB h
    rw [asStr_eq hl] at hv
    simp only [cv_str, Option.some.injEq] at hv
    rw [← hv]
    have hrun := run_bytes_of_string (P := P) w st dt e (bytesOf l) (undA_eq h1) (undA_eq h2) (undA_eq h3)
    have hge := grownCap_ge w (bytesOf l).size 0 e
    have hrow : bytesRow (bytesOf l) (grownCap w (bytesOf l).size 0 e) = (byteCells (bytesOf l) ++ List.replicate (grownCap w (bytesOf l).size 0 e - (bytesOf l).size) (Value.int .u8 0)).toArray := by
      apply Array.ext'
      simp [bytesRow, byteCells]
    rw [hrow] at hrun
    rw [size_bytesOf] at hrun hge
    refine fresh_ok hr (byteL_cv l) (by rw [byteCells_length, size_bytesOf]; simp) h hrun hge (by simp) ?_
    intro i hi1 hi2 hh
    simp only [List.size_toArray, List.length_append] at hh
    omega
  unfold trConv at h hc
  split at h
  · rename_i h1 h2; rw [h1, h2] at hc; cases hc
  · rename_i h1 h2; rw [h1, h2] at hc; cases hc
  · rename_i e h1 h2
    rw [h1, h2] at hc
    split at h
    · rename_i h3 h4
      exact main e _ h1 h2 h3 h
    · cases h
  · rename_i e h1 h2
    rw [h1, h2] at hc
    split at h
    · rename_i h3; simp only [h3] at hc; cases hc
    · cases h
  · rename_i h1 h2; rw [h1, h2] at hc; cases hc
  · cases h
theorem nbeq (a b : Nat) : Nat.beq a b = (a == b) := by rw [Bool.eq_iff_iff]; simp
/-! a range over a map -/
theorem asMit_eq {p : Pos} {it : MIt} (h : (s.heap.get p).bind Blk.asMit = some it) : s.heap.get p = some (.mit it.m it.since it.seen it.last) := by
  obtain ⟨b, hb, h⟩ := Option.bind_eq_some_iff.1 h
  cases b <;> simp [Blk.asMit] at h
  rw [hb, ← h]
theorem ef_rngM (hres : Res ρ E ds ls fr a) (hr : HRel ρ E s w) {t kt et : TypeId} {x : Operand} (ht : P.underlying t = some (.map kt et)) (h : (evOp P (.rngM (trArg ds x)) call ls fr s k).run ρ = some r) : Eff P ρ E s w (Instr.range t (a.eval x)) k r := by
  obtain ⟨v, hv, h⟩ := run_onArg hres h
  have hnew : (E.add s.next w.heap.size 0).blk s.next = some (w.heap.size, 0) := by simp [Mem.add]
  rcases run_ifB h with ⟨hn, h⟩ | ⟨_, h⟩
  · rw [isNil3 hn] at hv
    simp only [cv_nilm, Option.some.injEq] at hv
    rw [← hv]
    obtain ⟨h1, h2⟩ := hr.alloc (.mit none 0 [] 0) (.mapIter none 0 #[] 0) 0 ⟨_, 0, none, hnew, rfl, rfl, heap_alloc_new w _⟩
    refine ⟨.pointer (some ⟨w.heap.size, 0, none⟩), _, _, _, _, ?_, cv_ptr_mk hnew, h2, h1, h⟩
    simp [Instr.range, run_underlying ht, World.alloc_eq]
  · obtain ⟨p, hp, h⟩ := run_onSome h
    obtain ⟨m, hm, h⟩ := run_onSome h
    rw [asMap_eq hp] at hv
    obtain ⟨c, o, hb, hu⟩ := cv_map hv
    rw [hu]
    obtain ⟨c2, o2, us, hb2, _, hheap⟩ := hr.blks _ _ (St.mapAt_eq hm)
    rw [hb] at hb2; cases hb2
    have hne : p ≠ s.next := fun e => by
      have := hr.dom _ _ (St.mapAt_eq hm)
      rw [e] at this; omega
    have hbE : (E.add s.next w.heap.size 0).blk p = some (c, o) := by simp [Mem.add, hne, hb]
    obtain ⟨h1, h2⟩ := hr.alloc (.mit (some p) m.clock [] m.clock) (.mapIter (some c) m.clock #[] m.clock) 0 ⟨_, 0, some c, hnew, rfl, ⟨c, o, hbE, rfl⟩, heap_alloc_new w _⟩
    refine ⟨.pointer (some ⟨w.heap.size, 0, none⟩), _, _, _, _, ?_, cv_ptr_mk hnew, h2, h1, h⟩
    have hobj : (getObj c).run P w = .ok (.map us.toArray m.clock) w := by simp [getObj, Sem.run, hheap]
    simp [Instr.range, run_underlying ht, World.alloc_eq, hobj]
/-- entries and the model's -/
theorem centry_born {e : Ent} {x : MapEntry} (h : centry ρ E e = some x) : x.born = e.born ∧ cv ρ E e.key = some x.key ∧ cv ρ E e.val = some x.val := by
  unfold centry at h
  obtain ⟨k, hk, h⟩ := Option.bind_eq_some_iff.1 h
  obtain ⟨v, hv, rfl⟩ := Option.map_eq_some_iff.1 h
  exact ⟨rfl, hk, hv⟩
theorem centries_filter {f : Ent → Bool} {g : MapEntry → Bool} (hfg : ∀ e x, centry ρ E e = some x → f e = g x) : ∀ {es : List Ent} {us : List MapEntry}, centries ρ E es = some us → centries ρ E (es.filter f) = some (us.filter g)
  | [], us, h => by simp [centries] at h; subst h; simp [centries]
  | e :: es, us, h => by
    simp only [centries, Option.bind_eq_some_iff, Option.map_eq_some_iff] at h
    obtain ⟨x, hx, y, hy, rfl⟩ := h
    have ih := centries_filter hfg hy
    have := hfg e x hx
    cases hf : f e with
    | false => rw [List.filter_cons_of_neg (by simp [hf]), List.filter_cons_of_neg (by rw [← this, hf]; simp)]; exact ih
    | true =>
      rw [List.filter_cons_of_pos hf, List.filter_cons_of_pos (by rw [← this]; exact hf)]
      simp [centries, hx, ih]
theorem centries_all {f : Ent → Bool} {g : MapEntry → Bool} (hfg : ∀ e x, centry ρ E e = some x → f e = g x) : ∀ {es : List Ent} {us : List MapEntry}, centries ρ E es = some us → es.all f = us.all g
  | [], us, h => by simp [centries] at h; subst h; rfl
  | e :: es, us, h => by
    simp only [centries, Option.bind_eq_some_iff, Option.map_eq_some_iff] at h
    obtain ⟨x, hx, y, hy, rfl⟩ := h
    rw [List.all_cons, List.all_cons, hfg e x hx, centries_all hfg hy]
theorem centries_find {f : Ent → Bool} {g : MapEntry → Bool} (hfg : ∀ e x, centry ρ E e = some x → f e = g x) : ∀ {es : List Ent} {us : List MapEntry} {e : Ent}, centries ρ E es = some us → es.find? f = some e → ∃ x, us.find? g = some x ∧ centry ρ E e = some x
  | [], us, e, h, hf => by cases hf
  | e0 :: es, us, e, h, hf => by
    simp only [centries, Option.bind_eq_some_iff, Option.map_eq_some_iff] at h
    obtain ⟨x, hx, y, hy, rfl⟩ := h
    rw [List.find?_cons] at hf ⊢
    rw [← hfg e0 x hx]
    cases hc : f e0 with
    | true => rw [hc] at hf; cases hf; exact ⟨x, rfl, hx⟩
    | false => rw [hc] at hf; exact centries_find hfg hy hf
theorem ef_nextM (hres : Res ρ E ds ls fr a) (hr : HRel ρ E s w) {ty : TypeId} {x : Operand} (h : (evOp P (.nextM (trArg ds x)) call ls fr s k).run ρ = some r) : Eff P ρ E s w (Instr.next (a.eval x) false ty) k r := by
  obtain ⟨v, hv, h⟩ := run_onArg hres h
  obtain ⟨pa, hpa, h⟩ := run_onSome h
  obtain ⟨hoff, h⟩ := run_guardB h
  obtain ⟨it, hit, h⟩ := run_onSome h
  have hblk := asMit_eq hit
  obtain ⟨c, o, mc, hbk, rfl, hmc, hheap⟩ := hr.blks _ _ hblk
  rw [asPtr_eq hpa, show pa.off = 0 from by simpa using hoff, cv_ptr_mk hbk] at hv
  simp only [Option.some.injEq] at hv
  rw [← hv]
  have hobj : (getObj c).run P w = .ok (.mapIter mc it.since it.seen.toArray it.last) w := by simp [getObj, Sem.run, hheap]
  rcases run_onSomeOr h with ⟨q, hq, h⟩ | ⟨hn, h⟩
  · obtain ⟨b, hb, h⟩ := run_onSome h
    rw [hq] at hmc
    obtain ⟨c2, o2, hb2, rfl⟩ := hmc
    obtain ⟨c3, o3, us, hb3, hus, hheap2⟩ := hr.blks _ _ (St.mapAt_eq hb)
    rw [hb2] at hb3; cases hb3
    have hobj2 : (getObj c2).run P w = .ok (.map us.toArray b.clock) w := by simp [getObj, Sem.run, hheap2]
    obtain ⟨hg, h⟩ := run_guardB h
    have hborn : ∀ e x, centry ρ E e = some x → x.born = e.born := fun e x hx => (centry_born hx).1
    have hleft : centries ρ E (mitLeft it b) = some (us.filter fun e => !it.seen.contains e.born) := centries_filter (fun e x hx => by
      rw [hborn e x hx]
      unfold notSeen
      congr 1
      rw [List.contains_eq_any_beq]
      congr 1
      funext y
      exact nbeq _ _) hus
    have hold : centries ρ E (mitOld it b) = some ((us.filter fun e => !it.seen.contains e.born).filter fun e => decide (e.born < it.since)) := centries_filter (fun e x hx => by
      rw [hborn e x hx]
      cases hb : Nat.blt e.born it.since with
      | true => simp at hb; simp [hb]
      | false => rw [← Bool.not_eq_true, Nat.blt_eq] at hb; simp; omega) hleft
    have hnew : centries ρ E (mitNew it b) = some ((us.filter fun e => !it.seen.contains e.born).filter fun e => decide (e.born ≥ it.since)) := centries_filter (fun e x hx => by
      rw [hborn e x hx]
      cases hb : Nat.ble it.since e.born with
      | true => simp at hb; simp [hb]
      | false => rw [← Bool.not_eq_true, Nat.ble_eq] at hb; simp; omega) hleft
    have hgone : (!it.seen.toArray.isEmpty && !us.toArray.isEmpty && us.toArray.all fun e => decide (e.born ≥ it.last)) = false := by
      have h1 : (b.es.all fun e => Nat.ble it.last e.born) = us.all fun e => decide (e.born ≥ it.last) := centries_all (fun e x hx => by
        rw [hborn e x hx]
        cases hb : Nat.ble it.last e.born with
        | true => simp at hb; simp [hb]
        | false => rw [← Bool.not_eq_true, Nat.ble_eq] at hb; simp; omega) hus
      have h2 := centries_length hus
      have h3 : us.isEmpty = b.es.isEmpty := by
        cases hus2 : us <;> cases hes : b.es <;> simp [hus2, hes] at h2 ⊢
      have hg' : mitGone it b = false := by simpa using hg
      unfold mitGone at hg'
      rw [h1] at hg'
      simpa [h3] using hg'
    have hsplit : (∃ e, mitOld it b = [e] ∧ mitNew it b = [] ∧ (k (.tup [.bool true, e.key, e.val]) (s.put pa.p (.mit (some q) it.since (it.seen ++ [e.born]) b.clock))).run ρ = some r) ∨ (mitOld it b = [] ∧ mitNew it b = [] ∧ (k (.tup [.bool false]) s).run ρ = some r) := by
      cases ho : mitOld it b with
      | nil =>
        cases hn : mitNew it b with
        | nil => rw [ho, hn] at h; exact .inr ⟨rfl, rfl, h⟩
        | cons _ _ => rw [ho, hn] at h; cases h
      | cons e l =>
        cases l with
        | nil =>
          cases hn : mitNew it b with
          | nil => rw [ho, hn] at h; exact .inl ⟨e, rfl, rfl, h⟩
          | cons _ _ => rw [ho, hn] at h; cases h
        | cons _ _ => rw [ho] at h; cases h
    rcases hsplit with ⟨e, ho, hn, h⟩ | ⟨ho, hn, h⟩
    · rw [ho] at hold
      rw [hn] at hnew
      simp only [centries, Option.bind_eq_some_iff, Option.map_eq_some_iff, Option.some.injEq] at hold hnew
      obtain ⟨x0, hx0, y0, rfl, hold⟩ := hold
      obtain ⟨b1, b2, b3⟩ := centry_born hx0
      obtain ⟨g1, g2⟩ := hr.setBlk (nb := .mit (some q) it.since (it.seen ++ [e.born]) b.clock) (obj := .mapIter (some c2) it.since (it.seen ++ [e.born]).toArray b.clock) hblk (by simp [Live]) hbk ⟨c, 0, some c2, hbk, rfl, ⟨c2, o2, hb2, rfl⟩, setBlk_get hheap⟩
      refine ⟨.tuple #[.bool true, x0.key, x0.val], _, _, _, E, ?_, by simp [cv, cvs, b2, b3], g2, g1, h⟩
      have hset : (setObj c (.mapIter (some c2) it.since (it.seen ++ [e.born]).toArray b.clock)).run P w = .ok () (Ab.setBlk w c (.mapIter (some c2) it.since (it.seen ++ [e.born]).toArray b.clock)) := by simp [setObj, Sem.run, hheap, setBlk]
      have ea : (us.toArray.filter fun e => !it.seen.toArray.contains e.born).filter (fun e => decide (e.born < it.since)) = #[x0] := by
        apply Array.ext'
        simpa using hold.symm
      have eb : (us.toArray.filter fun e => !it.seen.toArray.contains e.born).filter (fun e => decide (e.born ≥ it.since)) = #[] := by
        apply Array.ext'
        simpa using hnew.symm
      have hpush : it.seen.toArray.push x0.born = (it.seen ++ [e.born]).toArray := by rw [b1]; simp
      simp only [Instr.next, Sem.run_bind, hobj, Result.andThen_ok, hobj2, hgone, Bool.false_eq_true, if_false, ea, eb, hpush]
      have hset2 : (setObj c (.mapIter (some c2) it.since (it.seen ++ [x0.born]).toArray b.clock)).run P w = .ok () (Ab.setBlk w c (.mapIter (some c2) it.since (it.seen ++ [e.born]).toArray b.clock)) := by rw [b1]; exact hset
      simp [Question.forced, hset2]
    · rw [ho] at hold
      rw [hn] at hnew
      simp only [centries, Option.some.injEq] at hold hnew
      refine ⟨.tuple #[.bool false], w, _, s, E, ?_, by simp [cv, cvs], .refl .., hr, h⟩
      have ea : (us.toArray.filter fun e => !it.seen.toArray.contains e.born).filter (fun e => decide (e.born < it.since)) = #[] := by
        apply Array.ext'
        simpa using hold.symm
      have eb : (us.toArray.filter fun e => !it.seen.toArray.contains e.born).filter (fun e => decide (e.born ≥ it.since)) = #[] := by
        apply Array.ext'
        simpa using hnew.symm
      simp only [Instr.next, Sem.run_bind, hobj, Result.andThen_ok, hobj2, hgone, Bool.false_eq_true, if_false, ea, eb]
      simp [Question.forced]
  · rw [hn] at hmc
    have hmc : mc = none := hmc
    subst hmc
    refine ⟨.tuple #[.bool false], w, _, s, E, ?_, by simp [cv, cvs], .refl .., hr, h⟩
    simp [Instr.next, hobj]
theorem ef_entM (hres : Res ρ E ds ls fr a) (hr : HRel ρ E s w) {x : Operand} (h : (evOp P (.entM (trArg ds x)) call ls fr s k).run ρ = some r) : Eff P ρ E s w (Instr.entry (a.eval x)) k r := by
  obtain ⟨v, hv, h⟩ := run_onArg hres h
  obtain ⟨pa, hpa, h⟩ := run_onSome h
  obtain ⟨hoff, h⟩ := run_guardB h
  obtain ⟨it, hit, h⟩ := run_onSome h
  obtain ⟨q, hq, h⟩ := run_onSome h
  obtain ⟨t, ht, h⟩ := run_onSome h
  obtain ⟨b, hb, h⟩ := run_onSome h
  obtain ⟨hcl, h⟩ := run_guardB h
  obtain ⟨e, he, h⟩ := run_onSome h
  have hblk := asMit_eq hit
  obtain ⟨c, o, mc, hbk, rfl, hmc, hheap⟩ := hr.blks _ _ hblk
  rw [hq] at hmc
  obtain ⟨c2, o2, hb2, rfl⟩ := hmc
  obtain ⟨c3, o3, us, hb3, hus, hheap2⟩ := hr.blks _ _ (St.mapAt_eq hb)
  rw [hb2] at hb3; cases hb3
  rw [asPtr_eq hpa, show pa.off = 0 from by simpa using hoff, cv_ptr_mk hbk] at hv
  simp only [Option.some.injEq] at hv
  rw [← hv]
  have hobj : (getObj c).run P w = .ok (.mapIter (some c2) it.since it.seen.toArray it.last) w := by simp [getObj, Sem.run, hheap]
  have hobj2 : (getObj c2).run P w = .ok (.map us.toArray b.clock) w := by simp [getObj, Sem.run, hheap2]
  obtain ⟨x0, hx0, hc0⟩ := centries_find (f := fun e => Nat.beq e.born t) (g := fun e => e.born == t) (fun e x hx => by rw [(centry_born hx).1]; exact nbeq _ _) hus he
  obtain ⟨b1, b2, b3⟩ := centry_born hc0
  refine ⟨.tuple #[x0.key, x0.val], w, _, s, E, ?_, by simp [cv, cvs, b2, b3], .refl .., hr, h⟩
  have hclk : b.clock = it.last := by simpa using hcl
  have hback : it.seen.toArray.back? = some t := by simpa using ht
  have hfind : us.toArray.find? (fun e => e.born == t) = some x0 := by simpa using hx0
  simp [Instr.entry, hobj, hobj2, hback, hclk, hfind]
theorem ef_rng (hres : Res ρ E ds ls fr a) (hr : HRel ρ E s w) {t : TypeId} {x : Operand} (h : (evOp P (trOp P ds (.range t x)) call ls fr s k).run ρ = some r) : Eff P ρ E s w (Instr.range t (a.eval x)) k r := by
  simp only [trOp] at h
  split at h
  case h_3 => cases h
  case h_2 hu => exact ef_rngM hres hr (undA_eq hu) h
  rename_i hu
  obtain ⟨v, hv, h⟩ := run_onArg hres h
  obtain ⟨l, hl, h⟩ := run_onSome h
  rw [asStr_eq hl] at hv
  simp only [cv_str, Option.some.injEq] at hv
  rw [← hv]
  have hnew : (E.add s.next w.heap.size 0).blk s.next = some (w.heap.size, 0) := by simp [Mem.add]
  obtain ⟨h1, h2⟩ := hr.alloc (.sit l 0) (.stringIter (bytesOf l) 0) 0 ⟨_, 0, hnew, rfl, heap_alloc_new w _⟩
  refine ⟨.pointer (some ⟨w.heap.size, 0, none⟩), _, _, _, _, ?_, cv_ptr_mk hnew, h2, h1, h⟩
  simp [Instr.range, run_underlying (undA_eq hu), World.alloc_eq]
theorem ef_next (hres : Res ρ E ds ls fr a) (hr : HRel ρ E s w) {ty : TypeId} {x : Operand} (h : (evOp P (.nextS (trArg ds x)) call ls fr s k).run ρ = some r) : Eff P ρ E s w (Instr.next (a.eval x) true ty) k r := by
  obtain ⟨v, hv, h⟩ := run_onArg hres h
  obtain ⟨pa, hpa, h⟩ := run_onSome h
  obtain ⟨hoff, h⟩ := run_guardB h
  obtain ⟨it, hit, h⟩ := run_onSome h
  obtain ⟨b, hb, hit⟩ := Option.bind_eq_some_iff.1 hit
  have hbe : b = .sit it.l it.pos := by cases b <;> simp [Blk.asIt] at hit; subst hit; rfl
  subst hbe
  obtain ⟨c, o, hbk, rfl, hheap⟩ := hr.blks _ _ hb
  rw [asPtr_eq hpa, show pa.off = 0 from by simpa using hoff, cv_ptr_mk hbk] at hv
  simp only [Option.some.injEq] at hv
  rw [← hv]
  have hobj : (getObj c).run P w = .ok (.stringIter (bytesOf it.l) it.pos) w := by simp [getObj, Sem.run, hheap]
  rcases run_onSomeOr h with ⟨y, hy, h⟩ | ⟨hn, h⟩
  · obtain ⟨hlt, h⟩ := run_guardB h
    rw [nthN_eq] at hy
    obtain ⟨hp, hy'⟩ := List.getElem?_eq_some_iff.1 hy
    have hps : it.pos < (bytesOf it.l).size := by rw [size_bytesOf]; exact hp
    have hbyte : ((bytesOf it.l)[it.pos]'hps).toNat = y % 256 := by
      have : (bytesOf it.l)[it.pos]'hps = UInt8.ofNat y := by
        show (bytesOf it.l).data[it.pos]'_ = _
        simp [bytesOf, hy']
      rw [this]; simp
    have hlt' : y % 256 < 128 := by simpa using hlt
    have hdec := decode_ascii (bytesOf it.l) it.pos hps (by rw [hbyte]; exact hlt')
    rw [hbyte] at hdec
    obtain ⟨h1, h2⟩ := hr.setBlk (nb := .sit it.l (it.pos + 1)) (obj := .stringIter (bytesOf it.l) (it.pos + 1)) hb (by simp [Live]) hbk ⟨c, 0, hbk, rfl, setBlk_get hheap⟩
    refine ⟨.tuple #[.bool true, goInt it.pos, .int .i32 (Int.ofNat (y % 256))], _, _, _, E, ?_, by simp [cv, cvs, goInt], h2, h1, h⟩
    simp [Instr.next, hobj, hps, hdec, run_setSit hheap]
  · rw [nthN_eq] at hn
    have hp : ¬ it.pos < (bytesOf it.l).size := by rw [size_bytesOf]; have := List.getElem?_eq_none_iff.1 hn; omega
    refine .mk hr (u := .tuple #[.bool false]) ?_ (by simp [cv, cvs]) h
    simp [Instr.next, hobj, hp]
/-! ### calls -/
/-- a call's outcome -/
def Out (P : Program) (ρ : Val) (E : Mem) (s : St) (w : World) (k : Kv β) (r : β) (e : Ending) (w' : World) : Prop :=
  ∃ v u s' E', e = .returned u ∧ cv ρ E' v = some u ∧ Step E s w E' s' w' ∧ HRel ρ E' s' w' ∧ (k v s').run ρ = some r
structure CallOk (P : Program) (call : CallT β) : Prop where
  fn : ∀ ρ (r : β) f args s k E w us, f ≠ yieldId → (call f args s k).run ρ = some r → HRel ρ E s w → cvs ρ E args = some us →
    (∀ (as : Array Value) (w' : World), (callFunc f as).run P w' = .ok (.enter f as) w') ∧ Calls P f us.toArray w (Out P ρ E s w k r)
  round : ∀ ρ (r : β) p args s k E w c o us, (call yieldId (.yld p :: args) s k).run ρ = some r → HRel ρ E s w → E.blk p = some (c, o) → cvs ρ E args = some us →
    ∃ f tmps assign body, (Instr.yield c us.toArray).run P w = .ok (.round c f tmps assign body) w ∧ RoundIn Fence.wide 0 P c f tmps assign body w (Out P ρ E s w k r)
theorem run_callN {f : FuncId} {args : List AV} (h : (callN call f args s k).run ρ = some r) : f ≠ yieldId ∧ (call f args s k).run ρ = some r := by
  obtain ⟨h1, h2⟩ := run_guardB h
  exact ⟨fun e => by rw [e] at h1; simp at h1, h2⟩
theorem CallOk.er {o : Oper} (hc : CallOk P call) (hr : HRel ρ E s w) {f : FuncId} {args : List AV} {us : List Value} (h : (callN call f args s k).run ρ = some r) (ha : cvs ρ E args = some us)
    (ho : (execOp a.eval o).run P w = (callFunc f us.toArray).run P w) : ER P ρ E s w o a k r := by
  obtain ⟨hf, h⟩ := run_callN h
  obtain ⟨h1, h2⟩ := hc.fn ρ r f args s k E w us hf h hr ha
  refine .enter (f := f) (args := us.toArray) (by rw [ho]; exact h1 _ _) (h2.mono ?_)
  rintro e w' ⟨v, u, s', E', rfl, hv, hs, hr', hk⟩
  exact ⟨u, rfl, v, s', E', hv, hs, hr', hk⟩
theorem er_callM {o : Oper} (hc : CallOk P call) (hr : HRel ρ E s w) {t : TypeId} {name : String} {v : AV} {uv : Value} {args : List AV} {us : List Value} (h : (doCallM P call args s k name ⟨t, v⟩).run ρ = some r) (hv : cv ρ E v = some uv) (ha : cvs ρ E args = some us)
    (ho : (execOp a.eval o).run P w = (callMethod (.iface t uv) name us.toArray).run P w) : ER P ρ E s w o a k r := by
  obtain ⟨m, hm, h⟩ := run_onMethod h
  obtain ⟨hd, h⟩ := run_guardB h
  have hd : m.deref = none := by simpa using hd
  refine hc.er hr h (cvs_cons_mk hv ha) ?_
  rw [ho]
  have := hm.same hd uv w (P.types.size + Made.depth - 1)
  have hdep : P.types.size + Made.depth - 1 + 1 = P.types.size + Made.depth := by have : 0 < Made.depth := by decide
                                                                                  omega
  rw [hdep] at this
  simp [callMethod, this]
theorem run_headTail {l : List AV} {f : AV → List AV → Tree β} (h : (headTail l f).run ρ = some r) : ∃ x m, l = x :: m ∧ (f x m).run ρ = some r := by
  cases l with
  | nil => cases h
  | cons x m => exact ⟨x, m, rfl, h⟩
theorem er_call {o : Oper} {c : Call} (hres : Res ρ E ds ls fr a) (hc : CallOk P call) (hr : HRel ρ E s w) (ho : o.op = .call c) (hcls : (trCall P ds c).cls = 2) (h : (evOp P (trCall P ds c) call ls fr s k).run ρ = some r) : ER P ρ E s w o a k r := by
  obtain ⟨cal, args, tys⟩ := c
  obtain ⟨dst, op, ty, pos, af, gd⟩ := o
  simp only at ho
  subst ho
  cases cal with
  | builtin b =>
    obtain ⟨al⟩ := args
    obtain ⟨tl⟩ := tys
    have fin : ∀ {m : Sem Value}, Eff P ρ E s w m k r → (∀ cs, builtin b ⟨tl⟩ ty cs ((⟨al⟩ : Array Operand).map a.eval) = (do pure (.value (← m)))) →
        ER P ρ E s w { dst := dst, op := .call { callee := .builtin b, args := ⟨al⟩, argTypes := ⟨tl⟩ }, type := ty, pos := pos, after := af, guard := gd } a k r := by
      intro m hm hb
      refine hm.er ?_
      simp only [execOp, resolve, invoke, pure_bind]
      exact hb _
    have h : (evOp P (trBuiltin P ds b ⟨al⟩ ⟨tl⟩) call ls fr s k).run ρ = some r := h
    have hcls : (trBuiltin P ds b ⟨al⟩ ⟨tl⟩).cls = 2 := hcls
    unfold trBuiltin at h hcls
    simp only at h hcls
    split at h
    · exfalso; split at h
      · rename_i hq; simp only [hq] at hcls; cases hcls
      · cases h
    · exfalso; split at h
      · rename_i hq; simp only [hq] at hcls; cases hcls
      · rename_i hq; simp only [hq] at hcls; cases hcls
      · cases h
    · exact fin (ef_append (ty := ty) hres hr h) (fun cs => by simp [builtin])
    · rename_i u _ _
      exact fin (ef_copy (ty := ty) (tl := u) hres hr h) (fun cs => by simp [builtin])
    · cases hcls
    · cases hcls
    · rename_i u _ _
      exact fin (ef_delete (ty := ty) (tl := u) hres hr h) (fun cs => by simp [builtin])
    · cases h
  | invoke x n =>
    obtain ⟨v, hv, h⟩ := run_onArg hres h
    obtain ⟨iv, hiv, h⟩ := run_onSome h
    obtain ⟨vs, hvs, h⟩ := run_onArgs hres h
    rw [asIf_eq hiv] at hv
    simp only [cv, Option.map_eq_some_iff] at hv
    obtain ⟨uv, huv, hx⟩ := hv
    refine er_callM hc hr h huv hvs ?_
    have harr : #[Value.iface iv.t uv] ++ args.map a.eval = (Value.iface iv.t uv :: (args.map a.eval).toList).toArray := by
      apply Array.ext'; simp
    simp only [execOp, resolve, invoke, ← hx, pure_bind, harr]
    simp [List.take_of_length_le]
  | value f =>
    have hv : ∀ x : Operand, (evOp P (.callV (trArg ds x) (trArgs ds args)) call ls fr s k).run ρ = some r →
        ER P ρ E s w { dst := dst, op := .call { callee := .value x, args := args, argTypes := tys }, type := ty, pos := pos, after := af, guard := gd } a k r := by
      intro x h
      obtain ⟨v, hv, h⟩ := run_onArg hres h
      obtain ⟨vs, hvs, h⟩ := run_onArgs hres h
      rcases run_onSomeOr h with ⟨p, hp, h⟩ | ⟨_, h⟩
      · have he : v = .yld p := by cases v <;> simp [AV.asYld] at hp; rw [hp]
        rw [he] at hv
        simp only [cv, Option.map_eq_some_iff] at hv
        obtain ⟨c, hc1, hx⟩ := hv
        obtain ⟨f, tmps, assign, body, h1, h2⟩ := hc.round ρ r p vs s k E w c.1 c.2 _ h hr hc1 hvs
        refine .round (l := c.1) (f := f) (tmps := tmps) (assign := assign) (body := body) ?_ (h2.mono ?_)
        · have harr : (#[] : Array Value) ++ args.map a.eval = (args.map a.eval).toList.toArray := by
            apply Array.ext'; simp
          simp only [execOp, resolve, Deferred.ofValue, ← hx, pure_bind, invoke, harr]
          exact h1
        · rintro e w' ⟨v', u, s', E', rfl, hv', hs, hr', hk⟩
          exact ⟨u, rfl, v', s', E', hv', hs, hr', hk⟩
      obtain ⟨fv, hfv, h⟩ := run_onSome h
      rw [asFn_eq hfv] at hv
      obtain ⟨fn, fst, cap⟩ := fv
      simp only [cv, Option.bind_eq_some_iff, Option.map_eq_some_iff] at hv
      obtain ⟨us, hus, uc, huc, hx⟩ := hv
      have hall := cvs_append hus hvs
      cases fn with
      | func g =>
        refine hc.er hr h (cvs_append hall huc) ?_
        have harr : us.toArray ++ args.map a.eval ++ uc.toArray = (us ++ (args.map a.eval).toList ++ uc).toArray := by
          apply Array.ext'; simp
        simp only [execOp, resolve, Deferred.ofValue, ← hx, pure_bind, invoke, harr]
      | method n =>
        obtain ⟨y, m, hm, h⟩ := run_headTail h
        obtain ⟨iv, hiv, h⟩ := run_onSome h
        simp only at hm hall
        rw [hm] at hall
        obtain ⟨uy, um, hum, huy, hum'⟩ := cvs_cons hall
        rw [asIf_eq hiv] at huy
        simp only [cv, Option.map_eq_some_iff] at huy
        obtain ⟨uv, huv, hy⟩ := huy
        refine er_callM hc hr h huv hum' ?_
        have harr : us.toArray ++ args.map a.eval = (uy :: um).toArray := by
          apply Array.ext'; simp [← hum]
        simp only [execOp, resolve, Deferred.ofValue, ← hx, pure_bind, invoke, harr]
        simp [← hy]
      | methodOf t n =>
        obtain ⟨y, m, hm, h⟩ := run_headTail h
        obtain ⟨b, hb, h⟩ := run_onSome h
        simp only at hm hall
        rw [hm] at hall
        obtain ⟨uy, um, hum, huy, hum'⟩ := cvs_cons hall
        unfold isIfaceT at hb
        obtain ⟨d, hd, hb⟩ := Option.map_eq_some_iff.1 hb
        have hd' := undA_eq hd
        have harr : us.toArray ++ args.map a.eval = (uy :: um).toArray := by
          apply Array.ext'; simp [← hum]
        rcases run_ifB h with ⟨hbt, h⟩ | ⟨hbf, h⟩
        · obtain ⟨iv, hiv, h⟩ := run_onSome h
          rw [asIf_eq hiv] at huy
          simp only [cv, Option.map_eq_some_iff] at huy
          obtain ⟨uv, huv, hy⟩ := huy
          refine er_callM hc hr h huv hum' ?_
          simp only [execOp, resolve, Deferred.ofValue, ← hx, pure_bind, invoke, harr]
          subst hbt
          cases d <;> simp at hb
          simp [run_underlying hd', ← hy]
        · refine er_callM hc hr h huy hum' ?_
          simp only [execOp, resolve, Deferred.ofValue, ← hx, pure_bind, invoke, harr]
          subst hbf
          cases d <;> simp at hb <;> simp [run_underlying hd']
      | _ => cases h
    cases f with
    | func g =>
      obtain ⟨vs, hvs, h⟩ := run_onArgs hres h
      refine hc.er hr h hvs ?_
      have harr : (#[] : Array Value) ++ args.map a.eval ++ #[] = (args.map a.eval).toList.toArray := by
        apply Array.ext'; simp
      simp only [execOp, resolve, Deferred.ofValue, invoke, Act.eval, pure_bind, harr]
    | tmp t => exact hv _ h
    | const v => exact hv _ h
    | global g => exact hv _ h
end Go.Ab
end

section
namespace Go.Ab
variable {β : Type} {P : Program} {ρ : Val} {E : Mem} {s : St} {w : World} {r : β} {k : Kv β}
variable {ds : List (Option Nat)} {ls : List AV} {fr : Fr} {a : Act} {call : CallT β}

theorem c0_build (t : TypeId) (ps : Array (Nat × Operand)) : (trBuild P ds t ps).cls = 0 := by
  unfold trBuild
  split
  · split
    · cases sizesOk P _ <;> rfl
    · rfl
  · split <;> rfl
  · rfl
theorem c0_bin (o : BinOp) (t : TypeId) (x y : Operand) : (trBin P ds o t x y).cls = 0 := by
  unfold trBin
  split
  · cases o <;> rfl
  · rfl
  · cases o <;> rfl
  · rfl
theorem c0_assert (x : Operand) (t : TypeId) (ok : Bool) : (trAssert P ds x t ok).cls = 0 := by
  unfold trAssert
  split
  · split
    · rename_i z _
      cases z.isNil 5 <;> rfl
    · rfl
  · split <;> rfl
  · rfl
/-- every operation, in the order of the text -/
theorem op_ok {o : Oper} (hres : Res ρ E ds ls fr a) (hc : CallOk P call) (hr : HRel ρ E s w) (hnd : isDefer o.op = false) (h : (evOp P (trOp P ds o.op) call ls fr s k).run ρ = some r) : ER P ρ E s w o a k r := by
  by_cases h0 : (trOp P ds o.op).cls = 0
  · exact .quiet hr (quiet_ok hres hr h0 h)
  by_cases h1 : (trOp P ds o.op).cls = 1
  · exact .alloc hr (alloc_ok hres hr.asm h1 h)
  cases hop : o.op with
  | store t x y => rw [hop] at h; exact er_st hres hr hop h
  | mapUpdate t x y z =>
    rw [hop] at h
    refine er_upd hres hr ?_ h
    obtain ⟨_, op, _, _, _, _⟩ := o
    simp only at hop
    subst hop
    rfl
  | insert t x y z =>
    rw [hop] at h
    refine er_upd hres hr ?_ h
    obtain ⟨_, op, _, _, _, _⟩ := o
    simp only at hop
    subst hop
    rfl
  | range t x =>
    rw [hop] at h
    refine (ef_rng hres hr h).er ?_
    obtain ⟨_, op, _, _, _, _⟩ := o
    simp only at hop
    subst hop
    rfl
  | next x b =>
    rw [hop] at h
    cases b with
    | false =>
      refine (ef_nextM (ty := o.type) hres hr h).er ?_
      obtain ⟨_, op, _, _, _, _⟩ := o
      simp only at hop
      subst hop
      rfl
    | true =>
      refine (ef_next (ty := o.type) hres hr h).er ?_
      obtain ⟨_, op, _, _, _, _⟩ := o
      simp only at hop
      subst hop
      rfl
  | entry x =>
    rw [hop] at h
    refine (ef_entM hres hr h).er ?_
    obtain ⟨_, op, _, _, _, _⟩ := o
    simp only at hop
    subst hop
    rfl
  | convert st dt x =>
    rw [hop] at h h0
    have hc2 : (trConv P ds st dt x).cls = 2 := by
      revert h0
      simp only [trOp]
      unfold trConv
      (repeat' split) <;> (intro h0; first | rfl | exact absurd rfl h0)
    refine (ef_s2b hres hr hc2 h).er ?_
    obtain ⟨_, op, _, _, _, _⟩ := o
    simp only at hop
    subst hop
    rfl
  | call c =>
    rw [hop] at h h0 h1
    refine er_call hres hc hr hop ?_ h
    have h01 : ∀ (x : AOp), ¬ x.cls = 0 → ¬ x.cls = 1 → x.cls = 2 := by
      intro x h0 h1
      cases x <;> first | rfl | exact absurd rfl h0 | exact absurd rfl h1
    exact h01 _ h0 h1
  | defer c => rw [hop] at hnd; cases hnd
  | move x => rw [hop] at h0; exact absurd rfl h0
  | assign x => rw [hop] at h0; exact absurd rfl h0
  | pick c x y => rw [hop] at h0; exact absurd rfl h0
  | alloc e =>
    rw [hop] at h h1
    rcases cls_alloc (P := P) (ds := ds) e with hx | ⟨m, hx⟩
    · exact absurd hx h1
    · rw [show trOp P ds (.alloc e) = .no m from hx] at h
      cases h
  | box e x => rw [hop] at h1; exact absurd rfl h1
  | build t ps => rw [hop] at h0; exact absurd (c0_build t ps) h0
  | buildSlice t n ps =>
    rw [hop] at h h1
    rcases cls_bslice (P := P) (ds := ds) t n ps with hx | ⟨m, hx⟩
    · exact absurd hx h1
    · rw [show trOp P ds (.buildSlice t n ps) = .no m from hx] at h
      cases h
  | load t x => rw [hop] at h0; revert h0; simp only [trOp]; (repeat' split) <;> (intro h0; exact absurd rfl h0)
  | nilCheck x => rw [hop] at h0; exact absurd rfl h0
  | binOp o' t x y => rw [hop] at h0; exact absurd (c0_bin o' t x y) h0
  | unOp o' t x => rw [hop] at h0; exact absurd rfl h0
  | makeInterface t x => rw [hop] at h0; revert h0; simp only [trOp]; (repeat' split) <;> (intro h0; exact absurd rfl h0)
  | makeFunc f x y => rw [hop] at h0; exact absurd rfl h0
  | makeMap t x =>
    cases x with
    | none => rw [hop] at h1; exact absurd rfl h1
    | some x => rw [hop] at h; cases h
  | makeSlice t x y =>
    rw [hop] at h h1
    rcases cls_mksl (P := P) (ds := ds) t x y with hx | ⟨m, hx⟩
    · exact absurd hx h1
    · rw [show trOp P ds (.makeSlice t x y) = .no m from hx] at h
      cases h
  | slice t x lo hi mx => rw [hop] at h0; revert h0; simp only [trOp]; unfold trSlice; (repeat' split) <;> (intro h0; exact absurd rfl h0)
  | fieldAddr t x f => rw [hop] at h0; revert h0; simp only [trOp]; unfold trFadr; (repeat' split) <;> (intro h0; exact absurd rfl h0)
  | field t x f => rw [hop] at h0; revert h0; simp only [trOp]; unfold trFld; (repeat' split) <;> (intro h0; exact absurd rfl h0)
  | indexAddr t x i => rw [hop] at h0; revert h0; simp only [trOp]; unfold trIxa; (repeat' split) <;> (intro h0; exact absurd rfl h0)
  | index t x i => rw [hop] at h0; revert h0; simp only [trOp]; unfold trIx; (repeat' split) <;> (intro h0; exact absurd rfl h0)
  | lookup t x i ok => rw [hop] at h0; revert h0; simp only [trOp]; unfold trLookup; (repeat' split) <;> (intro h0; exact absurd rfl h0)
  | typeAssert x xt t ok => rw [hop] at h0; exact absurd (c0_assert x t ok) h0
  | extract x i => rw [hop] at h0; exact absurd rfl h0
  | _ => rw [hop] at h; cases h
end Go.Ab
end

section
namespace Go.Ab
variable {β : Type} {P : Program} {ρ : Val} {E : Mem} {s : St} {w : World} {r : β} {k : Kv β}
variable {ds : List (Option Nat)} {ls : List AV} {fr : Fr} {a : Act} {call : CallT β}

/-! ### frames -/
/-- a deferred call -/
def DRel1 (ρ : Val) (E : Mem) (d : AV × List AV) (x : Deferred) : Prop := ∃ fn fst cap us ufst ucap, d.1 = .func fn fst cap ∧ cvs ρ E fst = some ufst ∧ cvs ρ E cap = some ucap ∧ cvs ρ E d.2 = some us ∧
  x = { target := .fn fn ucap.toArray, args := ufst.toArray ++ us.toArray }
inductive DRel (ρ : Val) (E : Mem) : List (AV × List AV) → List Deferred → Prop
  | nil : DRel ρ E [] []
  | col {p : Pos} {c : Nat} {l : List (AV × List AV)} {xs : List Deferred} : E.blk p = some (c, 0) → DRel ρ E l xs → DRel ρ E ((.yld p, []) :: l) ({ target := .collected c, args := #[] } :: xs)
  | cons {d : AV × List AV} {x : Deferred} {l : List (AV × List AV)} {xs : List Deferred} : DRel1 ρ E d x → DRel ρ E l xs → DRel ρ E (d :: l) (x :: xs)
structure FrRel (ρ : Val) (nt mask : Nat) (E : Mem) (fr : Fr) (a : Act) : Prop where
  size : a.tmps.size = nt
  val : ∀ t v, fr.tmps.get (posOf t) = some v → cv ρ E v = some (a.tmps.getD t undef)
  key : ∀ t v, fr.tmps.get (posOf t) = some v → mask.testBit t = true
  defs : DRel ρ E fr.defs a.defers
/-- the region's own values -/
def LRel (ρ : Val) (E : Mem) (ds : List (Option Nat)) (ls : List AV) (a : Act) : Prop :=
  ∀ t j v, findD t ds 0 = some j → nthL j ls = some v → cv ρ E v = some (a.tmps.getD t undef)
theorem DRel1.mono {E' : Mem} (hE : Mem.Le E E') {d : AV × List AV} {x : Deferred} (h : DRel1 ρ E d x) : DRel1 ρ E' d x := by
  obtain ⟨fn, fst, cap, us, ufst, ucap, h1, h2, h3, h4, h5⟩ := h
  exact ⟨fn, fst, cap, us, ufst, ucap, h1, cvs_mono hE h2, cvs_mono hE h3, cvs_mono hE h4, h5⟩
theorem DRel.mono {E' : Mem} (hE : Mem.Le E E') : ∀ {l : List (AV × List AV)} {xs : List Deferred}, DRel ρ E l xs → DRel ρ E' l xs
  | _, _, .nil => .nil
  | _, _, .col h h' => .col (hE.blk _ _ h) (h'.mono hE)
  | _, _, .cons h h' => .cons (h.mono hE) (h'.mono hE)
variable {nt mask : Nat}
theorem FrRel.mono {E' : Mem} (hE : Mem.Le E E') (h : FrRel ρ nt mask E fr a) : FrRel ρ nt mask E' fr a :=
  ⟨h.size, fun t v hv => cv_mono hE (h.val t v hv), h.key, h.defs.mono hE⟩
theorem LRel.mono {E' : Mem} (hE : Mem.Le E E') (h : LRel ρ E ds ls a) : LRel ρ E' ds ls a := fun t j v h1 h2 => cv_mono hE (h t j v h1 h2)
theorem undefA_cv : cv ρ E undefA = some undef := by simp [undefA, cv, cvs, undef]
theorem findD_ge : ∀ (t : Nat) (ds : List (Option Nat)) (n j : Nat), findD t ds n = some j → n ≤ j
  | t, [], n, j, h => by cases h
  | t, none :: ds, n, j, h => by have := findD_ge t ds (n + 1) j h; omega
  | t, some u :: ds, n, j, h => by
    have h' : (Bool.rec (motive := fun _ => Option Nat) (findD t ds (n + 1)) (some n) (Nat.beq u t)) = some j := h
    cases hb : Nat.beq u t with
    | true => rw [hb] at h'; cases h'; exact Nat.le_refl _
    | false => rw [hb] at h'; have := findD_ge t ds (n + 1) j h'; omega
theorem findD_shift : ∀ (t : Nat) (ds : List (Option Nat)) (n j : Nat), findD t ds (n + 1) = some j → ∃ j', j = j' + 1 ∧ findD t ds n = some j'
  | t, [], n, j, h => by cases h
  | t, none :: ds, n, j, h => findD_shift t ds (n + 1) j h
  | t, some u :: ds, n, j, h => by
    have h' : (Bool.rec (motive := fun _ => Option Nat) (findD t ds (n + 2)) (some (n + 1)) (Nat.beq u t)) = some j := h
    cases hb : Nat.beq u t with
    | true =>
      rw [hb] at h'; cases h'
      refine ⟨n, rfl, ?_⟩
      show (Bool.rec (motive := fun _ => Option Nat) (findD t ds (n + 1)) (some n) (Nat.beq u t)) = some n
      rw [hb]
    | false =>
      rw [hb] at h'
      obtain ⟨j', h1, h2⟩ := findD_shift t ds (n + 1) j h'
      refine ⟨j', h1, ?_⟩
      show (Bool.rec (motive := fun _ => Option Nat) (findD t ds (n + 1)) (some n) (Nat.beq u t)) = some j'
      rw [hb]
      exact h2
theorem nthL_succ (j : Nat) (v : AV) (ls : List AV) : nthL (j + 1) (v :: ls) = nthL j ls := rfl
/-- a value is yielded -/
theorem LRel.put {dst : Option Nat} {v : AV} {u : Value} (h : LRel ρ E ds ls a) (hv : cv ρ E v = some u) (hd : dstOk a.tmps.size dst = true) : LRel ρ E (dst :: ds) (v :: ls) (a.put dst u) := by
  intro t j x hj hx
  have skip : ∀ (a' : Act), findD t ds 1 = some j → a'.tmps.getD t undef = a.tmps.getD t undef → cv ρ E x = some (a'.tmps.getD t undef) := by
    intro a' hf he
    obtain ⟨j', rfl, hj'⟩ := findD_shift t ds 0 j hf
    rw [nthL_succ] at hx
    rw [he]
    exact h t j' x hj' hx
  cases dst with
  | none => exact skip _ hj rfl
  | some d =>
    have hj' : (Bool.rec (motive := fun _ => Option Nat) (findD t ds 1) (some 0) (Nat.beq d t)) = some j := hj
    cases hb : Nat.beq d t with
    | true =>
      rw [hb] at hj'; cases hj'
      have e : d = t := by simpa using hb
      subst e
      have hlt : d < a.tmps.size := by simpa [dstOk] using hd
      simp only [nthL_eq, List.getElem?_cons_zero, Option.some.injEq] at hx
      subst hx
      simp [Act.put, hlt, hv]
    | false =>
      rw [hb] at hj'
      have e : d ≠ t := by intro e; subst e; simp at hb
      refine skip _ hj' ?_
      simp [Act.put, Array.getD_eq_getD_getElem?, Array.getElem?_setIfInBounds, e]
theorem Act.put_size (a : Act) (dst : Option Nat) (u : Value) : (a.put dst u).tmps.size = a.tmps.size := by cases dst <;> simp [Act.put]
theorem Act.put_defers (a : Act) (dst : Option Nat) (u : Value) : (a.put dst u).defers = a.defers := by cases dst <;> simp [Act.put]
theorem FrRel.put {dst : Option Nat} {v : AV} {u : Value} (h : FrRel ρ nt mask E fr a) (hv : cv ρ E v = some u) (hd : dstOk nt dst = true) : FrRel ρ nt mask E (fr.store (trDst mask dst) v) (a.put dst u) := by
  cases dst with
  | none => exact h
  | some d =>
    have hlt : d < a.tmps.size := by rw [h.size]; simpa [dstOk] using hd
    have hother : ∀ t, t ≠ d → (a.put (some d) u).tmps.getD t undef = a.tmps.getD t undef := fun t ht => by
      simp [Act.put, Array.getD_eq_getD_getElem?, Array.getElem?_setIfInBounds, Ne.symm ht]
    cases hm : Nat.testBit mask d with
    | false =>
      have hst : fr.store (trDst mask (some d)) v = fr := by simp [trDst, hm, Fr.store]
      rw [hst]
      refine ⟨by rw [Act.put_size]; exact h.size, fun t x hx => ?_, h.key, by rw [Act.put_defers]; exact h.defs⟩
      rw [hother t (fun e => by subst e; have := h.key t x hx; rw [hm] at this; cases this)]
      exact h.val t x hx
    | true =>
      have hst : fr.store (trDst mask (some d)) v = ⟨fr.tmps.put (posOf d) (some v), fr.defs⟩ := by simp [trDst, hm, Fr.store]
      rw [hst]
      refine ⟨by rw [Act.put_size]; exact h.size, fun t x hx => ?_, fun t x hx => ?_, by rw [Act.put_defers]; exact h.defs⟩
      · simp only [Trie.get_put] at hx
        by_cases e : posOf t = posOf d
        · rw [if_pos e] at hx
          have := posOf_inj e
          subst this
          cases hx
          simp [Act.put, hlt, hv]
        · rw [if_neg e] at hx
          rw [hother t (fun e' => e (by rw [e']))]
          exact h.val t x hx
      · simp only [Trie.get_put] at hx
        by_cases e : posOf t = posOf d
        · rw [posOf_inj e]; exact hm
        · rw [if_neg e] at hx; exact h.key t x hx
theorem cstArg_ok {v : Value} {x : AV} (h : argV (cstArg (abst v)) ls fr = some x) : cv ρ E x = some v := by
  unfold cstArg at h
  cases hc : closedF 8 (abst v) with
  | false => rw [hc] at h; cases h
  | true =>
    rw [hc] at h
    cases h
    obtain ⟨u, hu⟩ := closedF_cv (ρ := ρ) (E := E) 8 hc
    rw [hu, abst_cv hu]
theorem res_of (hf : FrRel ρ nt mask E fr a) (hl : LRel ρ E ds ls a) : Res ρ E ds ls fr a := by
  intro x v hv
  cases x with
  | tmp t =>
    unfold trArg at hv
    simp only at hv
    cases hj : findD t ds 0 with
    | some j => rw [hj] at hv; exact hl t j v hj hv
    | none => rw [hj] at hv; exact hf.val t v hv
  | const c => exact cstArg_ok hv
  | global g => cases hv
  | func f => cases hv; simp [cv, cvs, Act.eval]

/-! ### a guard -/
theorem guardV_ok {ops : Array Oper} {j : Nat} {want : Bool} {t : Nat} {v : AV} {f : Bool → St → Tree β} (ht : (ops[j]?).bind (·.dst) = some t) (hlt : t < a.tmps.size) (hv : cv ρ E v = some (a.tmps.getD t undef)) (ha : AsmOk ρ s.asm) (h : (guardV v want s f).run ρ = some r) :
    ∃ b s', More ρ s s' ∧ (f b s').run ρ = some r ∧ b = (yielded ops a.tmps j == some want) := by
  have hget : a.tmps[t]? = some (a.tmps.getD t undef) := by
    rw [Array.getD_eq_getD_getElem?, Array.getElem?_eq_getElem hlt]; rfl
  have hy : ((ops[j]?).bind (·.dst)).bind (a.tmps[·]?) = some (a.tmps.getD t undef) := by rw [ht]; exact hget
  rcases run_ifB h with ⟨hb, h⟩ | ⟨_, h⟩
  · refine ⟨false, s, .refl ha, h, ?_⟩
    obtain ⟨vs, hvs⟩ := Option.isSome_iff_exists.1 hb
    rw [asTup_eq hvs] at hv
    simp only [cv, Option.map_eq_some_iff] at hv
    obtain ⟨us, _, hu⟩ := hv
    unfold yielded
    rw [hy, ← hu]
    rfl
  · obtain ⟨b, s', hb, hm, h⟩ := run_onBool (E := E) ha h
    rw [hb] at hv
    simp only [Option.some.injEq] at hv
    refine ⟨_, s', hm, h, ?_⟩
    unfold yielded
    rw [hy, ← hv]
    cases b <;> cases want <;> rfl
end Go.Ab
end

section
namespace Go.Ab
variable {β : Type} {P : Program} {ρ : Val} {E : Mem} {s : St} {w : World} {r : β} {k : Kv β}
variable {ds : List (Option Nat)} {ls : List AV} {fr : Fr} {a : Act} {call : CallT β} {nt mask : Nat}

theorem trGuard_some {ops : Array Oper} {g : Option (Nat × Bool)} {x : Option (Nat × Bool)} (h : trGuard ops ds g = some x) :
    (g = none ∧ x = none) ∨ ∃ j want t i, g = some (j, want) ∧ (ops[j]?).bind (·.dst) = some t ∧ findD t ds 0 = some i ∧ x = some (i, want) := by
  cases g with
  | none => simp [trGuard] at h; exact .inl ⟨rfl, h.symm⟩
  | some g =>
    obtain ⟨j, want⟩ := g
    right
    simp only [trGuard] at h
    cases ht : (ops[j]?).bind (·.dst) with
    | none => rw [ht] at h; cases h
    | some t =>
      rw [ht] at h
      simp only [Option.map_eq_some_iff] at h
      obtain ⟨i, hi, rfl⟩ := h
      exact ⟨j, want, t, i, rfl, ht, hi, rfl⟩
theorem findD_lt : ∀ (t : Nat) (ds : List (Option Nat)) (n i : Nat), findD t ds n = some i → ∃ d ∈ ds, d = some t
  | t, [], n, i, h => by cases h
  | t, none :: ds, n, i, h => by
    obtain ⟨d, hd, e⟩ := findD_lt t ds (n + 1) i h
    exact ⟨d, List.mem_cons_of_mem _ hd, e⟩
  | t, some u :: ds, n, i, h => by
    have h' : (Bool.rec (motive := fun _ => Option Nat) (findD t ds (n + 1)) (some n) (Nat.beq u t)) = some i := h
    cases hb : Nat.beq u t with
    | true => exact ⟨some u, List.mem_cons_self .., by rw [show u = t from by simpa using hb]⟩
    | false =>
      rw [hb] at h'
      obtain ⟨d, hd, e⟩ := findD_lt t ds (n + 1) i h'
      exact ⟨d, List.mem_cons_of_mem _ hd, e⟩
/-- the temporaries that a region has defined lie in the frame -/
def DsOk (nt : Nat) (ds : List (Option Nat)) : Prop := ∀ d ∈ ds, dstOk nt d = true
theorem DsOk.lt {t i : Nat} (h : DsOk nt ds) (hf : findD t ds 0 = some i) : t < nt := by
  obtain ⟨d, hd, rfl⟩ := findD_lt t ds 0 i hf
  simpa [dstOk] using h _ hd
/-- the operation's own part -/
theorem runOp_ok {rd : Option Nat} {o : Oper} {ao : AOper} {ih : List AV → Fr → St → Tree β} {Q : Exit → Act → World → Prop} {K : Act → World → Prop} (hrd : rd = none ∨ opPlain o = true) (hao : ao = ⟨trDst mask o.dst, ao.guard, trOp P ds o.op, isDefer o.op⟩) (hd : dstOk nt o.dst = true) (hc : CallOk P call) (hr : HRel ρ E s w) (hf : FrRel ρ nt mask E fr a)
    (hl : LRel ρ E ds ls a) (h : (runOp P call ao ih ls fr s).run ρ = some r)
    (hK : ∀ ls' fr' s' E' a' w', (ih ls' fr' s').run ρ = some r → Step E s w E' s' w' → HRel ρ E' s' w' → FrRel ρ nt mask E' fr' a' → LRel ρ E' (o.dst :: ds) ls' a' → K a' w') : o.wpIn (Fw rd) 0 P a w K Q := by
  have hres := res_of hf hl
  rw [hao] at h
  rcases run_ifB h with ⟨hb, h⟩ | ⟨hb, h⟩
  · obtain ⟨d, hd', h⟩ := run_onSome h
    obtain ⟨dst, op, ty, pos, af, gd⟩ := o
    have hb : isDefer op = true := hb
    have hop : ∃ c, op = .defer c := by cases op <;> first | (cases hb; done) | exact ⟨_, rfl⟩
    obtain ⟨⟨cal, args, tys⟩, hop⟩ := hop
    subst hop
    cases cal with
    | invoke _ _ => cases hd'
    | builtin _ => cases hd'
    | value f =>
      cases hd'
      obtain ⟨vf, hvf, h⟩ := run_onArg hres h
      obtain ⟨fv, hfv, h⟩ := run_onSome h
      obtain ⟨vs, hvs, h⟩ := run_onArgs hres h
      have hfe := asFn_eq hfv
      rw [hfe] at hvf
      simp only [cv, Option.bind_eq_some_iff, Option.map_eq_some_iff] at hvf
      obtain ⟨us, hus, uc, huc, hx⟩ := hvf
      have hrun : (execOp a.eval { dst := dst, op := .defer { callee := .value f, args := args, argTypes := tys }, type := ty, pos := pos, after := af, guard := gd }).run P w =
          .ok (.defer { target := .fn fv.fn uc.toArray, args := us.toArray ++ (args.map a.eval).toList.toArray }) w := by
        simp [execOp, resolve, Deferred.ofValue, ← hx]
      have hrd : rd = none := by
        rcases hrd with h | h
        · exact h
        · cases h
      subst hrd
      refine ⟨fun f _ => fw_fn none f, ?_⟩
      have hs : Oper.semAt (Fw none).round a.eval { dst := dst, op := .defer { callee := .value f, args := args, argTypes := tys }, type := ty, pos := pos, after := af, guard := gd } = execOp a.eval { dst := dst, op := .defer { callee := .value f, args := args, argTypes := tys }, type := ty, pos := pos, after := af, guard := gd } := rfl
      rw [hs, hrun, Oper.uponIn_defer]
      have hput : ({ a with defers := { target := .fn fv.fn uc.toArray, args := us.toArray ++ (args.map a.eval).toList.toArray } :: a.defers } : Act).put dst undef =
          { a.put dst undef with defers := { target := .fn fv.fn uc.toArray, args := us.toArray ++ (args.map a.eval).toList.toArray } :: a.defers } := by cases dst <;> rfl
      simp only
      rw [hput]
      have hf2 := hf.put (dst := dst) undefA_cv hd
      refine hK _ _ _ E _ _ h (.refl ..) hr ⟨hf2.size, hf2.val, hf2.key, ?_⟩ (fun t j v h1 h2 => ?_)
      · refine .cons ⟨fv.fn, fv.first, fv.cap, _, us, uc, hfe, hus, huc, hvs, rfl⟩ ?_
        have := hf2.defs
        rw [Act.put_defers] at this
        exact hf.defs
      · exact hl.put (dst := dst) undefA_cv (by rw [hf.size]; exact hd) t j v h1 h2
  · have hb : isDefer o.op = false := hb
    have her := op_ok hres hc hr hb h
    refine Yields.wpIn (rd := rd) (.inr (fun c hc => by rw [hc] at hb; cases hb)) her fun u w' ⟨v, s', E', hv, hst, hr', hk⟩ => ?_
    exact hK _ _ _ E' _ _ hk hst hr' ((hf.mono hst.le).put hv hd) ((hl.mono hst.le).put hv (by rw [hf.size]; exact hd))
theorem region_ok {rd : Option Nat} {ops : Array Oper} {Q : Exit → Act → World → Prop} {K : Fr → St → Tree β} (hrd : rd = none ∨ ops.toList.all opPlain = true) (hc : CallOk P call) : ∀ (l : List Oper) (pre : List Oper) (hops : ops.toList = pre ++ l) (ds : List (Option Nat)) (ls : List AV) (fr : Fr) (s : St) (E : Mem) (w : World) (a : Act),
    (runR P call (trOps P nt mask ops l ds) K ls fr s).run ρ = some r → HRel ρ E s w → FrRel ρ nt mask E fr a → LRel ρ E ds ls a → DsOk nt ds →
    (∀ fr' s' E' w' a', (K fr' s').run ρ = some r → Step E s w E' s' w' → HRel ρ E' s' w' → FrRel ρ nt mask E' fr' a' → Q .normal a' w') →
    wpOpsIn (Fw rd) 0 P ops Q (List.range' pre.length l.length) a w
  | [], pre, hops, ds, ls, fr, s, E, w, a, h, hr, hf, hl, hds, hK => by
    show Q .normal a w
    exact hK fr s E w a h (.refl ..) hr hf
  | o :: l, pre, hops, ds, ls, fr, s, E, w, a, h, hr, hf, hl, hds, hK => by
    have hoi : ops[pre.length]? = some o := by
      rw [← Array.getElem?_toList, hops]; simp
    have hrange : List.range' pre.length (o :: l).length = pre.length :: List.range' (pre ++ [o]).length l.length := by
      simp [List.range'_succ]
    rw [hrange, wpOpsIn_cons]
    unfold wpOpIn
    rw [hoi]
    simp only
    have hplain : rd = none ∨ opPlain o = true := hrd.imp id fun h => List.all_eq_true.1 h o (by rw [hops]; simp)
    have hR : (runR P call (trOps P nt mask ops (o :: l) ds) K ls fr s) = runR1 P call (trOper P nt mask ops ds o) (trOps P nt mask ops l (o.dst :: ds)) (runR P call (trOps P nt mask ops l (o.dst :: ds)) K) ls fr s := rfl
    rw [hR] at h
    unfold trOper at h
    cases hd : dstOk nt o.dst with
    | false =>
      rw [hd] at h
      rcases run_onSomeOr h with ⟨_, hg, _⟩ | ⟨_, h⟩
      · cases hg
      · cases h
    | true =>
    rw [hd] at h
    simp only [cond_true] at h
    have hds' : DsOk nt (o.dst :: ds) := fun d hd' => by
      rcases List.mem_cons.1 hd' with rfl | hd'
      · exact hd
      · exact hds d hd'
    have hnext : ∀ {s0 : St} {ls' : List AV} {fr' : Fr} {s' : St} {E' : Mem} {a' : Act} {w' : World}, (runR P call (trOps P nt mask ops l (o.dst :: ds)) K ls' fr' s').run ρ = some r → Step E s w E' s' w' → HRel ρ E' s' w' → FrRel ρ nt mask E' fr' a' →
        LRel ρ E' (o.dst :: ds) ls' a' → wpOpsIn (Fw rd) 0 P ops Q (List.range' (pre ++ [o]).length l.length) a' w' := by
      intro _ ls' fr' s' E' a' w' h' hst hr' hf' hl'
      refine region_ok hrd hc l (pre ++ [o]) (by rw [hops]; simp) (o.dst :: ds) ls' fr' s' E' w' a' h' hr' hf' hl' hds' ?_
      intro fr2 s2 E2 w2 a2 h2 hst2 hr2 hf2
      exact hK fr2 s2 E2 w2 a2 h2 (hst.trans hst2) hr2 hf2
    cases hg : trGuard ops ds o.guard with
    | none =>
      rw [hg] at h
      rcases run_onSomeOr h with ⟨_, hg', _⟩ | ⟨_, h⟩
      · cases hg'
      · cases h
    | some g =>
      rw [hg] at h
      rcases trGuard_some hg with ⟨hgn, rfl⟩ | ⟨j, want, t, i, hgs, ht, hi, rfl⟩
      · rcases run_onSomeOr h with ⟨_, hg', _⟩ | ⟨_, h⟩
        · cases hg'
        have hw : Region.wanted o (yielded ops a.tmps) = true := by simp [Region.wanted, hgn]
        rw [if_pos hw]
        exact (runOp_ok hplain (ao := ⟨trDst mask o.dst, none, trOp P ds o.op, isDefer o.op⟩) rfl hd hc hr hf hl h fun ls' fr' s' E' a' w' h' hst hr' hf' hl' => hnext (s0 := s) h' hst hr' hf' hl')
      · rcases run_onSomeOr h with ⟨g', hg', h⟩ | ⟨hno, _⟩
        case inr => cases hno
        cases hg'
        obtain ⟨v, hv, h⟩ := run_onSome h
        have hlt : t < a.tmps.size := by rw [hf.size]; exact hds.lt hi
        obtain ⟨b, s', hm, h, hb⟩ := guardV_ok (ops := ops) (a := a) (E := E) ht hlt (hl t i v hi hv) hr.asm h
        have hwant : Region.wanted o (yielded ops a.tmps) = b := by simp [Region.wanted, hgs, hb]
        rw [hwant]
        have hr' := hr.more hm
        have hst0 : Step E s w E s' w := .more hm
        rcases run_ifB h with ⟨hbt, h⟩ | ⟨hbf, h⟩
        · rw [if_pos hbt]
          exact (runOp_ok hplain (ao := ⟨trDst mask o.dst, some (i, want), trOp P ds o.op, isDefer o.op⟩) rfl hd hc hr' hf hl h fun ls' fr' s'' E' a' w' h' hst hr'' hf' hl' => hnext (s0 := s) h' (hst0.trans hst) hr'' hf' hl')
        · rw [if_neg (by rw [hbf]; simp)]
          exact ⟨fun f _ => fw_fn rd f, hnext (s0 := s) h hst0 hr' (hf.put undefA_cv hd) (hl.put undefA_cv (by rw [hf.size]; exact hd))⟩
end Go.Ab
end

section
namespace Go.Ab
variable {β : Type} {P : Program} {ρ : Val} {E : Mem} {s : St} {w : World} {r : β} {k : Kv β}
variable {ds : List (Option Nat)} {ls : List AV} {fr : Fr} {a : Act} {call : CallT β} {nt mask : Nat}

def exA : AExit → Exit
  | .norm => .normal
  | .ret => .ret
  | .exit id => .exit id
  | .goto l => .goto l
/-- where a run of code comes to -/
def Post (ρ : Val) (nt mask : Nat) (E : Mem) (s : St) (w : World) (k : Kx β) (r : β) : Exit → Act → World → Prop :=
  fun e a' w' => ∃ ae fr' s' E', e = exA ae ∧ (k ae fr' s').run ρ = some r ∧ Step E s w E' s' w' ∧ HRel ρ E' s' w' ∧ FrRel ρ nt mask E' fr' a'
theorem Post.step {E' : Mem} {s' : St} {w' : World} {kx : Kx β} (hst : Step E s w E' s' w') {e : Exit} {a' : Act} {w'' : World} (h : Post ρ nt mask E' s' w' kx r e a' w'') : Post ρ nt mask E s w kx r e a' w'' := by
  obtain ⟨ae, fr', s2, E2, h1, h2, h3, h4, h5⟩ := h
  exact ⟨ae, fr', s2, E2, h1, h2, hst.trans h3, h4, h5⟩
/-- the region that draws its order -/
def DrawSound (P : Program) : Prop := ∀ (β : Type) (ρ : Val) (cd : CallT (AV × St)) (nt mask id : Nat) (ops : Array Oper) (fr : Fr) (s : St) (E : Mem) (w : World) (a : Act) (r : β) (K : Fr → St → Tree β) (Q : Exit → Act → World → Prop) (rd : Option Nat), CallOk P cd →
  drawOk ops (trOps P nt mask ops ops.toList []) = true → (doD P cd (trOps P nt mask ops ops.toList []) (winsOf ops (trOps P nt mask ops ops.toList [])) fr s K).run ρ = some r → HRel ρ E s w → FrRel ρ nt mask E fr a →
  (∀ fr' s' E' w' a', (K fr' s').run ρ = some r → Step E s w E' s' w' → HRel ρ E' s' w' → FrRel ρ nt mask E' fr' a' → Q .normal a' w') → (Code.region id ops true).wpIn (Fw rd) 0 P Q a w
/-- code with a scope around it -/
def ScopeRun (P : Program) (c x : Code) (Q : Exit → Act → World → Prop) (a : Act) (w : World) : Prop :=
  ∀ (b : Frame) (k : List Item) (cs : List Frame), ∃ e a' w', Q e a' w' ∧ Arrives P (lone (b.at a (.code x :: .inScope c :: k)) cs w) b k cs e a' w'
def LoopRun (P : Program) (rd : Option Nat) (c : Code) (Q : Exit → Act → World → Prop) (a : Act) (w : World) : Prop :=
  ∀ (b : Frame) (k : List Item) (cs : List Frame), b.roundOf = (Fw rd).round → ∃ e a' w', Q e a' w' ∧ ArrivesIn (Machine.fenced P (Fw rd)) P (lone (b.atR a (.code c :: .inLoop c :: k)) cs w) b k cs e a' w'
theorem LoopRun.wpIn {rd : Option Nat} {c : Code} {Q : Exit → Act → World → Prop} (h : LoopRun P rd c Q a w) : (Code.loop c).wpIn (Fw rd) 0 P Q a w := by
  intro b k cs hro hb hr
  obtain ⟨e, a', w', hq, harr⟩ := h b k cs hro
  exact ⟨e, a', w', hq, .of_steps (.one (fenced_calm hb hr rfl) stepR_loop) harr⟩
theorem LoopRun.mk {rd : Option Nat} {c : Code} {Q : Exit → Act → World → Prop} (h : c.wpIn (Fw rd) 0 P (Exit.then (fun a w => LoopRun P rd c Q a w) Q) a w) : LoopRun P rd c Q a w := by
  intro b k cs hro
  have hb : (Fw rd).fn b.fn := fw_fn rd _
  have hr : (Fw rd).room (cs.length + 1 + 0) := fw_room rd _
  obtain ⟨e, a₁, w₁, hq, harr⟩ := h b (.inLoop c :: k) cs hro hb hr
  cases e with
  | normal =>
    obtain ⟨e₂, a₂, w₂, hq₂, harr₂⟩ := hq b k cs hro
    exact ⟨e₂, a₂, w₂, hq₂, .of_steps (StepsIn.trans harr (.one (fenced_calm hb hr rfl) stepR_inLoop)) harr₂⟩
  | exit id => exact ⟨_, a₁, w₁, hq, .pass (x := .inLoop c) rfl (fun _ _ => .inl (by simp)) harr⟩
  | goto l => exact ⟨_, a₁, w₁, hq, .pass (x := .inLoop c) rfl (fun _ _ => .inl (by simp)) harr⟩
  | ret => exact ⟨_, a₁, w₁, hq, .pass (x := .inLoop c) rfl (fun _ _ => .inl (by simp)) harr⟩
  | panic ch => exact ⟨_, a₁, w₁, hq, .pass (x := .inLoop c) rfl (fun _ _ => .inl (by simp)) harr⟩
  | outgrown => exact ⟨_, a₁, w₁, hq, .pass (x := .inLoop c) rfl (fun _ _ => .inl (by simp)) harr⟩
theorem ScopeRun.wp {c : Code} {Q : Exit → Act → World → Prop} (h : ScopeRun P c c Q a w) : (Code.scope c).wp P Q a w := by
  intro b k cs
  obtain ⟨e, a', w', hq, harr⟩ := h b k cs
  exact ⟨e, a', w', hq, .of_steps (.one step_scope) harr⟩
/-- what must hold where the inner code of a scope ends -/
def ScopePost (P : Program) (c : Code) (Q : Exit → Act → World → Prop) : Exit → Act → World → Prop
  | .goto l, a, w => (∃ rest, findLabel c l = some rest ∧ ScopeRun P c rest Q a w) ∨ (findLabel c l = none ∧ Q (.goto l) a w)
  | e, a, w => Q e a w
theorem ScopeRun.mk {c x : Code} {Q : Exit → Act → World → Prop} (h : x.wp P (ScopePost P c Q) a w) : ScopeRun P c x Q a w := by
  intro b k cs
  obtain ⟨e, a₁, w₁, hq, harr⟩ := h b (.inScope c :: k) cs
  cases e with
  | normal => exact ⟨.normal, a₁, w₁, hq, Steps.trans harr (.one step_inScope)⟩
  | exit id => exact ⟨.exit id, a₁, w₁, hq, fun k' hk => harr k' (by simp [exitTo, hk])⟩
  | goto l =>
    rcases hq with ⟨rest, hf, hq⟩ | ⟨hf, hq⟩
    · obtain ⟨e₂, a₂, w₂, hq₂, harr₂⟩ := hq b k cs
      exact ⟨e₂, a₂, w₂, hq₂, .of_steps (harr _ (by simp [gotoIn, hf])) harr₂⟩
    · exact ⟨.goto l, a₁, w₁, hq, fun k' hk => harr k' (by simp [gotoIn, hf, hk])⟩
  | ret => exact ⟨_, a₁, w₁, hq, harr⟩
  | panic ch => exact ⟨_, a₁, w₁, hq, harr⟩
  | outgrown => exact ⟨_, a₁, w₁, hq, harr⟩

variable {C : Ctx} {cd : CallT (AV × St)}
/-- the executor's statement for one amount of fuel -/
structure ExOk (P : Program) (X : Ex β) : Prop where
  code : ∀ (rd : Option Nat) (ρ : Val) (nt mask : Nat) (c : Code) (fr : Fr) (s : St) (k : Kx β) (r : β) (E : Mem) (w : World) (a : Act), (rd = none ∨ rok c = true) → nt < 65536 → (X (tr P nt mask c) fr s k).run ρ = some r → HRel ρ E s w → FrRel ρ nt mask E fr a → c.wpIn (Fw rd) 0 P (Post ρ nt mask E s w k r) a w
  loop : ∀ (rd : Option Nat) (ρ : Val) (nt mask : Nat) (c : Code) (fr : Fr) (s : St) (k : Kx β) (r : β) (E : Mem) (w : World) (a : Act), (rd = none ∨ rok c = true) → nt < 65536 → (X (.loop (tr P nt mask c)) fr s k).run ρ = some r → HRel ρ E s w → FrRel ρ nt mask E fr a → LoopRun P rd c (Post ρ nt mask E s w k r) a w
  scope : ∀ (ρ : Val) (nt mask : Nat) (c x : Code) (fr : Fr) (s : St) (k : Kx β) (r : β) (E : Mem) (w : World) (a : Act), nt < 65536 → (X (.scope (nt + 65536 * mask) c (tr P nt mask x)) fr s k).run ρ = some r → HRel ρ E s w → FrRel ρ nt mask E fr a → ScopeRun P c x (Post ρ nt mask E s w k r) a w
theorem LRel.nil : LRel ρ E [] [] a := fun _ _ _ h _ => by cases h
theorem tr_scope (c : Code) : tr P nt mask (.scope c) = .scope (nt + 65536 * mask) c (tr P nt mask c) := rfl
section
variable {X : Ex β} (hX : ExOk P X) (hcall : CallOk P (callA C X)) (hcd : CallOk P cd) (hdraw : DrawSound P) (htr : ∀ m c, C.trCode m c = tr P (m % 65536) (m / 65536) c)
include hX
/-- a sequence, a loop: what follows -/
theorem after_ok {q : Kx β} {b : AC} {kx : Kx β} {Q : Exit → Act → World → Prop} {next : Act → World → Prop} (hq : q = afterSeq X b kx)
    (hn : ∀ fr' s' E' w' a', (X b fr' s' kx).run ρ = some r → Step E s w E' s' w' → HRel ρ E' s' w' → FrRel ρ nt mask E' fr' a' → next a' w')
    {e : Exit} {a' : Act} {w' : World} (h : Post ρ nt mask E s w q r e a' w') : Exit.then next (Post ρ nt mask E s w kx r) e a' w' := by
  obtain ⟨ae, fr', s', E', rfl, hk, hst, hr, hf⟩ := h
  subst hq
  cases ae with
  | norm => exact hn fr' s' E' w' a' hk hst hr hf
  | ret => exact ⟨.ret, fr', s', E', rfl, hk, hst, hr, hf⟩
  | exit id => exact ⟨.exit id, fr', s', E', rfl, hk, hst, hr, hf⟩
  | goto l => exact ⟨.goto l, fr', s', E', rfl, hk, hst, hr, hf⟩
theorem ex_loop {rd : Option Nat} {c : Code} (hrd : rd = none ∨ rok c = true) (hnt : nt < 65536) {kx : Kx β} (h : (ex1 P C cd (.loop (tr P nt mask c)) X fr s kx).run ρ = some r) (hr : HRel ρ E s w) (hf : FrRel ρ nt mask E fr a) : LoopRun P rd c (Post ρ nt mask E s w kx r) a w := by
  have h : (X (tr P nt mask c) fr s (afterSeq X (.loop (tr P nt mask c)) kx)).run ρ = some r := h
  refine .mk (wpIn_mono (hX.code rd ρ nt mask c fr s _ r E w a hrd hnt h hr hf) fun e a' w' hp => ?_)
  refine after_ok hX (Q := Post ρ nt mask E s w kx r) rfl (fun fr' s' E' w' a' h' hst hr' hf' => ?_) hp
  intro b k cs hro
  obtain ⟨e, a2, w2, hq, harr⟩ := hX.loop rd ρ nt mask c fr' s' kx r E' w' a' hrd hnt h' hr' hf' b k cs hro
  exact ⟨e, a2, w2, hq.step hst, harr⟩
include htr
theorem ex_scope (hnt : nt < 65536) {c x : Code} {kx : Kx β} (h : (ex1 P C cd (.scope (nt + 65536 * mask) c (tr P nt mask x)) X fr s kx).run ρ = some r) (hr : HRel ρ E s w) (hf : FrRel ρ nt mask E fr a) : ScopeRun P c x (Post ρ nt mask E s w kx r) a w := by
  have h : (X (tr P nt mask x) fr s (afterScope C X (nt + 65536 * mask) c kx)).run ρ = some r := h
  refine .mk (wp_mono (wpIn_wide.1 (hX.code none ρ nt mask x fr s _ r E w a (.inl rfl) hnt h hr hf)) fun e a' w' hp => ?_)
  obtain ⟨ae, fr', s', E', rfl, hk, hst, hr', hf'⟩ := hp
  cases ae with
  | norm => exact ⟨.norm, fr', s', E', rfl, hk, hst, hr', hf'⟩
  | ret => exact ⟨.ret, fr', s', E', rfl, hk, hst, hr', hf'⟩
  | exit id => exact ⟨.exit id, fr', s', E', rfl, hk, hst, hr', hf'⟩
  | goto l =>
    rcases run_onSomeOr (k := fun rest => X (.scope (nt + 65536 * mask) c (C.trCode (nt + 65536 * mask) rest)) fr' s' kx) hk with ⟨rest, hrest, hk⟩ | ⟨hno, hk⟩
    · refine .inl ⟨rest, hrest, ?_⟩
      rw [htr] at hk
      have h1 : (nt + 65536 * mask) % 65536 = nt := by omega
      have h2 : (nt + 65536 * mask) / 65536 = mask := by omega
      rw [h1, h2] at hk
      intro b k cs
      obtain ⟨e, a2, w2, hq, harr⟩ := hX.scope ρ nt mask c rest fr' s' kx r E' w' a' hnt hk hr' hf' b k cs
      exact ⟨e, a2, w2, hq.step hst, harr⟩
    · exact .inr ⟨hno, .goto l, fr', s', E', rfl, hk, hst, hr', hf'⟩
include hcall hcd hdraw
theorem rng_ok (hnt : nt < 65536) {f : Operand} {ps : Array Tmp} {ac bc : Code} {kx : Kx β} (h : (xRng C (trArg [] f) ps.toList (nt + 65536 * mask) ac bc X fr s kx).run ρ = some r) (hr : HRel ρ E s w) (hf : FrRel ρ nt mask E fr a) :
    (Code.rangeFunc f ps ac bc).wpIn (Fw none) 0 P (Post ρ nt mask E s w kx r) a w := by
  obtain ⟨fv, hfv, h⟩ := run_onArg (res_of (ds := []) hf LRel.nil) h
  obtain ⟨v, hv, h⟩ := run_onSome h
  obtain ⟨g, hg, h⟩ := run_onSome h
  obtain ⟨hgy, h⟩ := run_callN h
  have hfe := asFn_eq hv
  obtain ⟨fn0, fst, cap⟩ := v
  have hfn : fn0 = .func g := by cases fn0 <;> simp [Fn.asFunc] at hg; subst hg; rfl
  subst hfn
  rw [hfe] at hfv
  simp only [cv, Option.bind_eq_some_iff, Option.map_eq_some_iff] at hfv
  obtain ⟨us, hus, uc, huc, hx⟩ := hfv
  -- the two blocks
  have hn1 : (E.add s.next w.heap.size 0).blk s.next = some (w.heap.size, 0) := by simp [Mem.add]
  obtain ⟨hr1, hs1⟩ := hr.alloc (.dfr true) (.deferred (some [])) 0 ⟨_, 0, hn1, rfl, heap_alloc_new w _⟩
  let R : Loop := { state := .ready, pending := none, fn := 0, tmps := a.tmps, params := ps, assign := ac, body := bc, defers := w.heap.size }
  refine wpIn_rangeFunc fun fid _ => ?_
  let R2 : Loop := { state := .ready, pending := none, fn := fid, tmps := a.tmps, params := ps, assign := ac, body := bc, defers := w.heap.size }
  have hs1n : (s.new (.dfr true)).next = s.next.succ := rfl
  have hn2 : ((E.add s.next w.heap.size 0).add s.next.succ (w.heap.size + 1) 0).blk s.next.succ = some (w.heap.size + 1, 0) := by simp [Mem.add]
  have hsz : (w.alloc (.deferred (some []))).heap.size = w.heap.size + 1 := by
    show (w.heap.push _).size = _
    simp
  have hf1 := hf.mono hs1.le
  have hle2 : Mem.Le (E.add s.next w.heap.size 0) ((E.add s.next w.heap.size 0).add s.next.succ (w.alloc (.deferred (some []))).heap.size 0) := Mem.le_addAt (free_next hr1)
  have hf2 := hf1.mono hle2
  have hdm : (nt + 65536 * mask) % 65536 = nt := by omega
  have hdd : (nt + 65536 * mask) / 65536 = mask := by omega
  obtain ⟨hr2, hs2⟩ := hr1.alloc (.lrec .ready (nt + 65536 * mask) fr.tmps ps.toList ac bc) (.loop R2) 0 (by
    rw [hs1n]
    refine ⟨w.heap.size + 1, 0, R2, ?_, rfl, ?_, ⟨rfl, rfl, ?_, ?_, ?_, by simp [R2], rfl, rfl⟩⟩
    · rw [hsz]; exact hn2
    · have := heap_alloc_new (w.alloc (.deferred (some []))) (.loop R2)
      rw [hsz] at this; exact this
    · rw [hdm]; exact hf.size
    · exact fun t v hv => hf2.val t v hv
    · rw [hdd]; exact hf.key)
  rw [hs1n, hsz] at hr2 hs2
  have hst := hs1.trans hs2
  have hyld : cv ρ ((E.add s.next w.heap.size 0).add s.next.succ (w.heap.size + 1) 0) (.yld s.next.succ) = some (.func (.yield (w.heap.size + 1)) #[] #[]) := by simp [cv, hn2]
  have hall : cvs ρ ((E.add s.next w.heap.size 0).add s.next.succ (w.heap.size + 1) 0) (fst ++ [.yld s.next.succ] ++ cap) = some (us ++ [.func (.yield (w.heap.size + 1)) #[] #[]] ++ uc) :=
    cvs_append (cvs_append (cvs_mono hst.le hus) (by simp [cvs, hyld])) (cvs_mono hst.le huc)
  obtain ⟨henter, hcalls⟩ := hcall.fn ρ r g _ _ _ _ _ _ hgy h hr2 hall
  refine ⟨w.heap.size + 1, [{ target := .collected w.heap.size, args := #[] }], (w.alloc (.deferred (some []))).alloc (.loop R2), { target := .fn (.func g) uc.toArray, args := us.toArray ++ #[.func (.yield (w.heap.size + 1)) #[] #[]] }, (w.alloc (.deferred (some []))).alloc (.loop R2), g, _, (w.alloc (.deferred (some []))).alloc (.loop R2), ?_, ?_, fun f' _ => fw_fn none f', ?_, fun hd => (by rw [fw_depth] at hd; cases hd), fw_calls (hcalls.mono ?_)⟩
  · show (Instr.enterLoop fid a.tmps ps ac bc none).run P w = _
    simp [Instr.enterLoop, World.alloc_eq, hsz, R2]
  · have hc : a.eval (.const (.func (.yield (w.heap.size + 1)) #[] #[])) = .func (.yield (w.heap.size + 1)) #[] #[] := rfl
    simp [rangeCall, resolve, Deferred.ofValue, ← hx, hc]
  · have harr : us.toArray ++ #[Value.func (.yield (w.heap.size + 1)) #[] #[]] ++ uc.toArray = (us ++ [Value.func (.yield (w.heap.size + 1)) #[] #[]] ++ uc).toArray := by simp
    simp only [invoke, harr]
    exact henter _ _
  · rintro e w' ⟨v', u', s', E', rfl, hv', hst', hr', hk⟩
    obtain ⟨rc, hrc, hk⟩ := run_onSome hk
    obtain ⟨b, hb, hrc⟩ := Option.bind_eq_some_iff.1 hrc
    have hbe : b = .lrec rc.st rc.m rc.tmps rc.ps rc.ac rc.bc := by cases b <;> simp [Blk.asLrec] at hrc; rw [← hrc]
    subst hbe
    obtain ⟨c, o, L, hbk, ho, hheap, hL⟩ := hr'.blks _ _ hb
    have hbk0 := hst'.le.blk _ _ hn2
    rw [hbk0] at hbk
    cases hbk
    have hobj : (getObj (w.heap.size + 1)).run P w' = .ok (.loop L) w' := by simp [getObj, Sem.run, hheap]
    have hnew : ∀ st' L', st' = RSt.over → L' = { L with state := LoopState.exhausted } → BRel ρ E' s.next.succ (.lrec st' rc.m rc.tmps rc.ps rc.ac rc.bc) (Ab.setBlk w' (w.heap.size + 1) (.loop L')) := by
      intro st' L' h1 h2
      subst h1 h2
      exact ⟨_, 0, _, hbk0, rfl, setBlk_get hheap, ⟨rfl, trivial, hL.size, hL.val, hL.key, hL.params, hL.assign, hL.body⟩⟩
    obtain ⟨g1, g2⟩ := hr'.setBlk hb (by simp [Live]) hbk0 (hnew .over { L with state := LoopState.exhausted } rfl rfl)
    have hset : (setObj (w.heap.size + 1) (.loop { L with state := LoopState.exhausted })).run P w' = .ok () (Ab.setBlk w' (w.heap.size + 1) (.loop { L with state := LoopState.exhausted })) := by simp [setObj, Sem.run, hheap, Ab.setBlk]
    have hnb : rc.st.isBusy = false → (L.state == LoopState.busy) = false := by
      intro hb'
      rw [hL.state]
      cases hh : rc.st <;> rw [hh] at hb' <;> first | rfl | cases hb'
    have hend : rc.st.isBusy = false → (Instr.endLoop (w.heap.size + 1)).run P w' = .ok L.pending (Ab.setBlk w' (w.heap.size + 1) (.loop { L with state := LoopState.exhausted })) := by
      intro hb'
      have hnb' : L.state ≠ LoopState.busy := by
        rw [hL.state]
        cases hh : rc.st <;> rw [hh] at hb' <;> first | (cases hb'; done) | (simp [stOf])
      simp [Instr.endLoop, Instr.getLoop, hobj, hnb', hset]
    have hstep : Step E s w E' (s'.putRec s.next.succ rc .over) (Ab.setBlk w' (w.heap.size + 1) (.loop { L with state := LoopState.exhausted })) := (hst.trans hst').trans g2
    have hfr : FrRel ρ nt mask E' ⟨fr.tmps, (.yld s.next, []) :: fr.defs⟩ { a with defers := [{ target := .collected w.heap.size, args := #[] }] ++ a.defers } := by
      have hE' : Mem.Le E E' := hst.le.trans hst'.le
      have h3 := hf.mono hE'
      exact ⟨h3.size, h3.val, h3.key, .col (hst'.le.blk _ _ (hle2.blk _ _ hn1 |> fun h => by rw [hsz] at h; exact h)) h3.defs⟩
    have hpend := hL.pend
    cases hst0 : rc.st with
    | ready =>
      rw [hst0] at hk hpend
      have hk : (kx .norm ⟨fr.tmps, (.yld s.next, []) :: fr.defs⟩ (s'.putRec s.next.succ rc .over)).run ρ = some r := hk
      have hpend : L.pending = none := hpend
      refine ⟨none, _, by rw [← hpend]; exact hend (by rw [hst0]; rfl), ?_⟩
      exact ⟨.norm, _, _, E', rfl, hk, hstep, g1, hfr⟩
    | busy => rw [hst0] at hk; cases hk
    | over => rw [hst0] at hk; cases hk
    | done j =>
      rw [hst0] at hk hpend
      have hpend : L.pending = some (jumpC j) := hpend
      refine ⟨some (jumpC j), _, by rw [← hpend]; exact hend (by rw [hst0]; rfl), ?_⟩
      cases j with
      | ret =>
        have hk : (kx .ret ⟨fr.tmps, (.yld s.next, []) :: fr.defs⟩ (s'.putRec s.next.succ rc .over)).run ρ = some r := hk
        exact wpIn_ret ⟨.ret, _, _, E', rfl, hk, hstep, g1, hfr⟩
      | exit id =>
        have hk : (kx (.exit id) ⟨fr.tmps, (.yld s.next, []) :: fr.defs⟩ (s'.putRec s.next.succ rc .over)).run ρ = some r := hk
        exact wpIn_exit ⟨.exit id, _, _, E', rfl, hk, hstep, g1, hfr⟩
      | goto l =>
        have hk : (kx (.goto l) ⟨fr.tmps, (.yld s.next, []) :: fr.defs⟩ (s'.putRec s.next.succ rc .over)).run ρ = some r := hk
        exact wpIn_goto ⟨.goto l, _, _, E', rfl, hk, hstep, g1, hfr⟩
theorem ex_code {rd : Option Nat} {c : Code} (hrd : rd = none ∨ rok c = true) (hnt : nt < 65536) {kx : Kx β} (h : (ex1 P C cd (tr P nt mask c) X fr s kx).run ρ = some r) (hr : HRel ρ E s w) (hf : FrRel ρ nt mask E fr a) : c.wpIn (Fw rd) 0 P (Post ρ nt mask E s w kx r) a w := by
  cases c with
  | skip => exact wpIn_skip ⟨.norm, fr, s, E, rfl, h, .refl .., hr, hf⟩
  | label l => exact wpIn_label ⟨.norm, fr, s, E, rfl, h, .refl .., hr, hf⟩
  | exit id => exact wpIn_exit ⟨.exit id, fr, s, E, rfl, h, .refl .., hr, hf⟩
  | goto l => exact wpIn_goto ⟨.goto l, fr, s, E, rfl, h, .refl .., hr, hf⟩
  | ret => exact wpIn_ret ⟨.ret, fr, s, E, rfl, h, .refl .., hr, hf⟩
  | refuse _ => cases h
  | rangeFunc f ps ac bc =>
    rcases hrd with rfl | h0
    · exact rng_ok hX hcall hcd hdraw htr hnt h hr hf
    · cases h0
  | loop b => exact (ex_loop hX (c := b) hrd hnt h hr hf).wpIn
  | scope b =>
    rcases hrd with rfl | h0
    · exact wpIn_wide.2 (ex_scope hX htr hnt h hr hf).wp
    · cases h0
  | seq x y =>
    have h : (X (tr P nt mask x) fr s (afterSeq X (tr P nt mask y) kx)).run ρ = some r := h
    refine wpIn_seq (wpIn_mono (hX.code rd ρ nt mask x fr s _ r E w a (hrd.imp id fun h => by simp only [rok, Bool.and_eq_true] at h; exact h.1) hnt h hr hf) fun e a' w' hp => ?_)
    refine after_ok hX (Q := Post ρ nt mask E s w kx r) rfl (fun fr' s' E' w' a' h' hst hr' hf' => ?_) hp
    exact wpIn_mono (hX.code rd ρ nt mask y fr' s' kx r E' w' a' (hrd.imp id fun h => by simp only [rok, Bool.and_eq_true] at h; exact h.2) hnt h' hr' hf') fun e a2 w2 hq => hq.step hst
  | cond c x y =>
    have h : (onArg (trArg [] c) [] fr fun v => onBool 210 v s fun t s => X (bif t then tr P nt mask x else tr P nt mask y) fr s kx).run ρ = some r := h
    obtain ⟨v, hv, h⟩ := run_onArg (res_of (ds := []) hf LRel.nil) h
    obtain ⟨b, s', hb, hm, h⟩ := run_onBool (E := E) hr.asm h
    rw [hb] at hv
    refine wpIn_cond (t := b) (Option.some.inj hv).symm ?_
    cases b with
    | true => exact wpIn_mono (hX.code rd ρ nt mask x fr s' kx r E w a (hrd.imp id fun h => by simp only [rok, Bool.and_eq_true] at h; exact h.1) hnt h (hr.more hm) hf) fun e a2 w2 hq => hq.step (.more hm)
    | false => exact wpIn_mono (hX.code rd ρ nt mask y fr s' kx r E w a (hrd.imp id fun h => by simp only [rok, Bool.and_eq_true] at h; exact h.2) hnt h (hr.more hm) hf) fun e a2 w2 hq => hq.step (.more hm)
  | block id b =>
    have h : (X (tr P nt mask b) fr s (afterBlock id kx)).run ρ = some r := h
    refine wpIn_block (wpIn_mono (hX.code rd ρ nt mask b fr s _ r E w a hrd hnt h hr hf) fun e a' w' hp => ?_)
    obtain ⟨ae, fr', s', E', rfl, hk, hst, hr', hf'⟩ := hp
    cases ae with
    | norm => exact ⟨.norm, fr', s', E', rfl, hk, hst, hr', hf'⟩
    | ret => exact ⟨.ret, fr', s', E', rfl, hk, hst, hr', hf'⟩
    | goto l => exact ⟨.goto l, fr', s', E', rfl, hk, hst, hr', hf'⟩
    | exit i =>
      show (if i = id then _ else _)
      rcases run_ifB (b := Nat.beq i id) (t := kx .norm fr' s') (e := kx (.exit i) fr' s') hk with ⟨hb, hk⟩ | ⟨hb, hk⟩
      · rw [if_pos (by simpa using hb)]
        exact ⟨.norm, fr', s', E', rfl, hk, hst, hr', hf'⟩
      · rw [if_neg (by intro e; subst e; simp at hb)]
        exact ⟨.exit i, fr', s', E', rfl, hk, hst, hr', hf'⟩
  | region id ops draw =>
    cases draw with
    | false =>
      have h : (runR P (callA C X) (trOps P nt mask ops ops.toList []) (kx .norm) [] fr s).run ρ = some r := h
      refine wpIn_region ?_
      have := region_ok (rd := rd) (nt := nt) (mask := mask) (Q := Post ρ nt mask E s w kx r) hrd hcall ops.toList [] rfl [] [] fr s E w a h hr hf LRel.nil (fun d hd => by cases hd)
        (fun fr' s' E' w' a' hk hst hr' hf' => ⟨.norm, fr', s', E', rfl, hk, hst, hr', hf'⟩)
      rw [List.range_eq_range']
      simpa using this
    | true =>
      obtain ⟨hok, h⟩ := run_guardB (b := drawOk ops (trOps P nt mask ops ops.toList [])) (w := 211) (t := doD P cd (trOps P nt mask ops ops.toList []) (winsOf ops (trOps P nt mask ops ops.toList [])) fr s (kx .norm)) h
      exact hdraw β ρ cd nt mask id ops fr s E w a r (kx .norm) _ rd hcd hok h hr hf (fun fr' s' E' w' a' hk hst hr' hf' => ⟨.norm, fr', s', E', rfl, hk, hst, hr', hf'⟩)
end
end Go.Ab
end

section
namespace Go.Ab
variable {β : Type} {P : Program} {ρ : Val} {E : Mem} {s : St} {w : World} {r : β} {k : Kv β}
variable {ds : List (Option Nat)} {ls : List AV} {fr : Fr} {a : Act} {call : CallT β} {nt mask : Nat}

/-! ### results -/
theorem run_loadCell {t : TypeId} {n : Option Nat} (hn : aggT P t = some n) (hr : HRel ρ E s w) {x : AV} {ux : Value} (hx : cv ρ E x = some ux) {v : AV} (h : (x.asPtr.bind fun a => s.load n a.p a.off) = some v) :
    ∃ u, cv ρ E v = some u ∧ (do loadVar t (← asAddr ux) : Sem Value).run P w = .ok u w := by
  obtain ⟨pa, hpa, hl⟩ := Option.bind_eq_some_iff.1 h
  have hd : (doLd n x s (fun v s => Tree.ok (v, s))).run ρ = some (v, s) := by
    unfold doLd
    rw [hpa]
    show (onSome _ (s.load n pa.p pa.off) _).run ρ = _
    rw [hl]
    rfl
  obtain ⟨v', u, s', hm, hv, hrun, hk⟩ := q_ld (P := P) hr hd hx hn
  simp only [Tree.run, Option.some.injEq, Prod.mk.injEq] at hk
  obtain ⟨rfl, rfl⟩ := hk
  refine ⟨u, hv, ?_⟩
  rw [asPtr_eq hpa] at hx
  simp only [cv, Option.map_eq_some_iff] at hx
  obtain ⟨c, hc, rfl⟩ := hx
  simpa [Instr.loadAt, Instr.sureAddr, asAddr] using hrun
def resSem (a : Act) (x : ResultVar) : Sem Value :=
  match x with
  | .tmp t => pure (a.tmps.getD t undef)
  | .cell t ty => do loadVar ty (← asAddr (a.tmps.getD t undef))
theorem DRel.nil_eq {xs : List Deferred} (h : DRel ρ E [] xs) : xs = [] := by cases h; rfl
theorem resVs_ok (hr : HRel ρ E s w) (hf : FrRel ρ nt mask E fr a) : ∀ {rl : List ResultVar} {res : List ARes} {vs : List AV}, trRess P rl = some res → resVs fr s res = some vs →
    ∃ us, cvs ρ E vs = some us ∧ (rl.mapM (resSem a)).run P w = .ok us w
  | [], res, vs, h1, h2 => by
    simp [trRess] at h1; subst h1
    simp [resVs] at h2; subst h2
    exact ⟨[], by simp [cvs], rfl⟩
  | x :: rl, res, vs, h1, h2 => by
    unfold trRess at h1
    cases hx : trRes P x with
    | none => rw [hx] at h1; cases h1
    | some y =>
      cases hl : trRess P rl with
      | none => rw [hx, hl] at h1; cases h1
      | some ys =>
        rw [hx, hl] at h1
        simp only [Option.some.injEq] at h1
        subst h1
        have h2 : ((resV y fr s).bind fun v => (resVs fr s ys).map fun vs => v :: vs) = some vs := h2
        obtain ⟨v, hv, h2⟩ := Option.bind_eq_some_iff.1 h2
        obtain ⟨vs', hvs', rfl⟩ := Option.map_eq_some_iff.1 h2
        obtain ⟨us, hus, hrun⟩ := resVs_ok hr hf hl hvs'
        have hone : ∃ u, cv ρ E v = some u ∧ (resSem a x).run P w = .ok u w := by
          cases x with
          | tmp t =>
            cases hx
            exact ⟨_, hf.val t v hv, rfl⟩
          | cell t ty =>
            simp only [trRes, Option.map_eq_some_iff] at hx
            obtain ⟨n, hn, rfl⟩ := hx
            have hv : ((fr.tmps.get (posOf t)).bind fun v => v.asPtr.bind fun a => s.load n a.p a.off) = some v := hv
            obtain ⟨p, hp, hv⟩ := Option.bind_eq_some_iff.1 hv
            exact run_loadCell hn hr (hf.val t p hp) hv
        obtain ⟨u, hu, hurun⟩ := hone
        refine ⟨u :: us, cvs_cons_mk hu hus, ?_⟩
        rw [List.mapM_cons]
        simp only [Sem.run_bind, hurun, Result.andThen_ok, hrun, Sem.run_pure]
theorem finish_ok {fn : Func} {i : FnInfo} (hres : trRess P fn.results.toList = some i.res) (hr : HRel ρ E s w) (hf : FrRel ρ nt mask E fr a) (h : (finish i fr s k).run ρ = some r) :
    ∃ v u, (results fn a.tmps).run P w = .ok u w ∧ cv ρ E v = some u ∧ (k v s).run ρ = some r := by
  obtain ⟨vs, hvs, h⟩ := run_onSome h
  obtain ⟨us, hus, hrun⟩ := resVs_ok hr hf hres hvs
  refine ⟨oneOr vs, if h : us.toArray.size = 1 then us.toArray[0] else .tuple us.toArray, ?_, ?_, h⟩
  · have hm : (fn.results.mapM (resSem a)).run P w = .ok us.toArray w := by
      have : fn.results = fn.results.toList.toArray := by simp
      rw [this, List.mapM_toArray]
      simp only [Sem.run_map, hrun]
      rfl
    have hrs : results fn a.tmps = (do let vs ← fn.results.mapM (resSem a); pure (if h : vs.size = 1 then vs[0] else .tuple vs)) := rfl
    rw [hrs]
    simp only [Sem.run_bind, hm, Result.andThen_ok, Sem.run_pure]
  · have hlen := cvs_length hus
    unfold oneOr
    split
    · obtain ⟨x, y, rfl, hx, hy⟩ := cvs_cons hus
      rw [cvs_nil hy]
      simpa using hx
    · rename_i hne
      have : ¬ us.toArray.size = 1 := by
        intro h1
        simp at h1
        rw [hlen] at h1
        match vs, h1 with
        | [v], _ => exact hne v rfl
      rw [dif_neg this]
      simp [cv, hus]

/-! ### calls -/
structure InfoOk (P : Program) (f : FuncId) (i : FnInfo) (fn : Func) (c : Code) : Prop where
  func : P.funcs[f]? = some fn
  body : fn.body = some c
  name : (fn.name == "runtime.NumGoroutine") = false
  nt : i.ntmps = fn.ntmps
  lt : i.ntmps < 65536
  code : i.code = tr P i.ntmps i.mask c
  res : trRess P fn.results.toList = some i.res
def SumOk (P : Program) (f : FuncId) (g : List AV → St → Kv β → Tree β) : Prop := ∀ ρ (r : β) args s k E w us, (g args s k).run ρ = some r → HRel ρ E s w → cvs ρ E args = some us →
  (∀ (as : Array Value) (w' : World), (callFunc f as).run P w' = .ok (.enter f as) w') ∧ Calls P f us.toArray w (Out P ρ E s w k r)
structure CtxOk (P : Program) (C : Ctx) : Prop where
  info : ∀ f i, C.info f = some i → ∃ fn c, InfoOk P f i fn c
  trCode : ∀ m c, C.trCode m c = tr P (m % 65536) (m / 65536) c
  sum : ∀ f g, C.sum f = some g → ∀ β : Type, SumOk P f (g β)
theorem InfoOk.enter {f : FuncId} {i : FnInfo} {fn : Func} {c : Code} (h : InfoOk P f i fn c) (as : Array Value) : (callFunc f as).run P w = .ok (.enter f as) w := by
  have hn : ¬ fn.name = "runtime.NumGoroutine" := by simpa using h.name
  simp [callFunc, h.func, hn, h.body]
theorem initT_get : ∀ (l : List AV) (n : Nat) (t0 : Trie AV) (t : Nat) (v : AV), (initT mask l n t0).get (posOf t) = some v →
    (t0.get (posOf t) = some v) ∨ (n ≤ t ∧ l[t - n]? = some v ∧ mask.testBit t = true)
  | [], n, t0, t, v, h => .inl h
  | x :: l, n, t0, t, v, h => by
    have h' : (initT mask l (n + 1) (bif Nat.testBit mask n then t0.put (posOf n) (some x) else t0)).get (posOf t) = some v := h
    rcases initT_get l (n + 1) _ t v h' with h1 | ⟨h1, h2, h3⟩
    · cases hm : Nat.testBit mask n with
      | false => rw [hm] at h1; exact .inl h1
      | true =>
        rw [hm] at h1
        simp only [cond_true, Trie.get_put] at h1
        by_cases e : posOf t = posOf n
        · rw [if_pos e] at h1
          have := posOf_inj e
          subst this
          cases h1
          exact .inr ⟨Nat.le_refl _, by simp, hm⟩
        · rw [if_neg e] at h1; exact .inl h1
    · refine .inr ⟨by omega, ?_, h3⟩
      rw [show t - n = (t - (n + 1)) + 1 from by omega]
      simpa using h2
theorem init_rel {args : List AV} {us : List Value} (ha : cvs ρ E args = some us) (hle : args.length ≤ nt) :
    FrRel ρ nt mask E ⟨initT mask args 0 .lf, []⟩ { tmps := us.toArray ++ Array.replicate (nt - us.toArray.size) undef, defers := [] } := by
  have hlen := cvs_length ha
  have key : ∀ t v, (initT mask args 0 .lf).get (posOf t) = some v → args[t]? = some v ∧ mask.testBit t = true := by
    intro t v h
    rcases initT_get args 0 .lf t v h with h1 | ⟨_, h2, h3⟩
    · have : (Trie.lf : Trie AV).get (posOf t) = none := Trie.get_lf _
      rw [this] at h1; cases h1
    · exact ⟨by simpa using h2, h3⟩
  refine ⟨by simp; omega, fun t v hv => ?_, fun t v hv => (key t v hv).2, .nil⟩
  obtain ⟨h1, _⟩ := key t v hv
  obtain ⟨u, hu, hc⟩ := cvs_get t ha h1
  rw [hc]
  obtain ⟨hlt, hu'⟩ := List.getElem?_eq_some_iff.1 hu
  simp [Array.getD_eq_getD_getElem?, Array.getElem?_append, hlt, hu']
theorem run_onSum {o : Option SumT} {k : SumT → Tree β} {e : Tree β} (h : (onSum o k e).run ρ = some r) : (∃ a, o = some a ∧ (k a).run ρ = some r) ∨ (o = none ∧ e.run ρ = some r) := by
  cases o with
  | none => exact .inr ⟨rfl, h⟩
  | some a => exact .inl ⟨a, rfl, h⟩
section
variable {C : Ctx} {X : Ex β} (hX : ExOk P X) (hC : CtxOk P C)
include hX
theorem enter_ok {f : FuncId} {i : FnInfo} {fn : Func} {c : Code} (hi : InfoOk P f i fn c) {args : List AV} {us : List Value} {K : Fr → St → Tree β} (ha : cvs ρ E args = some us) (hr : HRel ρ E s w) (h : (enterF X i args s K).run ρ = some r) {Q : Exit → Act → World → Prop}
    (hQ : ∀ e fr' s' E' w' a', (e = .normal ∨ e = .ret) → (K fr' s').run ρ = some r → Step E s w E' s' w' → HRel ρ E' s' w' → FrRel ρ i.ntmps i.mask E' fr' a' → Q e a' w') :
    c.wpIn Fence.wide 0 P Q { tmps := us.toArray ++ Array.replicate (fn.ntmps - us.toArray.size) undef, defers := [] } w := by
  obtain ⟨hle, h⟩ := run_guardB h
  have hle : args.length ≤ i.ntmps := by simpa using hle
  rw [hi.code] at h
  rw [← hi.nt]
  refine wpIn_mono (hX.code none ρ i.ntmps i.mask c _ s _ r E w _ (.inl rfl) hi.lt h hr (init_rel ha hle)) fun e a' w' hp => ?_
  obtain ⟨ae, fr', s', E', rfl, hk, hst, hr', hf'⟩ := hp
  cases ae with
  | norm => exact hQ _ fr' s' E' w' a' (.inl rfl) hk hst hr' hf'
  | ret => exact hQ _ fr' s' E' w' a' (.inr rfl) hk hst hr' hf'
  | exit id => cases hk
  | goto l => cases hk
include hC
theorem runDefs_ok {fn : Func} {tmps : Array Value} {R : Ending → World → Prop} : ∀ (l : List (AV × List AV)) (xs : List Deferred) (s : St) (E : Mem) (w : World) (K : St → Tree β), DRel ρ E l xs → (runDefs C X l s K).run ρ = some r → HRel ρ E s w →
    (∀ s' E' w', (K s').run ρ = some r → Step E s w E' s' w' → HRel ρ E' s' w' → ∃ v, (results fn tmps).run P w' = .ok v w' ∧ R (.returned v) w') → LeavesInM Fence.wide 0 P fn tmps R xs .returning w
  | [], xs, s, E, w, K, hd, h, hr, hK => by
    cases hd
    exact hK s E w h (.refl ..) hr
  | d :: l, xs, s, E, w, K, hd, h, hr, hK => by
    cases hd with
    | @col p c0 _ xs' hpc hdl =>
      have h : (onSomeOr (AV.yld p).asYld (fun p => onSome 413 ((s.heap.get p).bind Blk.asDfr) fun b => guardB b 413 (runDefs C X l (s.put p (.dfr false)) K)) (.bad 0)).run ρ = some r := h
      obtain ⟨b, hb, h⟩ := run_onSome (k := fun b => guardB b 413 (runDefs C X l (s.put p (.dfr false)) K)) h
      obtain ⟨hbt, h⟩ := run_guardB h
      subst hbt
      obtain ⟨bl, hbl, hb⟩ := Option.bind_eq_some_iff.1 hb
      have hbe : bl = .dfr true := by cases bl <;> simp [Blk.asDfr] at hb; rw [hb]
      subst hbe
      obtain ⟨c, o, hbk, rfl, hheap⟩ := hr.blks _ _ hbl
      rw [hpc] at hbk
      cases hbk
      obtain ⟨g1, g2⟩ := hr.setBlk (nb := .dfr false) (obj := .deferred none) hbl (by simp [Live]) hpc ⟨c0, 0, hpc, rfl, setBlk_get hheap⟩
      refine ⟨by simp, .inl ⟨c0, _, rfl, ?_, runDefs_ok l xs' _ E _ K hdl h g1 fun s2 E2 w2 hk2 hst2 hr2 => hK s2 E2 w2 hk2 (g2.trans hst2) hr2⟩⟩
      have hheap : w.heap[c0]? = some (.deferred (some [])) := hheap
      simp [Instr.takeDeferred, getObj, setObj, Sem.run, hheap, Ab.setBlk]
    | cons hd1 hdl =>
    rename_i x xs
    obtain ⟨f, args⟩ := d
    obtain ⟨fn0, fst, cap, us, ufst, ucap, h1, h2, h3, h4, rfl⟩ := hd1
    simp only at h1 h4
    have h : (onSomeOr f.asYld (fun p => onSome 413 ((s.heap.get p).bind Blk.asDfr) fun b => guardB b 413 (runDefs C X l (s.put p (.dfr false)) K)) (onSome 206 f.asFn fun v => onSome 206 (Fn.asFunc v.fn) fun f => onSome 204 (C.info f) fun i =>
      enterF X i (v.first ++ args ++ v.cap) s fun fr s => guardB (noDefs fr) 205 (finish i fr s fun _ s => runDefs C X l s K))).run ρ = some r := h
    rw [show f.asYld = none from by rw [h1]; rfl] at h
    have h : (onSome 206 f.asFn fun v => onSome 206 (Fn.asFunc v.fn) fun f => onSome 204 (C.info f) fun i =>
      enterF X i (v.first ++ args ++ v.cap) s fun fr s => guardB (noDefs fr) 205 (finish i fr s fun _ s => runDefs C X l s K)).run ρ = some r := h
    obtain ⟨fv, hfv, h⟩ := run_onSome h
    obtain ⟨g, hg, h⟩ := run_onSome h
    obtain ⟨i, hi, h⟩ := run_onSome h
    obtain ⟨fn', c, hi'⟩ := hC.info g i hi
    have hfe := asFn_eq hfv
    rw [h1] at hfe
    obtain ⟨fn1, fst1, cap1⟩ := fv
    simp only [AV.func.injEq] at hfe
    obtain ⟨rfl, rfl, rfl⟩ := hfe
    have hfn : fn0 = .func g := by cases fn0 <;> simp [Fn.asFunc] at hg; subst hg; rfl
    subst hfn
    have hall := cvs_append (cvs_append h2 h4) h3
    have harr : ufst.toArray ++ us.toArray ++ ucap.toArray = (ufst ++ us ++ ucap).toArray := by simp
    refine ⟨by simp, .inr ⟨fun hd => (by cases hd), .func g, ucap.toArray, g, (ufst ++ us ++ ucap).toArray, rfl, ?_, fun g _ => trivial, ?_⟩⟩
    · show (callFunc g _).run P w = _
      rw [harr]
      exact hi'.enter _
    · refine CallsDIn.mono (callsDIn_of_wp (F := Fence.wide) (n := 0) (u := .returning) (R := fun e w' => ∃ v s' E', e = .returned v ∧ (runDefs C X l s' K).run ρ = some r ∧ Step E s w E' s' w' ∧ HRel ρ E' s' w') hi'.func hi'.body trivial ?_) ?_
      · refine enter_ok hX hi' hall hr h fun e fr' s' E' w' a' he hk hst hr' hf' => ?_
        obtain ⟨hnd, hk⟩ := run_guardB hk
        obtain ⟨v, u, hres, hv, hk⟩ := finish_ok hi'.res hr' hf' hk
        have hdn : a'.defers = [] := by
          have := hf'.defs
          cases hdd : fr'.defs with
          | nil => rw [hdd] at this; exact this.nil_eq
          | cons _ _ => simp [noDefs, hdd] at hnd
        rcases he with rfl | rfl
        · exact ⟨hdn, u, hres, u, s', E', rfl, hk, hst, hr'⟩
        · exact ⟨hdn, u, hres, u, s', E', rfl, hk, hst, hr'⟩
      · rintro e u' w' ⟨rfl, v, s', E', rfl, hk, hst, hr'⟩
        exact runDefs_ok l xs s' E' w' K (hdl.mono hst.le) hk hr' fun s2 E2 w2 hk2 hst2 hr2 => hK s2 E2 w2 hk2 (hst.trans hst2) hr2
omit hX hC in
theorem recAt_eq {p : Pos} {rc : LRec} (h : s.recAt p = some rc) : s.heap.get p = some (.lrec rc.st rc.m rc.tmps rc.ps rc.ac rc.bc) := by
  obtain ⟨b, hb, h⟩ := Option.bind_eq_some_iff.1 h
  cases b <;> simp [Blk.asLrec] at h
  rw [hb, ← h]
omit hX hC in
theorem noDefs_nil {fr : Fr} (h : noDefs fr = true) : fr.defs = [] := by
  cases hd : fr.defs with
  | nil => rfl
  | cons _ _ => simp [noDefs, hd] at h
omit hX hC in
/-- a record is written -/
theorem rec_set (hr : HRel ρ E s w) {p : Pos} {rc : LRec} {c o : Nat} (hrc : s.recAt p = some rc) (hb : E.blk p = some (c, o)) : ∃ L : Loop, o = 0 ∧ w.heap[c]? = some (.loop L) ∧ RecRel ρ E rc.st rc.m rc.tmps rc.ps rc.ac rc.bc L ∧
    ∀ st L', (∀ x, x = { L with state := L'.state, pending := L'.pending } → L' = x) → L'.state = stOf st → pendOk st L'.pending → (setObj c (.loop L')).run P w = .ok () (Ab.setBlk w c (.loop L')) ∧ HRel ρ E (s.putRec p rc st) (Ab.setBlk w c (.loop L')) ∧ Step E s w E (s.putRec p rc st) (Ab.setBlk w c (.loop L')) := by
  obtain ⟨c2, o2, L, h1, h2, h3, h4⟩ := hr.blks _ _ (recAt_eq hrc)
  rw [hb] at h1
  cases h1
  refine ⟨L, h2, h3, h4, fun st L' hL' hs hp => ?_⟩
  have e := hL' _ rfl
  have hobj : ∀ x, x = L' → x.tmps = L.tmps ∧ x.params = L.params ∧ x.assign = L.assign ∧ x.body = L.body := by
    intro x hx
    rw [hx, e]
    exact ⟨rfl, rfl, rfl, rfl⟩
  obtain ⟨e1, e2, e3, e4⟩ := hobj L' rfl
  obtain ⟨g1, g2⟩ := hr.setBlk (nb := .lrec st rc.m rc.tmps rc.ps rc.ac rc.bc) (obj := .loop L') (recAt_eq hrc) (by simp [Live]) hb
    ⟨c, o, L', hb, h2, setBlk_get h3, ⟨hs, hp, by rw [e1]; exact h4.size, fun t v hv => by rw [e1]; exact h4.val t v hv, h4.key, by rw [e2]; exact h4.params, by rw [e3]; exact h4.assign, by rw [e4]; exact h4.body⟩⟩
  exact ⟨by simp [setObj, Sem.run, h3, Ab.setBlk], g1, g2⟩
omit hX hC in
theorem putPs_ok {nt mask : Nat} : ∀ (ps : List Nat) (vs : List AV) (us : List Value) (T : Trie AV) (tmps : Array Value), cvs ρ E vs = some us → tmps.size = nt → (∀ t v, T.get (posOf t) = some v → cv ρ E v = some (tmps.getD t undef)) →
    (∀ t v, T.get (posOf t) = some v → mask.testBit t = true) → psOk nt ps = true →
    ((ps.zip us).foldl (fun tmps x => tmps.setIfInBounds x.1 x.2) tmps).size = nt ∧ (∀ t v, (putPs mask ps vs T).get (posOf t) = some v → cv ρ E v = some (((ps.zip us).foldl (fun tmps x => tmps.setIfInBounds x.1 x.2) tmps).getD t undef)) ∧
    (∀ t v, (putPs mask ps vs T).get (posOf t) = some v → mask.testBit t = true)
  | [], vs, us, T, tmps, h1, h2, h3, h4, h5 => ⟨by simpa using h2, by simpa [putPs] using h3, by simpa [putPs] using h4⟩
  | t0 :: ps, [], us, T, tmps, h1, h2, h3, h4, h5 => by
    simp [cvs] at h1; subst h1
    exact ⟨by simpa using h2, by simpa [putPs] using h3, by simpa [putPs] using h4⟩
  | t0 :: ps, v0 :: vs, us, T, tmps, h1, h2, h3, h4, h5 => by
    obtain ⟨u0, us', rfl, hu0, hus'⟩ := cvs_cons h1
    simp only [psOk, Bool.and_eq_true, Nat.blt_eq] at h5
    have hlt : t0 < tmps.size := by rw [h2]; exact h5.1.1
    have hother : ∀ t, t ≠ t0 → (tmps.setIfInBounds t0 u0).getD t undef = tmps.getD t undef := fun t ht => by
      simp [Array.getD_eq_getD_getElem?, Array.getElem?_setIfInBounds, Ne.symm ht]
    have hself : (tmps.setIfInBounds t0 u0).getD t0 undef = u0 := by simp [Array.getD_eq_getD_getElem?, Array.getElem?_setIfInBounds, hlt]
    have hrec := putPs_ok (mask := mask) ps vs us' (bif Nat.testBit mask t0 then T.put (posOf t0) (some v0) else T) (tmps.setIfInBounds t0 u0) hus' (by simpa using h2) ?_ ?_ h5.2
    · exact hrec
    · intro t v hv
      cases hm : Nat.testBit mask t0 with
      | false =>
        rw [hm] at hv
        rw [hother t (fun e => by subst e; have := h4 t v hv; rw [hm] at this; cases this)]
        exact h3 t v hv
      | true =>
        rw [hm] at hv
        simp only [cond_true, Trie.get_put] at hv
        by_cases e : posOf t = posOf t0
        · rw [if_pos e] at hv; cases hv
          rw [posOf_inj e, hself]; exact hu0
        · rw [if_neg e] at hv
          rw [hother t (fun e' => e (by rw [e']))]
          exact h3 t v hv
    · intro t v hv
      cases hm : Nat.testBit mask t0 with
      | false => rw [hm] at hv; exact h4 t v hv
      | true =>
        rw [hm] at hv
        simp only [cond_true, Trie.get_put] at hv
        by_cases e : posOf t = posOf t0
        · rw [posOf_inj e]; exact hm
        · rw [if_neg e] at hv; exact h4 t v hv
theorem round_ok {p : Pos} {args : List AV} {c o : Nat} {us : List Value} (h : (yieldA C X (.yld p :: args) s k).run ρ = some r) (hr : HRel ρ E s w) (hb : E.blk p = some (c, o)) (ha : cvs ρ E args = some us) :
    ∃ f tmps assign body, (Instr.yield c us.toArray).run P w = .ok (.round c f tmps assign body) w ∧ RoundIn Fence.wide 0 P c f tmps assign body w (Out P ρ E s w k r) := by
  obtain ⟨y, vs', hyv, h⟩ := run_headTail h
  cases hyv
  obtain ⟨p', hp', h⟩ := run_onSome h
  cases hp'
  obtain ⟨rc, hrc, h⟩ := run_onSome h
  obtain ⟨hg, h⟩ := run_guardB h
  simp only [Bool.and_eq_true, Nat.beq_eq] at hg
  obtain ⟨⟨hlen, hps⟩, hrok⟩ := hg
  obtain ⟨L, rfl, hheap, hL, _⟩ := rec_set (P := P) hr hrc hb
  have hobj : (getObj c).run P w = .ok (.loop L) w := by simp [getObj, Sem.run, hheap]
  have hnt : rc.m % 65536 < 65536 := Nat.mod_lt _ (by omega)
  obtain ⟨q1, q2, q3⟩ := putPs_ok (mask := rc.m / 65536) rc.ps args us rc.tmps L.tmps ha hL.size hL.val hL.key hps
  have hsz : us.toArray.size = L.params.size := by
    rw [hL.params]
    have := cvs_length ha
    simp; omega
  have hfold : (L.params.zip us.toArray).foldl (fun tmps x => tmps.setIfInBounds x.1 x.2) L.tmps = (rc.ps.zip us).foldl (fun tmps x => tmps.setIfInBounds x.1 x.2) L.tmps := by
    rw [hL.params, ← Array.foldl_toList]
    simp
  refine ⟨L.fn, (rc.ps.zip us).foldl (fun tmps x => tmps.setIfInBounds x.1 x.2) L.tmps, rc.ac, rc.bc, ?_, ?_⟩
  · rw [← hfold]
    simp [Instr.yield, Instr.getLoop, hobj, hsz, hL.assign, hL.body]
  · refine roundIn_of_wpIn (F := Fence.wide) trivial ?_
    have hf0 : FrRel ρ (rc.m % 65536) (rc.m / 65536) E ⟨putPs (rc.m / 65536) rc.ps args rc.tmps, []⟩ { tmps := (rc.ps.zip us).foldl (fun tmps x => tmps.setIfInBounds x.1 x.2) L.tmps, defers := [] } := ⟨q1, q2, q3, .nil⟩
    rw [hC.trCode] at h
    refine wpIn_mono (hX.code (some c) ρ _ _ rc.ac _ s _ r E w _ (.inr hrok) hnt h hr hf0) fun e a1 w1 hp => ?_
    obtain ⟨ae, fr1, s1, E1, rfl, hk, hst, hr1, hf1⟩ := hp
    cases ae with
    | ret => cases hk
    | exit id => cases hk
    | goto l => cases hk
    | norm =>
      obtain ⟨hnd, hk⟩ := run_guardB (t := onSome 415 (s1.recAt p) fun r' => guardB (r'.st.isReady && rok rc.bc) 415 (X (C.trCode rc.m rc.bc) fr1 (s1.putRec p r' .busy) (roundEnd p k))) hk
      obtain ⟨rc1, hrc1, hk⟩ := run_onSome hk
      obtain ⟨hg1, hk⟩ := run_guardB hk
      simp only [Bool.and_eq_true] at hg1
      have hb1 := hst.le.blk _ _ hb
      obtain ⟨L1, _, hheap1, hL1, hput1⟩ := rec_set (P := P) hr1 hrc1 hb1
      have hready : rc1.st = .ready := by
        have := hg1.1
        cases hh : rc1.st <;> rw [hh] at this <;> first | rfl | cases this
      have hst1 : L1.state = .ready := by rw [hL1.state, hready]; rfl
      have hpd1 : L1.pending = none := by have := hL1.pend; rw [hready] at this; exact this
      obtain ⟨k1, k2, k3⟩ := hput1 .busy { L1 with state := .busy } (fun x hx => by rw [hx]) rfl hpd1
      have hobj1 : (getObj c).run P w1 = .ok (.loop L1) w1 := by simp [getObj, Sem.run, hheap1]
      refine ⟨Ab.setBlk w1 c (.loop { L1 with state := .busy }), ?_, ?_⟩
      · simp [Instr.beginRound, Instr.getLoop, hobj1, k1, hst1]
      · rw [hC.trCode] at hk
        refine wpIn_mono (hX.code (some c) ρ _ _ rc.bc _ _ _ r E1 _ _ (.inr hg1.2) hnt hk k2 hf1) fun e a2 w2 hp2 => ?_
        obtain ⟨ae2, fr2, s2, E2, rfl, hk2, hst2, hr2, hf2⟩ := hp2
        have hk2 : (guardB (noDefs fr2) 414 (onSome 414 (s2.recAt p) fun r2 => k (.bool ae2.jump.isNone) (s2.putRec p r2 (stAfter ae2.jump)))).run ρ = some r := hk2
        obtain ⟨_, hk2⟩ := run_guardB hk2
        obtain ⟨rc2, hrc2, hk2⟩ := run_onSome hk2
        have hb2 := hst2.le.blk _ _ hb1
        obtain ⟨L2, _, hheap2, hL2, hput2⟩ := rec_set (P := P) hr2 hrc2 hb2
        have hobj2 : (getObj c).run P w2 = .ok (.loop L2) w2 := by simp [getObj, Sem.run, hheap2]
        have fin : ∀ (j : Option RJ) (jc : Option Code), ae2.jump = j → jc = j.map jumpC → ∃ v w', (Instr.endRound c jc).run P w2 = .ok v w' ∧ Out P ρ E s w k r (.returned v) w' := by
          intro j jc hj hjc
          obtain ⟨m1, m2, m3⟩ := hput2 (stAfter j) { L2 with state := if jc.isNone then .ready else .done, pending := jc } (fun x hx => by rw [hx]) (by subst hjc; cases j <;> rfl) (by subst hjc; cases j <;> rfl)
          refine ⟨.bool jc.isNone, _, ?_, .bool j.isNone, .bool jc.isNone, _, E2, rfl, ?_, (hst.trans k3).trans (hst2.trans m3), m2, by rw [← hj]; rw [← hj] at m2; exact hk2⟩
          · have e0 : (Instr.endRound c jc).run P w2 = ((setObj c (.loop { L2 with state := if jc.isNone then .ready else .done, pending := jc })).run P w2).andThen fun _ w' => .ok (.bool jc.isNone) w' := by
              simp [Instr.endRound, Instr.getLoop, hobj2]
            rw [e0, m1]; rfl
          · subst hjc; cases j <;> simp [cv]
        cases ae2 with
        | norm => exact fin none none rfl rfl
        | ret => exact fin (some .ret) (some .ret) rfl rfl
        | exit id => exact fin (some (.exit id)) (some (.exit id)) rfl rfl
        | goto l => exact fin (some (.goto l)) (some (.goto l)) rfl rfl
theorem callA_ok : CallOk P (callA C X) := by
  refine ⟨fun ρ r f args s k E w us hfy h hr ha => ?_, fun ρ r p args s k E w c o us h hr hb ha => ?_⟩
  · rcases run_ifB h with ⟨hy, _⟩ | ⟨_, h⟩
    · exact absurd (by simpa using hy) hfy
    rcases run_onSum h with ⟨g, hg, h⟩ | ⟨_, h⟩
    · exact hC.sum f g hg _ ρ r args s k E w us h hr ha
    · obtain ⟨i, hi, h⟩ := run_onSome h
      obtain ⟨fn, c, hi'⟩ := hC.info f i hi
      refine ⟨fun as w' => hi'.enter as, callsIn_wide.1 (callsIn_of_wp_marks (n := 0) hi'.func hi'.body trivial ?_)⟩
      refine enter_ok hX hi' ha hr h fun e fr' s' E' w' a' he hk hst hr' hf' => ?_
      have fin : LeavesInM Fence.wide 0 P fn a'.tmps (Out P ρ E s w k r) a'.defers .returning w' := by
        rcases run_ifB hk with ⟨hnd, hk⟩ | ⟨_, hk⟩
        · obtain ⟨v, u, hres, hv, hk⟩ := finish_ok hi'.res hr' hf' hk
          have hdn : a'.defers = [] := by
            have := hf'.defs
            rw [noDefs_nil hnd] at this
            exact this.nil_eq
          rw [hdn]
          exact ⟨u, hres, v, u, s', E', rfl, hv, hst, hr', hk⟩
        · refine runDefs_ok hX hC fr'.defs a'.defers s' E' w' _ hf'.defs hk hr' fun s2 E2 w2 hk2 hst2 hr2 => ?_
          obtain ⟨v, u, hres, hv, hk3⟩ := finish_ok hi'.res hr2 (hf'.mono hst2.le) hk2
          exact ⟨u, hres, v, u, s2, E2, rfl, hv, hst.trans hst2, hr2, hk3⟩
      rcases he with rfl | rfl
      · exact fin
      · exact fin
  · rcases run_ifB h with ⟨_, h⟩ | ⟨hy, _⟩
    · exact round_ok hX hC h hr hb ha
    · exact absurd hy (by decide)
end
/-- the executor is right -/
theorem exec_ok {C : Ctx} (hC : CtxOk P C) (hdraw : DrawSound P) : ∀ (n : Nat) (β : Type), ExOk P (exec P C n β)
  | 0, β => ⟨fun _ _ _ _ _ _ _ _ _ _ _ _ _ _ h => by (cases h), fun _ _ _ _ _ _ _ _ _ _ _ _ _ _ h => by (cases h), fun _ _ _ _ _ _ _ _ _ _ _ _ _ h => by (cases h)⟩
  | n + 1, β => by
    have ih := exec_ok hC hdraw n β
    have hcall := callA_ok ih hC
    have hcd := callA_ok (exec_ok hC hdraw n (AV × St)) hC
    exact ⟨fun rd ρ nt mask c fr s k r E w a hrd hnt h hr hf => ex_code ih hcall hcd hdraw hC.trCode hrd hnt h hr hf, fun rd ρ nt mask c fr s k r E w a hrd hnt h hr hf => ex_loop (C := C) (cd := callA C (exec P C n (AV × St))) ih hrd hnt h hr hf,
      fun ρ nt mask c x fr s k r E w a hnt h hr hf => ex_scope (cd := callA C (exec P C n (AV × St))) ih hC.trCode hnt h hr hf⟩
/-- the table of the functions -/
theorem fnInfo_ok {masks : List Nat} {f : FuncId} {i : FnInfo} (h : fnInfo P masks f = some i) : ∃ fn c, InfoOk P f i fn c := by
  unfold fnInfo at h
  cases hf : funcA P f with
  | none => rw [hf] at h; cases h
  | some fn =>
    rw [hf] at h
    simp only at h
    cases hb : fn.body with
    | none => rw [hb] at h; cases h
    | some c =>
      cases hr : trRess P fn.results.toList with
      | none => rw [hb, hr] at h; cases h
      | some res =>
        rw [hb, hr] at h
        simp only at h
        cases hc : (fn.name != "runtime.NumGoroutine" && Nat.blt fn.ntmps 65536) with
        | false => rw [hc] at h; cases h
        | true =>
          rw [hc] at h
          simp only [cond_true, Option.some.injEq] at h
          simp only [Bool.and_eq_true, Nat.blt_eq] at hc
          subst h
          exact ⟨fn, c, funcA_eq hf, hb, by simpa [bne] using hc.1, rfl, hc.2, rfl, hr⟩
end Go.Ab
end
