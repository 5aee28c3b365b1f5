/- The executor agrees with the model on regions, code, calls and deferred calls. -/
import Derived.Test.YtjfpofhpcphedaaGreatDoorED
import Derived.Laws.RangeString
import Derived.Laws.IdiomStrings
set_option linter.unusedVariables false
set_option linter.unusedSimpArgs false
set_option linter.unusedSectionVars false
section
namespace Go.Ab
variable {β : Type} {P : Program} {ρ : Val} {E : Mem} {s : St} {w : World} {r : β} {k : Kv β}
variable {ds : List (Option Nat)} {ls : List AV} {fr : Fr} {a : Act} {call : CallT β}

/-! ### strings and their iterators -/
theorem ef_s2b (hres : Res ρ E ds ls fr a) (hr : HRel ρ E s w) {st dt : TypeId} {x : Operand} (hc : (trConv P ds st dt x).cls = 2) (h : (evOp P (trConv P ds st dt x) call ls fr s k).run ρ = some r) : Eff P ρ E s w (convert st dt (a.eval x)) k r := by
  have main : ∀ e b, undA P st = some .string → undA P dt = some (.slice e) → undA P e = some (.int .u8) → (evOp P (.s2b b (trArg ds x)) call ls fr s k).run ρ = some r → Eff P ρ E s w (convert st dt (a.eval x)) k r := by
    intro e b h1 h2 h3 h
    obtain ⟨v, hv, h⟩ := run_onArg hres h
    obtain ⟨l, hl, h⟩ := run_onSome h
    obtain ⟨_, h⟩ := run_guardB h
    rw [asStr_eq hl] at hv
    simp only [cv_str, Option.some.injEq] at hv
    rw [← hv]
    have hrun := run_bytes_of_string (P := P) w st dt e (bytesOf l) (undA_eq h1) (undA_eq h2) (undA_eq h3)
    have hge := grownCap_ge w (bytesOf l).size 0 e
    have hrow : bytesRow (bytesOf l) (grownCap w (bytesOf l).size 0 e) = (byteCells (bytesOf l) ++ List.replicate (grownCap w (bytesOf l).size 0 e - (bytesOf l).size) (Value.int .u8 0)).toArray := by
      apply Array.ext'
      simp [bytesRow, byteCells]
    rw [hrow] at hrun
    rw [size_bytesOf] at hrun hge
    refine fresh_ok hr (byteL_cv l) (by rw [byteCells_length, size_bytesOf]; simp) h hrun hge (by simp) ?_
    intro i hi1 hi2 hh
    simp only [List.size_toArray, List.length_append] at hh
    omega
  unfold trConv at h hc
  split at h
  · rename_i h1 h2; rw [h1, h2] at hc; cases hc
  · rename_i h1 h2; rw [h1, h2] at hc; cases hc
  · rename_i e h1 h2
    rw [h1, h2] at hc
    split at h
    · rename_i h3 h4
      exact main e _ h1 h2 h3 h
    · cases h
  · rename_i e h1 h2
    rw [h1, h2] at hc
    split at h
    · rename_i h3; simp only [h3] at hc; cases hc
    · cases h
  · rename_i h1 h2; rw [h1, h2] at hc; cases hc
  · cases h
theorem ef_rng (hres : Res ρ E ds ls fr a) (hr : HRel ρ E s w) {t : TypeId} {x : Operand} (h : (evOp P (trOp P ds (.range t x)) call ls fr s k).run ρ = some r) : Eff P ρ E s w (Instr.range t (a.eval x)) k r := by
  simp only [trOp] at h
  split at h
  case h_2 => cases h
  rename_i hu
  obtain ⟨v, hv, h⟩ := run_onArg hres h
  obtain ⟨l, hl, h⟩ := run_onSome h
  rw [asStr_eq hl] at hv
  simp only [cv_str, Option.some.injEq] at hv
  rw [← hv]
  have hnew : (E.add s.next w.heap.size 0).blk s.next = some (w.heap.size, 0) := by simp [Mem.add]
  obtain ⟨h1, h2⟩ := hr.alloc (.sit l 0) (.stringIter (bytesOf l) 0) 0 ⟨_, 0, hnew, rfl, heap_alloc_new w _⟩
  refine ⟨.pointer (some ⟨w.heap.size, 0, none⟩), _, _, _, _, ?_, cv_ptr_mk hnew, h2, h1, h⟩
  simp [Instr.range, run_underlying (undA_eq hu), World.alloc_eq]
theorem ef_next (hres : Res ρ E ds ls fr a) (hr : HRel ρ E s w) {ty : TypeId} {x : Operand} (h : (evOp P (.nextS (trArg ds x)) call ls fr s k).run ρ = some r) : Eff P ρ E s w (Instr.next (a.eval x) true ty) k r := by
  obtain ⟨v, hv, h⟩ := run_onArg hres h
  obtain ⟨pa, hpa, h⟩ := run_onSome h
  obtain ⟨hoff, h⟩ := run_guardB h
  obtain ⟨it, hit, h⟩ := run_onSome h
  obtain ⟨b, hb, hit⟩ := Option.bind_eq_some_iff.1 hit
  have hbe : b = .sit it.l it.pos := by cases b <;> simp [Blk.asIt] at hit; subst hit; rfl
  subst hbe
  obtain ⟨c, o, hbk, rfl, hheap⟩ := hr.blks _ _ hb
  rw [asPtr_eq hpa, show pa.off = 0 from by simpa using hoff, cv_ptr_mk hbk] at hv
  simp only [Option.some.injEq] at hv
  rw [← hv]
  have hobj : (getObj c).run P w = .ok (.stringIter (bytesOf it.l) it.pos) w := by simp [getObj, Sem.run, hheap]
  rcases run_onSomeOr h with ⟨y, hy, h⟩ | ⟨hn, h⟩
  · obtain ⟨hlt, h⟩ := run_guardB h
    rw [nthN_eq] at hy
    obtain ⟨hp, hy'⟩ := List.getElem?_eq_some_iff.1 hy
    have hps : it.pos < (bytesOf it.l).size := by rw [size_bytesOf]; exact hp
    have hbyte : ((bytesOf it.l)[it.pos]'hps).toNat = y % 256 := by
      have : (bytesOf it.l)[it.pos]'hps = UInt8.ofNat y := by
        show (bytesOf it.l).data[it.pos]'_ = _
        simp [bytesOf, hy']
      rw [this]; simp
    have hlt' : y % 256 < 128 := by simpa using hlt
    have hdec := decode_ascii (bytesOf it.l) it.pos hps (by rw [hbyte]; exact hlt')
    rw [hbyte] at hdec
    obtain ⟨h1, h2⟩ := hr.setBlk (nb := .sit it.l (it.pos + 1)) (obj := .stringIter (bytesOf it.l) (it.pos + 1)) hb (by simp [Live]) hbk ⟨c, 0, hbk, rfl, setBlk_get hheap⟩
    refine ⟨.tuple #[.bool true, goInt it.pos, .int .i32 (Int.ofNat (y % 256))], _, _, _, E, ?_, by simp [cv, cvs, goInt], h2, h1, h⟩
    simp [Instr.next, hobj, hps, hdec, run_setSit hheap]
  · rw [nthN_eq] at hn
    have hp : ¬ it.pos < (bytesOf it.l).size := by rw [size_bytesOf]; have := List.getElem?_eq_none_iff.1 hn; omega
    refine .mk hr (u := .tuple #[.bool false]) ?_ (by simp [cv, cvs]) h
    simp [Instr.next, hobj, hp]
/-! ### calls -/
/-- a call's outcome -/
def Out (P : Program) (ρ : Val) (E : Mem) (s : St) (w : World) (k : Kv β) (r : β) (e : Ending) (w' : World) : Prop :=
  ∃ v u s' E', e = .returned u ∧ cv ρ E' v = some u ∧ Step E s w E' s' w' ∧ HRel ρ E' s' w' ∧ (k v s').run ρ = some r
def CallOk (P : Program) (call : CallT β) : Prop := ∀ ρ (r : β) f args s k E w us, (call f args s k).run ρ = some r → HRel ρ E s w → cvs ρ E args = some us →
  (∀ (as : Array Value) (w' : World), (callFunc f as).run P w' = .ok (.enter f as) w') ∧ Calls P f us.toArray w (Out P ρ E s w k r)
theorem CallOk.er {o : Oper} (hc : CallOk P call) (hr : HRel ρ E s w) {f : FuncId} {args : List AV} {us : List Value} (h : (call f args s k).run ρ = some r) (ha : cvs ρ E args = some us)
    (ho : (execOp a.eval o).run P w = (callFunc f us.toArray).run P w) : ER P ρ E s w o a k r := by
  obtain ⟨h1, h2⟩ := hc ρ r f args s k E w us h hr ha
  refine .enter (f := f) (args := us.toArray) (by rw [ho]; exact h1 _ _) (h2.mono ?_)
  rintro e w' ⟨v, u, s', E', rfl, hv, hs, hr', hk⟩
  exact ⟨u, rfl, v, s', E', hv, hs, hr', hk⟩
theorem er_callM {o : Oper} (hc : CallOk P call) (hr : HRel ρ E s w) {t : TypeId} {name : String} {v : AV} {uv : Value} {args : List AV} {us : List Value} (h : (doCallM P call args s k name ⟨t, v⟩).run ρ = some r) (hv : cv ρ E v = some uv) (ha : cvs ρ E args = some us)
    (ho : (execOp a.eval o).run P w = (callMethod (.iface t uv) name us.toArray).run P w) : ER P ρ E s w o a k r := by
  obtain ⟨m, hm, h⟩ := run_onMethod h
  obtain ⟨hd, h⟩ := run_guardB h
  have hd : m.deref = none := by simpa using hd
  refine hc.er hr h (cvs_cons_mk hv ha) ?_
  rw [ho]
  have := hm.same hd uv w (P.types.size + Made.depth - 1)
  have hdep : P.types.size + Made.depth - 1 + 1 = P.types.size + Made.depth := by have : 0 < Made.depth := by decide
                                                                                  omega
  rw [hdep] at this
  simp [callMethod, this]
theorem run_headTail {l : List AV} {f : AV → List AV → Tree β} (h : (headTail l f).run ρ = some r) : ∃ x m, l = x :: m ∧ (f x m).run ρ = some r := by
  cases l with
  | nil => cases h
  | cons x m => exact ⟨x, m, rfl, h⟩
theorem er_call {o : Oper} {c : Call} (hres : Res ρ E ds ls fr a) (hc : CallOk P call) (hr : HRel ρ E s w) (ho : o.op = .call c) (hcls : (trCall P ds c).cls = 2) (h : (evOp P (trCall P ds c) call ls fr s k).run ρ = some r) : ER P ρ E s w o a k r := by
  obtain ⟨cal, args, tys⟩ := c
  obtain ⟨dst, op, ty, pos, af, gd⟩ := o
  simp only at ho
  subst ho
  cases cal with
  | builtin b =>
    obtain ⟨al⟩ := args
    obtain ⟨tl⟩ := tys
    have fin : ∀ {m : Sem Value}, Eff P ρ E s w m k r → (∀ cs, builtin b ⟨tl⟩ ty cs ((⟨al⟩ : Array Operand).map a.eval) = (do pure (.value (← m)))) →
        ER P ρ E s w { dst := dst, op := .call { callee := .builtin b, args := ⟨al⟩, argTypes := ⟨tl⟩ }, type := ty, pos := pos, after := af, guard := gd } a k r := by
      intro m hm hb
      refine hm.er ?_
      simp only [execOp, resolve, invoke, pure_bind]
      exact hb _
    have h : (evOp P (trBuiltin P ds b ⟨al⟩ ⟨tl⟩) call ls fr s k).run ρ = some r := h
    have hcls : (trBuiltin P ds b ⟨al⟩ ⟨tl⟩).cls = 2 := hcls
    unfold trBuiltin at h hcls
    simp only at h hcls
    split at h
    · exfalso; split at h
      · rename_i hq; simp only [hq] at hcls; cases hcls
      · cases h
    · exfalso; split at h
      · rename_i hq; simp only [hq] at hcls; cases hcls
      · rename_i hq; simp only [hq] at hcls; cases hcls
      · cases h
    · exact fin (ef_append (ty := ty) hres hr h) (fun cs => by simp [builtin])
    · rename_i u _ _
      exact fin (ef_copy (ty := ty) (tl := u) hres hr h) (fun cs => by simp [builtin])
    · cases hcls
    · cases hcls
    · rename_i u _ _
      exact fin (ef_delete (ty := ty) (tl := u) hres hr h) (fun cs => by simp [builtin])
    · cases h
  | invoke x n =>
    obtain ⟨v, hv, h⟩ := run_onArg hres h
    obtain ⟨iv, hiv, h⟩ := run_onSome h
    obtain ⟨vs, hvs, h⟩ := run_onArgs hres h
    rw [asIf_eq hiv] at hv
    simp only [cv, Option.map_eq_some_iff] at hv
    obtain ⟨uv, huv, hx⟩ := hv
    refine er_callM hc hr h huv hvs ?_
    have harr : #[Value.iface iv.t uv] ++ args.map a.eval = (Value.iface iv.t uv :: (args.map a.eval).toList).toArray := by
      apply Array.ext'; simp
    simp only [execOp, resolve, invoke, ← hx, pure_bind, harr]
    simp [List.take_of_length_le]
  | value f =>
    have hv : ∀ x : Operand, (evOp P (.callV (trArg ds x) (trArgs ds args)) call ls fr s k).run ρ = some r →
        ER P ρ E s w { dst := dst, op := .call { callee := .value x, args := args, argTypes := tys }, type := ty, pos := pos, after := af, guard := gd } a k r := by
      intro x h
      obtain ⟨v, hv, h⟩ := run_onArg hres h
      obtain ⟨vs, hvs, h⟩ := run_onArgs hres h
      obtain ⟨fv, hfv, h⟩ := run_onSome h
      rw [asFn_eq hfv] at hv
      obtain ⟨fn, fst, cap⟩ := fv
      simp only [cv, Option.bind_eq_some_iff, Option.map_eq_some_iff] at hv
      obtain ⟨us, hus, uc, huc, hx⟩ := hv
      have hall := cvs_append hus hvs
      cases fn with
      | func g =>
        refine hc.er hr h (cvs_append hall huc) ?_
        have harr : us.toArray ++ args.map a.eval ++ uc.toArray = (us ++ (args.map a.eval).toList ++ uc).toArray := by
          apply Array.ext'; simp
        simp only [execOp, resolve, Deferred.ofValue, ← hx, pure_bind, invoke, harr]
      | method n =>
        obtain ⟨y, m, hm, h⟩ := run_headTail h
        obtain ⟨iv, hiv, h⟩ := run_onSome h
        simp only at hm hall
        rw [hm] at hall
        obtain ⟨uy, um, hum, huy, hum'⟩ := cvs_cons hall
        rw [asIf_eq hiv] at huy
        simp only [cv, Option.map_eq_some_iff] at huy
        obtain ⟨uv, huv, hy⟩ := huy
        refine er_callM hc hr h huv hum' ?_
        have harr : us.toArray ++ args.map a.eval = (uy :: um).toArray := by
          apply Array.ext'; simp [← hum]
        simp only [execOp, resolve, Deferred.ofValue, ← hx, pure_bind, invoke, harr]
        simp [← hy]
      | methodOf t n =>
        obtain ⟨y, m, hm, h⟩ := run_headTail h
        obtain ⟨b, hb, h⟩ := run_onSome h
        simp only at hm hall
        rw [hm] at hall
        obtain ⟨uy, um, hum, huy, hum'⟩ := cvs_cons hall
        unfold isIfaceT at hb
        obtain ⟨d, hd, hb⟩ := Option.map_eq_some_iff.1 hb
        have hd' := undA_eq hd
        have harr : us.toArray ++ args.map a.eval = (uy :: um).toArray := by
          apply Array.ext'; simp [← hum]
        rcases run_ifB h with ⟨hbt, h⟩ | ⟨hbf, h⟩
        · obtain ⟨iv, hiv, h⟩ := run_onSome h
          rw [asIf_eq hiv] at huy
          simp only [cv, Option.map_eq_some_iff] at huy
          obtain ⟨uv, huv, hy⟩ := huy
          refine er_callM hc hr h huv hum' ?_
          simp only [execOp, resolve, Deferred.ofValue, ← hx, pure_bind, invoke, harr]
          subst hbt
          cases d <;> simp at hb
          simp [run_underlying hd', ← hy]
        · refine er_callM hc hr h huy hum' ?_
          simp only [execOp, resolve, Deferred.ofValue, ← hx, pure_bind, invoke, harr]
          subst hbf
          cases d <;> simp at hb <;> simp [run_underlying hd']
      | _ => cases h
    cases f with
    | func g =>
      obtain ⟨vs, hvs, h⟩ := run_onArgs hres h
      refine hc.er hr h hvs ?_
      have harr : (#[] : Array Value) ++ args.map a.eval ++ #[] = (args.map a.eval).toList.toArray := by
        apply Array.ext'; simp
      simp only [execOp, resolve, Deferred.ofValue, invoke, Act.eval, pure_bind, harr]
    | tmp t => exact hv _ h
    | const v => exact hv _ h
    | global g => exact hv _ h
end Go.Ab
end

section
namespace Go.Ab
variable {β : Type} {P : Program} {ρ : Val} {E : Mem} {s : St} {w : World} {r : β} {k : Kv β}
variable {ds : List (Option Nat)} {ls : List AV} {fr : Fr} {a : Act} {call : CallT β}

theorem c0_build (t : TypeId) (ps : Array (Nat × Operand)) : (trBuild P ds t ps).cls = 0 := by
  unfold trBuild
  split
  · split
    · cases sizesOk P _ <;> rfl
    · rfl
  · split <;> rfl
  · rfl
theorem c0_bin (o : BinOp) (t : TypeId) (x y : Operand) : (trBin P ds o t x y).cls = 0 := by
  unfold trBin
  split
  · cases o <;> rfl
  · rfl
  · cases o <;> rfl
  · rfl
theorem c0_assert (x : Operand) (t : TypeId) (ok : Bool) : (trAssert P ds x t ok).cls = 0 := by
  unfold trAssert
  split
  · split
    · rename_i z _
      cases z.isNil 5 <;> rfl
    · rfl
  · split <;> rfl
  · rfl
/-- every operation, in the order of the text -/
theorem op_ok {o : Oper} (hres : Res ρ E ds ls fr a) (hc : CallOk P call) (hr : HRel ρ E s w) (hnd : isDefer o.op = false) (h : (evOp P (trOp P ds o.op) call ls fr s k).run ρ = some r) : ER P ρ E s w o a k r := by
  by_cases h0 : (trOp P ds o.op).cls = 0
  · exact .quiet hr (quiet_ok hres hr h0 h)
  by_cases h1 : (trOp P ds o.op).cls = 1
  · exact .alloc hr (alloc_ok hres hr.asm h1 h)
  cases hop : o.op with
  | store t x y => rw [hop] at h; exact er_st hres hr hop h
  | mapUpdate t x y z =>
    rw [hop] at h
    refine er_upd hres hr ?_ h
    obtain ⟨_, op, _, _, _, _⟩ := o
    simp only at hop
    subst hop
    rfl
  | insert t x y z =>
    rw [hop] at h
    refine er_upd hres hr ?_ h
    obtain ⟨_, op, _, _, _, _⟩ := o
    simp only at hop
    subst hop
    rfl
  | range t x =>
    rw [hop] at h
    refine (ef_rng hres hr h).er ?_
    obtain ⟨_, op, _, _, _, _⟩ := o
    simp only at hop
    subst hop
    rfl
  | next x b =>
    rw [hop] at h
    cases b with
    | false => cases h
    | true =>
      refine (ef_next (ty := o.type) hres hr h).er ?_
      obtain ⟨_, op, _, _, _, _⟩ := o
      simp only at hop
      subst hop
      rfl
  | convert st dt x =>
    rw [hop] at h h0
    have hc2 : (trConv P ds st dt x).cls = 2 := by
      revert h0
      simp only [trOp]
      unfold trConv
      (repeat' split) <;> (intro h0; first | rfl | exact absurd rfl h0)
    refine (ef_s2b hres hr hc2 h).er ?_
    obtain ⟨_, op, _, _, _, _⟩ := o
    simp only at hop
    subst hop
    rfl
  | call c =>
    rw [hop] at h h0 h1
    refine er_call hres hc hr hop ?_ h
    have h01 : ∀ (x : AOp), ¬ x.cls = 0 → ¬ x.cls = 1 → x.cls = 2 := by
      intro x h0 h1
      cases x <;> first | rfl | exact absurd rfl h0 | exact absurd rfl h1
    exact h01 _ h0 h1
  | defer c => rw [hop] at hnd; cases hnd
  | move x => rw [hop] at h0; exact absurd rfl h0
  | assign x => rw [hop] at h0; exact absurd rfl h0
  | pick c x y => rw [hop] at h0; exact absurd rfl h0
  | alloc e =>
    rw [hop] at h h1
    rcases cls_alloc (P := P) (ds := ds) e with hx | ⟨m, hx⟩
    · exact absurd hx h1
    · rw [show trOp P ds (.alloc e) = .no m from hx] at h
      cases h
  | box e x => rw [hop] at h1; exact absurd rfl h1
  | build t ps => rw [hop] at h0; exact absurd (c0_build t ps) h0
  | buildSlice t n ps =>
    rw [hop] at h h1
    rcases cls_bslice (P := P) (ds := ds) t n ps with hx | ⟨m, hx⟩
    · exact absurd hx h1
    · rw [show trOp P ds (.buildSlice t n ps) = .no m from hx] at h
      cases h
  | load t x => rw [hop] at h0; revert h0; simp only [trOp]; (repeat' split) <;> (intro h0; exact absurd rfl h0)
  | nilCheck x => rw [hop] at h0; exact absurd rfl h0
  | binOp o' t x y => rw [hop] at h0; exact absurd (c0_bin o' t x y) h0
  | unOp o' t x => rw [hop] at h0; exact absurd rfl h0
  | makeInterface t x => rw [hop] at h0; revert h0; simp only [trOp]; (repeat' split) <;> (intro h0; exact absurd rfl h0)
  | makeFunc f x y => rw [hop] at h0; exact absurd rfl h0
  | makeMap t x =>
    cases x with
    | none => rw [hop] at h1; exact absurd rfl h1
    | some x => rw [hop] at h; cases h
  | makeSlice t x y =>
    rw [hop] at h h1
    rcases cls_mksl (P := P) (ds := ds) t x y with hx | ⟨m, hx⟩
    · exact absurd hx h1
    · rw [show trOp P ds (.makeSlice t x y) = .no m from hx] at h
      cases h
  | slice t x lo hi mx => rw [hop] at h0; revert h0; simp only [trOp]; unfold trSlice; (repeat' split) <;> (intro h0; exact absurd rfl h0)
  | fieldAddr t x f => rw [hop] at h0; revert h0; simp only [trOp]; unfold trFadr; (repeat' split) <;> (intro h0; exact absurd rfl h0)
  | field t x f => rw [hop] at h0; revert h0; simp only [trOp]; unfold trFld; (repeat' split) <;> (intro h0; exact absurd rfl h0)
  | indexAddr t x i => rw [hop] at h0; revert h0; simp only [trOp]; unfold trIxa; (repeat' split) <;> (intro h0; exact absurd rfl h0)
  | index t x i => rw [hop] at h0; revert h0; simp only [trOp]; unfold trIx; (repeat' split) <;> (intro h0; exact absurd rfl h0)
  | lookup t x i ok => rw [hop] at h0; revert h0; simp only [trOp]; unfold trLookup; (repeat' split) <;> (intro h0; exact absurd rfl h0)
  | typeAssert x xt t ok => rw [hop] at h0; exact absurd (c0_assert x t ok) h0
  | extract x i => rw [hop] at h0; exact absurd rfl h0
  | _ => rw [hop] at h; cases h
end Go.Ab
end

section
namespace Go.Ab
variable {β : Type} {P : Program} {ρ : Val} {E : Mem} {s : St} {w : World} {r : β} {k : Kv β}
variable {ds : List (Option Nat)} {ls : List AV} {fr : Fr} {a : Act} {call : CallT β}

/-! ### frames -/
/-- a deferred call -/
def DRel1 (ρ : Val) (E : Mem) (d : AV × List AV) (x : Deferred) : Prop := ∃ fn fst cap us ufst ucap, d.1 = .func fn fst cap ∧ cvs ρ E fst = some ufst ∧ cvs ρ E cap = some ucap ∧ cvs ρ E d.2 = some us ∧
  x = { target := .fn fn ucap.toArray, args := ufst.toArray ++ us.toArray }
inductive DRel (ρ : Val) (E : Mem) : List (AV × List AV) → List Deferred → Prop
  | nil : DRel ρ E [] []
  | cons {d : AV × List AV} {x : Deferred} {l : List (AV × List AV)} {xs : List Deferred} : DRel1 ρ E d x → DRel ρ E l xs → DRel ρ E (d :: l) (x :: xs)
structure FrRel (ρ : Val) (nt mask : Nat) (E : Mem) (fr : Fr) (a : Act) : Prop where
  size : a.tmps.size = nt
  val : ∀ t v, fr.tmps.get (posOf t) = some v → cv ρ E v = some (a.tmps.getD t undef)
  key : ∀ t v, fr.tmps.get (posOf t) = some v → mask.testBit t = true
  defs : DRel ρ E fr.defs a.defers
/-- the region's own values -/
def LRel (ρ : Val) (E : Mem) (ds : List (Option Nat)) (ls : List AV) (a : Act) : Prop :=
  ∀ t j v, findD t ds 0 = some j → nthL j ls = some v → cv ρ E v = some (a.tmps.getD t undef)
theorem DRel1.mono {E' : Mem} (hE : Mem.Le E E') {d : AV × List AV} {x : Deferred} (h : DRel1 ρ E d x) : DRel1 ρ E' d x := by
  obtain ⟨fn, fst, cap, us, ufst, ucap, h1, h2, h3, h4, h5⟩ := h
  exact ⟨fn, fst, cap, us, ufst, ucap, h1, cvs_mono hE h2, cvs_mono hE h3, cvs_mono hE h4, h5⟩
theorem DRel.mono {E' : Mem} (hE : Mem.Le E E') : ∀ {l : List (AV × List AV)} {xs : List Deferred}, DRel ρ E l xs → DRel ρ E' l xs
  | _, _, .nil => .nil
  | _, _, .cons h h' => .cons (h.mono hE) (h'.mono hE)
variable {nt mask : Nat}
theorem FrRel.mono {E' : Mem} (hE : Mem.Le E E') (h : FrRel ρ nt mask E fr a) : FrRel ρ nt mask E' fr a :=
  ⟨h.size, fun t v hv => cv_mono hE (h.val t v hv), h.key, h.defs.mono hE⟩
theorem LRel.mono {E' : Mem} (hE : Mem.Le E E') (h : LRel ρ E ds ls a) : LRel ρ E' ds ls a := fun t j v h1 h2 => cv_mono hE (h t j v h1 h2)
theorem undefA_cv : cv ρ E undefA = some undef := by simp [undefA, cv, cvs, undef]
theorem findD_ge : ∀ (t : Nat) (ds : List (Option Nat)) (n j : Nat), findD t ds n = some j → n ≤ j
  | t, [], n, j, h => by cases h
  | t, none :: ds, n, j, h => by have := findD_ge t ds (n + 1) j h; omega
  | t, some u :: ds, n, j, h => by
    have h' : (Bool.rec (motive := fun _ => Option Nat) (findD t ds (n + 1)) (some n) (Nat.beq u t)) = some j := h
    cases hb : Nat.beq u t with
    | true => rw [hb] at h'; cases h'; exact Nat.le_refl _
    | false => rw [hb] at h'; have := findD_ge t ds (n + 1) j h'; omega
theorem findD_shift : ∀ (t : Nat) (ds : List (Option Nat)) (n j : Nat), findD t ds (n + 1) = some j → ∃ j', j = j' + 1 ∧ findD t ds n = some j'
  | t, [], n, j, h => by cases h
  | t, none :: ds, n, j, h => findD_shift t ds (n + 1) j h
  | t, some u :: ds, n, j, h => by
    have h' : (Bool.rec (motive := fun _ => Option Nat) (findD t ds (n + 2)) (some (n + 1)) (Nat.beq u t)) = some j := h
    cases hb : Nat.beq u t with
    | true =>
      rw [hb] at h'; cases h'
      refine ⟨n, rfl, ?_⟩
      show (Bool.rec (motive := fun _ => Option Nat) (findD t ds (n + 1)) (some n) (Nat.beq u t)) = some n
      rw [hb]
    | false =>
      rw [hb] at h'
      obtain ⟨j', h1, h2⟩ := findD_shift t ds (n + 1) j h'
      refine ⟨j', h1, ?_⟩
      show (Bool.rec (motive := fun _ => Option Nat) (findD t ds (n + 1)) (some n) (Nat.beq u t)) = some j'
      rw [hb]
      exact h2
theorem nthL_succ (j : Nat) (v : AV) (ls : List AV) : nthL (j + 1) (v :: ls) = nthL j ls := rfl
/-- a value is yielded -/
theorem LRel.put {dst : Option Nat} {v : AV} {u : Value} (h : LRel ρ E ds ls a) (hv : cv ρ E v = some u) (hd : dstOk a.tmps.size dst = true) : LRel ρ E (dst :: ds) (v :: ls) (a.put dst u) := by
  intro t j x hj hx
  have skip : ∀ (a' : Act), findD t ds 1 = some j → a'.tmps.getD t undef = a.tmps.getD t undef → cv ρ E x = some (a'.tmps.getD t undef) := by
    intro a' hf he
    obtain ⟨j', rfl, hj'⟩ := findD_shift t ds 0 j hf
    rw [nthL_succ] at hx
    rw [he]
    exact h t j' x hj' hx
  cases dst with
  | none => exact skip _ hj rfl
  | some d =>
    have hj' : (Bool.rec (motive := fun _ => Option Nat) (findD t ds 1) (some 0) (Nat.beq d t)) = some j := hj
    cases hb : Nat.beq d t with
    | true =>
      rw [hb] at hj'; cases hj'
      have e : d = t := by simpa using hb
      subst e
      have hlt : d < a.tmps.size := by simpa [dstOk] using hd
      simp only [nthL_eq, List.getElem?_cons_zero, Option.some.injEq] at hx
      subst hx
      simp [Act.put, hlt, hv]
    | false =>
      rw [hb] at hj'
      have e : d ≠ t := by intro e; subst e; simp at hb
      refine skip _ hj' ?_
      simp [Act.put, Array.getD_eq_getD_getElem?, Array.getElem?_setIfInBounds, e]
theorem Act.put_size (a : Act) (dst : Option Nat) (u : Value) : (a.put dst u).tmps.size = a.tmps.size := by cases dst <;> simp [Act.put]
theorem Act.put_defers (a : Act) (dst : Option Nat) (u : Value) : (a.put dst u).defers = a.defers := by cases dst <;> simp [Act.put]
theorem FrRel.put {dst : Option Nat} {v : AV} {u : Value} (h : FrRel ρ nt mask E fr a) (hv : cv ρ E v = some u) (hd : dstOk nt dst = true) : FrRel ρ nt mask E (fr.store (trDst mask dst) v) (a.put dst u) := by
  cases dst with
  | none => exact h
  | some d =>
    have hlt : d < a.tmps.size := by rw [h.size]; simpa [dstOk] using hd
    have hother : ∀ t, t ≠ d → (a.put (some d) u).tmps.getD t undef = a.tmps.getD t undef := fun t ht => by
      simp [Act.put, Array.getD_eq_getD_getElem?, Array.getElem?_setIfInBounds, Ne.symm ht]
    cases hm : Nat.testBit mask d with
    | false =>
      have hst : fr.store (trDst mask (some d)) v = fr := by simp [trDst, hm, Fr.store]
      rw [hst]
      refine ⟨by rw [Act.put_size]; exact h.size, fun t x hx => ?_, h.key, by rw [Act.put_defers]; exact h.defs⟩
      rw [hother t (fun e => by subst e; have := h.key t x hx; rw [hm] at this; cases this)]
      exact h.val t x hx
    | true =>
      have hst : fr.store (trDst mask (some d)) v = ⟨fr.tmps.put (posOf d) (some v), fr.defs⟩ := by simp [trDst, hm, Fr.store]
      rw [hst]
      refine ⟨by rw [Act.put_size]; exact h.size, fun t x hx => ?_, fun t x hx => ?_, by rw [Act.put_defers]; exact h.defs⟩
      · simp only [Trie.get_put] at hx
        by_cases e : posOf t = posOf d
        · rw [if_pos e] at hx
          have := posOf_inj e
          subst this
          cases hx
          simp [Act.put, hlt, hv]
        · rw [if_neg e] at hx
          rw [hother t (fun e' => e (by rw [e']))]
          exact h.val t x hx
      · simp only [Trie.get_put] at hx
        by_cases e : posOf t = posOf d
        · rw [posOf_inj e]; exact hm
        · rw [if_neg e] at hx; exact h.key t x hx
theorem cstArg_ok {v : Value} {x : AV} (h : argV (cstArg (abst v)) ls fr = some x) : cv ρ E x = some v := by
  unfold cstArg at h
  cases hc : closedF 8 (abst v) with
  | false => rw [hc] at h; cases h
  | true =>
    rw [hc] at h
    cases h
    obtain ⟨u, hu⟩ := closedF_cv (ρ := ρ) (E := E) 8 hc
    rw [hu, abst_cv hu]
theorem res_of (hf : FrRel ρ nt mask E fr a) (hl : LRel ρ E ds ls a) : Res ρ E ds ls fr a := by
  intro x v hv
  cases x with
  | tmp t =>
    unfold trArg at hv
    simp only at hv
    cases hj : findD t ds 0 with
    | some j => rw [hj] at hv; exact hl t j v hj hv
    | none => rw [hj] at hv; exact hf.val t v hv
  | const c => exact cstArg_ok hv
  | global g => cases hv
  | func f => cases hv; simp [cv, cvs, Act.eval]

/-! ### a guard -/
theorem guardV_ok {ops : Array Oper} {j : Nat} {want : Bool} {t : Nat} {v : AV} {f : Bool → St → Tree β} (ht : (ops[j]?).bind (·.dst) = some t) (hlt : t < a.tmps.size) (hv : cv ρ E v = some (a.tmps.getD t undef)) (ha : AsmOk ρ s.asm) (h : (guardV v want s f).run ρ = some r) :
    ∃ b s', More ρ s s' ∧ (f b s').run ρ = some r ∧ b = (yielded ops a.tmps j == some want) := by
  have hget : a.tmps[t]? = some (a.tmps.getD t undef) := by
    rw [Array.getD_eq_getD_getElem?, Array.getElem?_eq_getElem hlt]; rfl
  have hy : ((ops[j]?).bind (·.dst)).bind (a.tmps[·]?) = some (a.tmps.getD t undef) := by rw [ht]; exact hget
  rcases run_ifB h with ⟨hb, h⟩ | ⟨_, h⟩
  · refine ⟨false, s, .refl ha, h, ?_⟩
    obtain ⟨vs, hvs⟩ := Option.isSome_iff_exists.1 hb
    rw [asTup_eq hvs] at hv
    simp only [cv, Option.map_eq_some_iff] at hv
    obtain ⟨us, _, hu⟩ := hv
    unfold yielded
    rw [hy, ← hu]
    rfl
  · obtain ⟨b, s', hb, hm, h⟩ := run_onBool (E := E) ha h
    rw [hb] at hv
    simp only [Option.some.injEq] at hv
    refine ⟨_, s', hm, h, ?_⟩
    unfold yielded
    rw [hy, ← hv]
    cases b <;> cases want <;> rfl
end Go.Ab
end

section
namespace Go.Ab
variable {β : Type} {P : Program} {ρ : Val} {E : Mem} {s : St} {w : World} {r : β} {k : Kv β}
variable {ds : List (Option Nat)} {ls : List AV} {fr : Fr} {a : Act} {call : CallT β} {nt mask : Nat}

theorem trGuard_some {ops : Array Oper} {g : Option (Nat × Bool)} {x : Option (Nat × Bool)} (h : trGuard ops ds g = some x) :
    (g = none ∧ x = none) ∨ ∃ j want t i, g = some (j, want) ∧ (ops[j]?).bind (·.dst) = some t ∧ findD t ds 0 = some i ∧ x = some (i, want) := by
  cases g with
  | none => simp [trGuard] at h; exact .inl ⟨rfl, h.symm⟩
  | some g =>
    obtain ⟨j, want⟩ := g
    right
    simp only [trGuard] at h
    cases ht : (ops[j]?).bind (·.dst) with
    | none => rw [ht] at h; cases h
    | some t =>
      rw [ht] at h
      simp only [Option.map_eq_some_iff] at h
      obtain ⟨i, hi, rfl⟩ := h
      exact ⟨j, want, t, i, rfl, ht, hi, rfl⟩
theorem findD_lt : ∀ (t : Nat) (ds : List (Option Nat)) (n i : Nat), findD t ds n = some i → ∃ d ∈ ds, d = some t
  | t, [], n, i, h => by cases h
  | t, none :: ds, n, i, h => by
    obtain ⟨d, hd, e⟩ := findD_lt t ds (n + 1) i h
    exact ⟨d, List.mem_cons_of_mem _ hd, e⟩
  | t, some u :: ds, n, i, h => by
    have h' : (Bool.rec (motive := fun _ => Option Nat) (findD t ds (n + 1)) (some n) (Nat.beq u t)) = some i := h
    cases hb : Nat.beq u t with
    | true => exact ⟨some u, List.mem_cons_self .., by rw [show u = t from by simpa using hb]⟩
    | false =>
      rw [hb] at h'
      obtain ⟨d, hd, e⟩ := findD_lt t ds (n + 1) i h'
      exact ⟨d, List.mem_cons_of_mem _ hd, e⟩
/-- the temporaries that a region has defined lie in the frame -/
def DsOk (nt : Nat) (ds : List (Option Nat)) : Prop := ∀ d ∈ ds, dstOk nt d = true
theorem DsOk.lt {t i : Nat} (h : DsOk nt ds) (hf : findD t ds 0 = some i) : t < nt := by
  obtain ⟨d, hd, rfl⟩ := findD_lt t ds 0 i hf
  simpa [dstOk] using h _ hd
/-- the operation's own part -/
theorem runOp_ok {o : Oper} {ao : AOper} {ih : List AV → Fr → St → Tree β} {Q : Exit → Act → World → Prop} {K : Act → World → Prop} (hao : ao = ⟨trDst mask o.dst, ao.guard, trOp P ds o.op, isDefer o.op⟩) (hd : dstOk nt o.dst = true) (hc : CallOk P call) (hr : HRel ρ E s w) (hf : FrRel ρ nt mask E fr a)
    (hl : LRel ρ E ds ls a) (h : (runOp P call ao ih ls fr s).run ρ = some r)
    (hK : ∀ ls' fr' s' E' a' w', (ih ls' fr' s').run ρ = some r → Step E s w E' s' w' → HRel ρ E' s' w' → FrRel ρ nt mask E' fr' a' → LRel ρ E' (o.dst :: ds) ls' a' → K a' w') : o.wp P a w K Q := by
  have hres := res_of hf hl
  rw [hao] at h
  rcases run_ifB h with ⟨hb, h⟩ | ⟨hb, h⟩
  · obtain ⟨d, hd', h⟩ := run_onSome h
    obtain ⟨dst, op, ty, pos, af, gd⟩ := o
    have hb : isDefer op = true := hb
    have hop : ∃ c, op = .defer c := by cases op <;> first | (cases hb; done) | exact ⟨_, rfl⟩
    obtain ⟨⟨cal, args, tys⟩, hop⟩ := hop
    subst hop
    cases cal with
    | invoke _ _ => cases hd'
    | builtin _ => cases hd'
    | value f =>
      cases hd'
      obtain ⟨vf, hvf, h⟩ := run_onArg hres h
      obtain ⟨fv, hfv, h⟩ := run_onSome h
      obtain ⟨vs, hvs, h⟩ := run_onArgs hres h
      have hfe := asFn_eq hfv
      rw [hfe] at hvf
      simp only [cv, Option.bind_eq_some_iff, Option.map_eq_some_iff] at hvf
      obtain ⟨us, hus, uc, huc, hx⟩ := hvf
      have hrun : (execOp a.eval { dst := dst, op := .defer { callee := .value f, args := args, argTypes := tys }, type := ty, pos := pos, after := af, guard := gd }).run P w =
          .ok (.defer { target := .fn fv.fn uc.toArray, args := us.toArray ++ (args.map a.eval).toList.toArray }) w := by
        simp [execOp, resolve, Deferred.ofValue, ← hx]
      unfold Oper.wp
      rw [hrun, Oper.upon_defer]
      have hput : ({ a with defers := { target := .fn fv.fn uc.toArray, args := us.toArray ++ (args.map a.eval).toList.toArray } :: a.defers } : Act).put dst undef =
          { a.put dst undef with defers := { target := .fn fv.fn uc.toArray, args := us.toArray ++ (args.map a.eval).toList.toArray } :: a.defers } := by cases dst <;> rfl
      simp only
      rw [hput]
      have hf2 := hf.put (dst := dst) undefA_cv hd
      refine hK _ _ _ E _ _ h (.refl ..) hr ⟨hf2.size, hf2.val, hf2.key, ?_⟩ (fun t j v h1 h2 => ?_)
      · refine .cons ⟨fv.fn, fv.first, fv.cap, _, us, uc, hfe, hus, huc, hvs, rfl⟩ ?_
        have := hf2.defs
        rw [Act.put_defers] at this
        exact hf.defs
      · exact hl.put (dst := dst) undefA_cv (by rw [hf.size]; exact hd) t j v h1 h2
  · have hb : isDefer o.op = false := hb
    have her := op_ok hres hc hr hb h
    refine Yields.wp her fun u w' ⟨v, s', E', hv, hst, hr', hk⟩ => ?_
    exact hK _ _ _ E' _ _ hk hst hr' ((hf.mono hst.le).put hv hd) ((hl.mono hst.le).put hv (by rw [hf.size]; exact hd))
theorem region_ok {ops : Array Oper} {Q : Exit → Act → World → Prop} {K : Fr → St → Tree β} (hc : CallOk P call) : ∀ (l : List Oper) (pre : List Oper) (hops : ops.toList = pre ++ l) (ds : List (Option Nat)) (ls : List AV) (fr : Fr) (s : St) (E : Mem) (w : World) (a : Act),
    (runR P call (trOps P nt mask ops l ds) K ls fr s).run ρ = some r → HRel ρ E s w → FrRel ρ nt mask E fr a → LRel ρ E ds ls a → DsOk nt ds →
    (∀ fr' s' E' w' a', (K fr' s').run ρ = some r → Step E s w E' s' w' → HRel ρ E' s' w' → FrRel ρ nt mask E' fr' a' → Q .normal a' w') →
    wpOps P ops Q (List.range' pre.length l.length) a w
  | [], pre, hops, ds, ls, fr, s, E, w, a, h, hr, hf, hl, hds, hK => by
    show Q .normal a w
    exact hK fr s E w a h (.refl ..) hr hf
  | o :: l, pre, hops, ds, ls, fr, s, E, w, a, h, hr, hf, hl, hds, hK => by
    have hoi : ops[pre.length]? = some o := by
      rw [← Array.getElem?_toList, hops]; simp
    have hrange : List.range' pre.length (o :: l).length = pre.length :: List.range' (pre ++ [o]).length l.length := by
      simp [List.range'_succ]
    rw [hrange, wpOps_cons]
    unfold wpOp
    rw [hoi]
    simp only
    have hR : (runR P call (trOps P nt mask ops (o :: l) ds) K ls fr s) = runR1 P call (trOper P nt mask ops ds o) (trOps P nt mask ops l (o.dst :: ds)) (runR P call (trOps P nt mask ops l (o.dst :: ds)) K) ls fr s := rfl
    rw [hR] at h
    unfold trOper at h
    cases hd : dstOk nt o.dst with
    | false =>
      rw [hd] at h
      rcases run_onSomeOr h with ⟨_, hg, _⟩ | ⟨_, h⟩
      · cases hg
      · cases h
    | true =>
    rw [hd] at h
    simp only [cond_true] at h
    have hds' : DsOk nt (o.dst :: ds) := fun d hd' => by
      rcases List.mem_cons.1 hd' with rfl | hd'
      · exact hd
      · exact hds d hd'
    have hnext : ∀ {s0 : St} {ls' : List AV} {fr' : Fr} {s' : St} {E' : Mem} {a' : Act} {w' : World}, (runR P call (trOps P nt mask ops l (o.dst :: ds)) K ls' fr' s').run ρ = some r → Step E s w E' s' w' → HRel ρ E' s' w' → FrRel ρ nt mask E' fr' a' →
        LRel ρ E' (o.dst :: ds) ls' a' → wpOps P ops Q (List.range' (pre ++ [o]).length l.length) a' w' := by
      intro _ ls' fr' s' E' a' w' h' hst hr' hf' hl'
      refine region_ok hc l (pre ++ [o]) (by rw [hops]; simp) (o.dst :: ds) ls' fr' s' E' w' a' h' hr' hf' hl' hds' ?_
      intro fr2 s2 E2 w2 a2 h2 hst2 hr2 hf2
      exact hK fr2 s2 E2 w2 a2 h2 (hst.trans hst2) hr2 hf2
    cases hg : trGuard ops ds o.guard with
    | none =>
      rw [hg] at h
      rcases run_onSomeOr h with ⟨_, hg', _⟩ | ⟨_, h⟩
      · cases hg'
      · cases h
    | some g =>
      rw [hg] at h
      rcases trGuard_some hg with ⟨hgn, rfl⟩ | ⟨j, want, t, i, hgs, ht, hi, rfl⟩
      · rcases run_onSomeOr h with ⟨_, hg', _⟩ | ⟨_, h⟩
        · cases hg'
        have hw : Region.wanted o (yielded ops a.tmps) = true := by simp [Region.wanted, hgn]
        rw [if_pos hw]
        exact .inl (runOp_ok (ao := ⟨trDst mask o.dst, none, trOp P ds o.op, isDefer o.op⟩) rfl hd hc hr hf hl h fun ls' fr' s' E' a' w' h' hst hr' hf' hl' => hnext (s0 := s) h' hst hr' hf' hl')
      · rcases run_onSomeOr h with ⟨g', hg', h⟩ | ⟨hno, _⟩
        case inr => cases hno
        cases hg'
        obtain ⟨v, hv, h⟩ := run_onSome h
        have hlt : t < a.tmps.size := by rw [hf.size]; exact hds.lt hi
        obtain ⟨b, s', hm, h, hb⟩ := guardV_ok (ops := ops) (a := a) (E := E) ht hlt (hl t i v hi hv) hr.asm h
        have hwant : Region.wanted o (yielded ops a.tmps) = b := by simp [Region.wanted, hgs, hb]
        rw [hwant]
        have hr' := hr.more hm
        have hst0 : Step E s w E s' w := .more hm
        rcases run_ifB h with ⟨hbt, h⟩ | ⟨hbf, h⟩
        · rw [if_pos hbt]
          exact .inl (runOp_ok (ao := ⟨trDst mask o.dst, some (i, want), trOp P ds o.op, isDefer o.op⟩) rfl hd hc hr' hf hl h fun ls' fr' s'' E' a' w' h' hst hr'' hf' hl' => hnext (s0 := s) h' (hst0.trans hst) hr'' hf' hl')
        · rw [if_neg (by rw [hbf]; simp)]
          exact hnext (s0 := s) h hst0 hr' (hf.put undefA_cv hd) (hl.put undefA_cv (by rw [hf.size]; exact hd))
end Go.Ab
end

section
namespace Go.Ab
variable {β : Type} {P : Program} {ρ : Val} {E : Mem} {s : St} {w : World} {r : β} {k : Kv β}
variable {ds : List (Option Nat)} {ls : List AV} {fr : Fr} {a : Act} {call : CallT β} {nt mask : Nat}

def exA : AExit → Exit
  | .norm => .normal
  | .ret => .ret
  | .exit id => .exit id
  | .goto l => .goto l
/-- where a run of code comes to -/
def Post (ρ : Val) (nt mask : Nat) (E : Mem) (s : St) (w : World) (k : Kx β) (r : β) : Exit → Act → World → Prop :=
  fun e a' w' => ∃ ae fr' s' E', e = exA ae ∧ (k ae fr' s').run ρ = some r ∧ Step E s w E' s' w' ∧ HRel ρ E' s' w' ∧ FrRel ρ nt mask E' fr' a'
theorem Post.step {E' : Mem} {s' : St} {w' : World} {kx : Kx β} (hst : Step E s w E' s' w') {e : Exit} {a' : Act} {w'' : World} (h : Post ρ nt mask E' s' w' kx r e a' w'') : Post ρ nt mask E s w kx r e a' w'' := by
  obtain ⟨ae, fr', s2, E2, h1, h2, h3, h4, h5⟩ := h
  exact ⟨ae, fr', s2, E2, h1, h2, hst.trans h3, h4, h5⟩
/-- the region that draws its order -/
def DrawSound (P : Program) : Prop := ∀ (β : Type) (ρ : Val) (cd : CallT (AV × St)) (nt mask id : Nat) (ops : Array Oper) (fr : Fr) (s : St) (E : Mem) (w : World) (a : Act) (r : β) (K : Fr → St → Tree β) (Q : Exit → Act → World → Prop), CallOk P cd →
  drawOk ops (trOps P nt mask ops ops.toList []) = true → (doD P cd (trOps P nt mask ops ops.toList []) (winsOf ops (trOps P nt mask ops ops.toList [])) fr s K).run ρ = some r → HRel ρ E s w → FrRel ρ nt mask E fr a →
  (∀ fr' s' E' w' a', (K fr' s').run ρ = some r → Step E s w E' s' w' → HRel ρ E' s' w' → FrRel ρ nt mask E' fr' a' → Q .normal a' w') → (Code.region id ops true).wp P Q a w
/-- code with a scope around it -/
def ScopeRun (P : Program) (c x : Code) (Q : Exit → Act → World → Prop) (a : Act) (w : World) : Prop :=
  ∀ (b : Frame) (k : List Item) (cs : List Frame), ∃ e a' w', Q e a' w' ∧ Arrives P (lone (b.at a (.code x :: .inScope c :: k)) cs w) b k cs e a' w'
def LoopRun (P : Program) (c : Code) (Q : Exit → Act → World → Prop) (a : Act) (w : World) : Prop :=
  ∀ (b : Frame) (k : List Item) (cs : List Frame), ∃ e a' w', Q e a' w' ∧ Arrives P (lone (b.at a (.code c :: .inLoop c :: k)) cs w) b k cs e a' w'
theorem LoopRun.wp {c : Code} {Q : Exit → Act → World → Prop} (h : LoopRun P c Q a w) : (Code.loop c).wp P Q a w := by
  intro b k cs
  obtain ⟨e, a', w', hq, harr⟩ := h b k cs
  exact ⟨e, a', w', hq, .of_steps (.one step_loop) harr⟩
theorem LoopRun.mk {c : Code} {Q : Exit → Act → World → Prop} (h : c.wp P (Exit.then (fun a w => LoopRun P c Q a w) Q) a w) : LoopRun P c Q a w := by
  intro b k cs
  obtain ⟨e, a₁, w₁, hq, harr⟩ := h b (.inLoop c :: k) cs
  cases e with
  | normal =>
    obtain ⟨e₂, a₂, w₂, hq₂, harr₂⟩ := hq b k cs
    exact ⟨e₂, a₂, w₂, hq₂, .of_steps (Steps.trans harr (.one step_inLoop)) harr₂⟩
  | exit id => exact ⟨_, a₁, w₁, hq, .pass (x := .inLoop c) rfl (fun _ _ => .inl (by simp)) harr⟩
  | goto l => exact ⟨_, a₁, w₁, hq, .pass (x := .inLoop c) rfl (fun _ _ => .inl (by simp)) harr⟩
  | ret => exact ⟨_, a₁, w₁, hq, .pass (x := .inLoop c) rfl (fun _ _ => .inl (by simp)) harr⟩
  | panic ch => exact ⟨_, a₁, w₁, hq, .pass (x := .inLoop c) rfl (fun _ _ => .inl (by simp)) harr⟩
  | outgrown => exact ⟨_, a₁, w₁, hq, .pass (x := .inLoop c) rfl (fun _ _ => .inl (by simp)) harr⟩
theorem ScopeRun.wp {c : Code} {Q : Exit → Act → World → Prop} (h : ScopeRun P c c Q a w) : (Code.scope c).wp P Q a w := by
  intro b k cs
  obtain ⟨e, a', w', hq, harr⟩ := h b k cs
  exact ⟨e, a', w', hq, .of_steps (.one step_scope) harr⟩
/-- what must hold where the inner code of a scope ends -/
def ScopePost (P : Program) (c : Code) (Q : Exit → Act → World → Prop) : Exit → Act → World → Prop
  | .goto l, a, w => (∃ rest, findLabel c l = some rest ∧ ScopeRun P c rest Q a w) ∨ (findLabel c l = none ∧ Q (.goto l) a w)
  | e, a, w => Q e a w
theorem ScopeRun.mk {c x : Code} {Q : Exit → Act → World → Prop} (h : x.wp P (ScopePost P c Q) a w) : ScopeRun P c x Q a w := by
  intro b k cs
  obtain ⟨e, a₁, w₁, hq, harr⟩ := h b (.inScope c :: k) cs
  cases e with
  | normal => exact ⟨.normal, a₁, w₁, hq, Steps.trans harr (.one step_inScope)⟩
  | exit id => exact ⟨.exit id, a₁, w₁, hq, fun k' hk => harr k' (by simp [exitTo, hk])⟩
  | goto l =>
    rcases hq with ⟨rest, hf, hq⟩ | ⟨hf, hq⟩
    · obtain ⟨e₂, a₂, w₂, hq₂, harr₂⟩ := hq b k cs
      exact ⟨e₂, a₂, w₂, hq₂, .of_steps (harr _ (by simp [gotoIn, hf])) harr₂⟩
    · exact ⟨.goto l, a₁, w₁, hq, fun k' hk => harr k' (by simp [gotoIn, hf, hk])⟩
  | ret => exact ⟨_, a₁, w₁, hq, harr⟩
  | panic ch => exact ⟨_, a₁, w₁, hq, harr⟩
  | outgrown => exact ⟨_, a₁, w₁, hq, harr⟩

variable {C : Ctx} {cd : CallT (AV × St)}
/-- the executor's statement for one amount of fuel -/
structure ExOk (P : Program) (X : Ex β) : Prop where
  code : ∀ (ρ : Val) (nt mask : Nat) (c : Code) (fr : Fr) (s : St) (k : Kx β) (r : β) (E : Mem) (w : World) (a : Act), nt < 65536 → (X (tr P nt mask c) fr s k).run ρ = some r → HRel ρ E s w → FrRel ρ nt mask E fr a → c.wp P (Post ρ nt mask E s w k r) a w
  loop : ∀ (ρ : Val) (nt mask : Nat) (c : Code) (fr : Fr) (s : St) (k : Kx β) (r : β) (E : Mem) (w : World) (a : Act), nt < 65536 → (X (.loop (tr P nt mask c)) fr s k).run ρ = some r → HRel ρ E s w → FrRel ρ nt mask E fr a → LoopRun P c (Post ρ nt mask E s w k r) a w
  scope : ∀ (ρ : Val) (nt mask : Nat) (c x : Code) (fr : Fr) (s : St) (k : Kx β) (r : β) (E : Mem) (w : World) (a : Act), nt < 65536 → (X (.scope (nt + 65536 * mask) c (tr P nt mask x)) fr s k).run ρ = some r → HRel ρ E s w → FrRel ρ nt mask E fr a → ScopeRun P c x (Post ρ nt mask E s w k r) a w
theorem LRel.nil : LRel ρ E [] [] a := fun _ _ _ h _ => by cases h
theorem tr_scope (c : Code) : tr P nt mask (.scope c) = .scope (nt + 65536 * mask) c (tr P nt mask c) := rfl
section
variable {X : Ex β} (hX : ExOk P X) (hcall : CallOk P (callA C X)) (hcd : CallOk P cd) (hdraw : DrawSound P) (htr : ∀ m c, C.trCode m c = tr P (m % 65536) (m / 65536) c)
include hX
/-- a sequence, a loop: what follows -/
theorem after_ok {q : Kx β} {b : AC} {kx : Kx β} {Q : Exit → Act → World → Prop} {next : Act → World → Prop} (hq : q = afterSeq X b kx)
    (hn : ∀ fr' s' E' w' a', (X b fr' s' kx).run ρ = some r → Step E s w E' s' w' → HRel ρ E' s' w' → FrRel ρ nt mask E' fr' a' → next a' w')
    {e : Exit} {a' : Act} {w' : World} (h : Post ρ nt mask E s w q r e a' w') : Exit.then next (Post ρ nt mask E s w kx r) e a' w' := by
  obtain ⟨ae, fr', s', E', rfl, hk, hst, hr, hf⟩ := h
  subst hq
  cases ae with
  | norm => exact hn fr' s' E' w' a' hk hst hr hf
  | ret => exact ⟨.ret, fr', s', E', rfl, hk, hst, hr, hf⟩
  | exit id => exact ⟨.exit id, fr', s', E', rfl, hk, hst, hr, hf⟩
  | goto l => exact ⟨.goto l, fr', s', E', rfl, hk, hst, hr, hf⟩
theorem ex_loop (hnt : nt < 65536) {c : Code} {kx : Kx β} (h : (ex1 P C cd (.loop (tr P nt mask c)) X fr s kx).run ρ = some r) (hr : HRel ρ E s w) (hf : FrRel ρ nt mask E fr a) : LoopRun P c (Post ρ nt mask E s w kx r) a w := by
  have h : (X (tr P nt mask c) fr s (afterSeq X (.loop (tr P nt mask c)) kx)).run ρ = some r := h
  refine .mk (wp_mono (hX.code ρ nt mask c fr s _ r E w a hnt h hr hf) fun e a' w' hp => ?_)
  refine after_ok hX (Q := Post ρ nt mask E s w kx r) rfl (fun fr' s' E' w' a' h' hst hr' hf' => ?_) hp
  intro b k cs
  obtain ⟨e, a2, w2, hq, harr⟩ := hX.loop ρ nt mask c fr' s' kx r E' w' a' hnt h' hr' hf' b k cs
  exact ⟨e, a2, w2, hq.step hst, harr⟩
include htr
theorem ex_scope (hnt : nt < 65536) {c x : Code} {kx : Kx β} (h : (ex1 P C cd (.scope (nt + 65536 * mask) c (tr P nt mask x)) X fr s kx).run ρ = some r) (hr : HRel ρ E s w) (hf : FrRel ρ nt mask E fr a) : ScopeRun P c x (Post ρ nt mask E s w kx r) a w := by
  have h : (X (tr P nt mask x) fr s (afterScope C X (nt + 65536 * mask) c kx)).run ρ = some r := h
  refine .mk (wp_mono (hX.code ρ nt mask x fr s _ r E w a hnt h hr hf) fun e a' w' hp => ?_)
  obtain ⟨ae, fr', s', E', rfl, hk, hst, hr', hf'⟩ := hp
  cases ae with
  | norm => exact ⟨.norm, fr', s', E', rfl, hk, hst, hr', hf'⟩
  | ret => exact ⟨.ret, fr', s', E', rfl, hk, hst, hr', hf'⟩
  | exit id => exact ⟨.exit id, fr', s', E', rfl, hk, hst, hr', hf'⟩
  | goto l =>
    rcases run_onSomeOr (k := fun rest => X (.scope (nt + 65536 * mask) c (C.trCode (nt + 65536 * mask) rest)) fr' s' kx) hk with ⟨rest, hrest, hk⟩ | ⟨hno, hk⟩
    · refine .inl ⟨rest, hrest, ?_⟩
      rw [htr] at hk
      have h1 : (nt + 65536 * mask) % 65536 = nt := by omega
      have h2 : (nt + 65536 * mask) / 65536 = mask := by omega
      rw [h1, h2] at hk
      intro b k cs
      obtain ⟨e, a2, w2, hq, harr⟩ := hX.scope ρ nt mask c rest fr' s' kx r E' w' a' hnt hk hr' hf' b k cs
      exact ⟨e, a2, w2, hq.step hst, harr⟩
    · exact .inr ⟨hno, .goto l, fr', s', E', rfl, hk, hst, hr', hf'⟩
include hcall hcd hdraw
theorem ex_code (hnt : nt < 65536) {c : Code} {kx : Kx β} (h : (ex1 P C cd (tr P nt mask c) X fr s kx).run ρ = some r) (hr : HRel ρ E s w) (hf : FrRel ρ nt mask E fr a) : c.wp P (Post ρ nt mask E s w kx r) a w := by
  cases c with
  | skip => exact wp_skip ⟨.norm, fr, s, E, rfl, h, .refl .., hr, hf⟩
  | label l => exact wp_label ⟨.norm, fr, s, E, rfl, h, .refl .., hr, hf⟩
  | exit id => exact wp_exit ⟨.exit id, fr, s, E, rfl, h, .refl .., hr, hf⟩
  | goto l => exact wp_goto ⟨.goto l, fr, s, E, rfl, h, .refl .., hr, hf⟩
  | ret => exact wp_ret ⟨.ret, fr, s, E, rfl, h, .refl .., hr, hf⟩
  | refuse _ => cases h
  | rangeFunc _ _ _ _ => cases h
  | loop b => exact (ex_loop hX hnt h hr hf).wp
  | scope b => exact (ex_scope hX htr hnt h hr hf).wp
  | seq x y =>
    have h : (X (tr P nt mask x) fr s (afterSeq X (tr P nt mask y) kx)).run ρ = some r := h
    refine wp_seq (wp_mono (hX.code ρ nt mask x fr s _ r E w a hnt h hr hf) fun e a' w' hp => ?_)
    refine after_ok hX (Q := Post ρ nt mask E s w kx r) rfl (fun fr' s' E' w' a' h' hst hr' hf' => ?_) hp
    exact wp_mono (hX.code ρ nt mask y fr' s' kx r E' w' a' hnt h' hr' hf') fun e a2 w2 hq => hq.step hst
  | cond c x y =>
    have h : (onArg (trArg [] c) [] fr fun v => onBool 210 v s fun t s => X (bif t then tr P nt mask x else tr P nt mask y) fr s kx).run ρ = some r := h
    obtain ⟨v, hv, h⟩ := run_onArg (res_of (ds := []) hf LRel.nil) h
    obtain ⟨b, s', hb, hm, h⟩ := run_onBool (E := E) hr.asm h
    rw [hb] at hv
    refine wp_cond (t := b) (Option.some.inj hv).symm ?_
    cases b with
    | true => exact wp_mono (hX.code ρ nt mask x fr s' kx r E w a hnt h (hr.more hm) hf) fun e a2 w2 hq => hq.step (.more hm)
    | false => exact wp_mono (hX.code ρ nt mask y fr s' kx r E w a hnt h (hr.more hm) hf) fun e a2 w2 hq => hq.step (.more hm)
  | block id b =>
    have h : (X (tr P nt mask b) fr s (afterBlock id kx)).run ρ = some r := h
    refine wp_block (wp_mono (hX.code ρ nt mask b fr s _ r E w a hnt h hr hf) fun e a' w' hp => ?_)
    obtain ⟨ae, fr', s', E', rfl, hk, hst, hr', hf'⟩ := hp
    cases ae with
    | norm => exact ⟨.norm, fr', s', E', rfl, hk, hst, hr', hf'⟩
    | ret => exact ⟨.ret, fr', s', E', rfl, hk, hst, hr', hf'⟩
    | goto l => exact ⟨.goto l, fr', s', E', rfl, hk, hst, hr', hf'⟩
    | exit i =>
      show (if i = id then _ else _)
      rcases run_ifB (b := Nat.beq i id) (t := kx .norm fr' s') (e := kx (.exit i) fr' s') hk with ⟨hb, hk⟩ | ⟨hb, hk⟩
      · rw [if_pos (by simpa using hb)]
        exact ⟨.norm, fr', s', E', rfl, hk, hst, hr', hf'⟩
      · rw [if_neg (by intro e; subst e; simp at hb)]
        exact ⟨.exit i, fr', s', E', rfl, hk, hst, hr', hf'⟩
  | region id ops draw =>
    cases draw with
    | false =>
      have h : (runR P (callA C X) (trOps P nt mask ops ops.toList []) (kx .norm) [] fr s).run ρ = some r := h
      refine wp_region ?_
      have := region_ok (nt := nt) (mask := mask) (Q := Post ρ nt mask E s w kx r) hcall ops.toList [] rfl [] [] fr s E w a h hr hf LRel.nil (fun d hd => by cases hd)
        (fun fr' s' E' w' a' hk hst hr' hf' => ⟨.norm, fr', s', E', rfl, hk, hst, hr', hf'⟩)
      rw [List.range_eq_range']
      simpa using this
    | true =>
      obtain ⟨hok, h⟩ := run_guardB (b := drawOk ops (trOps P nt mask ops ops.toList [])) (w := 211) (t := doD P cd (trOps P nt mask ops ops.toList []) (winsOf ops (trOps P nt mask ops ops.toList [])) fr s (kx .norm)) h
      exact hdraw β ρ cd nt mask id ops fr s E w a r (kx .norm) _ hcd hok h hr hf (fun fr' s' E' w' a' hk hst hr' hf' => ⟨.norm, fr', s', E', rfl, hk, hst, hr', hf'⟩)
end
end Go.Ab
end

section
namespace Go.Ab
variable {β : Type} {P : Program} {ρ : Val} {E : Mem} {s : St} {w : World} {r : β} {k : Kv β}
variable {ds : List (Option Nat)} {ls : List AV} {fr : Fr} {a : Act} {call : CallT β} {nt mask : Nat}

/-! ### results -/
theorem run_loadCell {t : TypeId} {n : Option Nat} (hn : aggT P t = some n) (hr : HRel ρ E s w) {x : AV} {ux : Value} (hx : cv ρ E x = some ux) {v : AV} (h : (x.asPtr.bind fun a => s.load n a.p a.off) = some v) :
    ∃ u, cv ρ E v = some u ∧ (do loadVar t (← asAddr ux) : Sem Value).run P w = .ok u w := by
  obtain ⟨pa, hpa, hl⟩ := Option.bind_eq_some_iff.1 h
  have hd : (doLd n x s (fun v s => Tree.ok (v, s))).run ρ = some (v, s) := by
    unfold doLd
    rw [hpa]
    show (onSome _ (s.load n pa.p pa.off) _).run ρ = _
    rw [hl]
    rfl
  obtain ⟨v', u, s', hm, hv, hrun, hk⟩ := q_ld (P := P) hr hd hx hn
  simp only [Tree.run, Option.some.injEq, Prod.mk.injEq] at hk
  obtain ⟨rfl, rfl⟩ := hk
  refine ⟨u, hv, ?_⟩
  rw [asPtr_eq hpa] at hx
  simp only [cv, Option.map_eq_some_iff] at hx
  obtain ⟨c, hc, rfl⟩ := hx
  simpa [Instr.loadAt, Instr.sureAddr, asAddr] using hrun
def resSem (a : Act) (x : ResultVar) : Sem Value :=
  match x with
  | .tmp t => pure (a.tmps.getD t undef)
  | .cell t ty => do loadVar ty (← asAddr (a.tmps.getD t undef))
theorem DRel.nil_eq {xs : List Deferred} (h : DRel ρ E [] xs) : xs = [] := by cases h; rfl
theorem resVs_ok (hr : HRel ρ E s w) (hf : FrRel ρ nt mask E fr a) : ∀ {rl : List ResultVar} {res : List ARes} {vs : List AV}, trRess P rl = some res → resVs fr s res = some vs →
    ∃ us, cvs ρ E vs = some us ∧ (rl.mapM (resSem a)).run P w = .ok us w
  | [], res, vs, h1, h2 => by
    simp [trRess] at h1; subst h1
    simp [resVs] at h2; subst h2
    exact ⟨[], by simp [cvs], rfl⟩
  | x :: rl, res, vs, h1, h2 => by
    unfold trRess at h1
    cases hx : trRes P x with
    | none => rw [hx] at h1; cases h1
    | some y =>
      cases hl : trRess P rl with
      | none => rw [hx, hl] at h1; cases h1
      | some ys =>
        rw [hx, hl] at h1
        simp only [Option.some.injEq] at h1
        subst h1
        have h2 : ((resV y fr s).bind fun v => (resVs fr s ys).map fun vs => v :: vs) = some vs := h2
        obtain ⟨v, hv, h2⟩ := Option.bind_eq_some_iff.1 h2
        obtain ⟨vs', hvs', rfl⟩ := Option.map_eq_some_iff.1 h2
        obtain ⟨us, hus, hrun⟩ := resVs_ok hr hf hl hvs'
        have hone : ∃ u, cv ρ E v = some u ∧ (resSem a x).run P w = .ok u w := by
          cases x with
          | tmp t =>
            cases hx
            exact ⟨_, hf.val t v hv, rfl⟩
          | cell t ty =>
            simp only [trRes, Option.map_eq_some_iff] at hx
            obtain ⟨n, hn, rfl⟩ := hx
            have hv : ((fr.tmps.get (posOf t)).bind fun v => v.asPtr.bind fun a => s.load n a.p a.off) = some v := hv
            obtain ⟨p, hp, hv⟩ := Option.bind_eq_some_iff.1 hv
            exact run_loadCell hn hr (hf.val t p hp) hv
        obtain ⟨u, hu, hurun⟩ := hone
        refine ⟨u :: us, cvs_cons_mk hu hus, ?_⟩
        rw [List.mapM_cons]
        simp only [Sem.run_bind, hurun, Result.andThen_ok, hrun, Sem.run_pure]
theorem finish_ok {fn : Func} {i : FnInfo} (hres : trRess P fn.results.toList = some i.res) (hr : HRel ρ E s w) (hf : FrRel ρ nt mask E fr a) (h : (finish i fr s k).run ρ = some r) :
    ∃ v u, (results fn a.tmps).run P w = .ok u w ∧ cv ρ E v = some u ∧ (k v s).run ρ = some r := by
  obtain ⟨vs, hvs, h⟩ := run_onSome h
  obtain ⟨us, hus, hrun⟩ := resVs_ok hr hf hres hvs
  refine ⟨oneOr vs, if h : us.toArray.size = 1 then us.toArray[0] else .tuple us.toArray, ?_, ?_, h⟩
  · have hm : (fn.results.mapM (resSem a)).run P w = .ok us.toArray w := by
      have : fn.results = fn.results.toList.toArray := by simp
      rw [this, List.mapM_toArray]
      simp only [Sem.run_map, hrun]
      rfl
    have hrs : results fn a.tmps = (do let vs ← fn.results.mapM (resSem a); pure (if h : vs.size = 1 then vs[0] else .tuple vs)) := rfl
    rw [hrs]
    simp only [Sem.run_bind, hm, Result.andThen_ok, Sem.run_pure]
  · have hlen := cvs_length hus
    unfold oneOr
    split
    · obtain ⟨x, y, rfl, hx, hy⟩ := cvs_cons hus
      rw [cvs_nil hy]
      simpa using hx
    · rename_i hne
      have : ¬ us.toArray.size = 1 := by
        intro h1
        simp at h1
        rw [hlen] at h1
        match vs, h1 with
        | [v], _ => exact hne v rfl
      rw [dif_neg this]
      simp [cv, hus]

/-! ### calls -/
structure InfoOk (P : Program) (f : FuncId) (i : FnInfo) (fn : Func) (c : Code) : Prop where
  func : P.funcs[f]? = some fn
  body : fn.body = some c
  name : (fn.name == "runtime.NumGoroutine") = false
  nt : i.ntmps = fn.ntmps
  lt : i.ntmps < 65536
  code : i.code = tr P i.ntmps i.mask c
  res : trRess P fn.results.toList = some i.res
def SumOk (P : Program) (f : FuncId) (g : List AV → St → Kv β → Tree β) : Prop := ∀ ρ (r : β) args s k E w us, (g args s k).run ρ = some r → HRel ρ E s w → cvs ρ E args = some us →
  (∀ (as : Array Value) (w' : World), (callFunc f as).run P w' = .ok (.enter f as) w') ∧ Calls P f us.toArray w (Out P ρ E s w k r)
structure CtxOk (P : Program) (C : Ctx) : Prop where
  info : ∀ f i, C.info f = some i → ∃ fn c, InfoOk P f i fn c
  trCode : ∀ m c, C.trCode m c = tr P (m % 65536) (m / 65536) c
  sum : ∀ f g, C.sum f = some g → ∀ β : Type, SumOk P f (g β)
theorem InfoOk.enter {f : FuncId} {i : FnInfo} {fn : Func} {c : Code} (h : InfoOk P f i fn c) (as : Array Value) : (callFunc f as).run P w = .ok (.enter f as) w := by
  have hn : ¬ fn.name = "runtime.NumGoroutine" := by simpa using h.name
  simp [callFunc, h.func, hn, h.body]
theorem initT_get : ∀ (l : List AV) (n : Nat) (t0 : Trie AV) (t : Nat) (v : AV), (initT mask l n t0).get (posOf t) = some v →
    (t0.get (posOf t) = some v) ∨ (n ≤ t ∧ l[t - n]? = some v ∧ mask.testBit t = true)
  | [], n, t0, t, v, h => .inl h
  | x :: l, n, t0, t, v, h => by
    have h' : (initT mask l (n + 1) (bif Nat.testBit mask n then t0.put (posOf n) (some x) else t0)).get (posOf t) = some v := h
    rcases initT_get l (n + 1) _ t v h' with h1 | ⟨h1, h2, h3⟩
    · cases hm : Nat.testBit mask n with
      | false => rw [hm] at h1; exact .inl h1
      | true =>
        rw [hm] at h1
        simp only [cond_true, Trie.get_put] at h1
        by_cases e : posOf t = posOf n
        · rw [if_pos e] at h1
          have := posOf_inj e
          subst this
          cases h1
          exact .inr ⟨Nat.le_refl _, by simp, hm⟩
        · rw [if_neg e] at h1; exact .inl h1
    · refine .inr ⟨by omega, ?_, h3⟩
      rw [show t - n = (t - (n + 1)) + 1 from by omega]
      simpa using h2
theorem init_rel {args : List AV} {us : List Value} (ha : cvs ρ E args = some us) (hle : args.length ≤ nt) :
    FrRel ρ nt mask E ⟨initT mask args 0 .lf, []⟩ { tmps := us.toArray ++ Array.replicate (nt - us.toArray.size) undef, defers := [] } := by
  have hlen := cvs_length ha
  have key : ∀ t v, (initT mask args 0 .lf).get (posOf t) = some v → args[t]? = some v ∧ mask.testBit t = true := by
    intro t v h
    rcases initT_get args 0 .lf t v h with h1 | ⟨_, h2, h3⟩
    · have : (Trie.lf : Trie AV).get (posOf t) = none := Trie.get_lf _
      rw [this] at h1; cases h1
    · exact ⟨by simpa using h2, h3⟩
  refine ⟨by simp; omega, fun t v hv => ?_, fun t v hv => (key t v hv).2, .nil⟩
  obtain ⟨h1, _⟩ := key t v hv
  obtain ⟨u, hu, hc⟩ := cvs_get t ha h1
  rw [hc]
  obtain ⟨hlt, hu'⟩ := List.getElem?_eq_some_iff.1 hu
  simp [Array.getD_eq_getD_getElem?, Array.getElem?_append, hlt, hu']
theorem run_onSum {o : Option SumT} {k : SumT → Tree β} {e : Tree β} (h : (onSum o k e).run ρ = some r) : (∃ a, o = some a ∧ (k a).run ρ = some r) ∨ (o = none ∧ e.run ρ = some r) := by
  cases o with
  | none => exact .inr ⟨rfl, h⟩
  | some a => exact .inl ⟨a, rfl, h⟩
section
variable {C : Ctx} {X : Ex β} (hX : ExOk P X) (hC : CtxOk P C)
include hX
theorem enter_ok {f : FuncId} {i : FnInfo} {fn : Func} {c : Code} (hi : InfoOk P f i fn c) {args : List AV} {us : List Value} {K : Fr → St → Tree β} (ha : cvs ρ E args = some us) (hr : HRel ρ E s w) (h : (enterF X i args s K).run ρ = some r) {Q : Exit → Act → World → Prop}
    (hQ : ∀ e fr' s' E' w' a', (e = .normal ∨ e = .ret) → (K fr' s').run ρ = some r → Step E s w E' s' w' → HRel ρ E' s' w' → FrRel ρ i.ntmps i.mask E' fr' a' → Q e a' w') :
    c.wp P Q { tmps := us.toArray ++ Array.replicate (fn.ntmps - us.toArray.size) undef, defers := [] } w := by
  obtain ⟨hle, h⟩ := run_guardB h
  have hle : args.length ≤ i.ntmps := by simpa using hle
  rw [hi.code] at h
  rw [← hi.nt]
  refine wp_mono (hX.code ρ i.ntmps i.mask c _ s _ r E w _ hi.lt h hr (init_rel ha hle)) fun e a' w' hp => ?_
  obtain ⟨ae, fr', s', E', rfl, hk, hst, hr', hf'⟩ := hp
  cases ae with
  | norm => exact hQ _ fr' s' E' w' a' (.inl rfl) hk hst hr' hf'
  | ret => exact hQ _ fr' s' E' w' a' (.inr rfl) hk hst hr' hf'
  | exit id => cases hk
  | goto l => cases hk
include hC
theorem runDefs_ok {fn : Func} {tmps : Array Value} {R : Ending → World → Prop} : ∀ (l : List (AV × List AV)) (xs : List Deferred) (s : St) (E : Mem) (w : World) (K : St → Tree β), DRel ρ E l xs → (runDefs C X l s K).run ρ = some r → HRel ρ E s w →
    (∀ s' E' w', (K s').run ρ = some r → Step E s w E' s' w' → HRel ρ E' s' w' → ∃ v, (results fn tmps).run P w' = .ok v w' ∧ R (.returned v) w') → Leaves P fn tmps R xs .returning w
  | [], xs, s, E, w, K, hd, h, hr, hK => by
    cases hd
    exact hK s E w h (.refl ..) hr
  | d :: l, xs, s, E, w, K, hd, h, hr, hK => by
    cases hd with
    | cons hd1 hdl =>
    rename_i x xs
    obtain ⟨f, args⟩ := d
    have h : (onSome 206 f.asFn fun v => onSome 206 (Fn.asFunc v.fn) fun f => onSome 204 (C.info f) fun i =>
      enterF X i (v.first ++ args ++ v.cap) s fun fr s => guardB (noDefs fr) 205 (finish i fr s fun _ s => runDefs C X l s K)).run ρ = some r := h
    obtain ⟨fv, hfv, h⟩ := run_onSome h
    obtain ⟨g, hg, h⟩ := run_onSome h
    obtain ⟨i, hi, h⟩ := run_onSome h
    obtain ⟨fn', c, hi'⟩ := hC.info g i hi
    obtain ⟨fn0, fst, cap, us, ufst, ucap, h1, h2, h3, h4, rfl⟩ := hd1
    simp only at h1 h4
    have hfe := asFn_eq hfv
    rw [h1] at hfe
    obtain ⟨fn1, fst1, cap1⟩ := fv
    simp only [AV.func.injEq] at hfe
    obtain ⟨rfl, rfl, rfl⟩ := hfe
    have hfn : fn0 = .func g := by cases fn0 <;> simp [Fn.asFunc] at hg; subst hg; rfl
    subst hfn
    have hall := cvs_append (cvs_append h2 h4) h3
    have harr : ufst.toArray ++ us.toArray ++ ucap.toArray = (ufst ++ us ++ ucap).toArray := by simp
    refine leaves_cons (by simp) (f := g) (args := (ufst ++ us ++ ucap).toArray) ?_ ?_
    · show (callFunc g _).run P w = _
      rw [harr]
      exact hi'.enter _
    · refine CallsD.mono (callsD_of_wp (u := .returning) (R := fun e w' => ∃ v s' E', e = .returned v ∧ (runDefs C X l s' K).run ρ = some r ∧ Step E s w E' s' w' ∧ HRel ρ E' s' w') hi'.func hi'.body ?_) ?_
      · refine enter_ok hX hi' hall hr h fun e fr' s' E' w' a' he hk hst hr' hf' => ?_
        obtain ⟨hnd, hk⟩ := run_guardB hk
        obtain ⟨v, u, hres, hv, hk⟩ := finish_ok hi'.res hr' hf' hk
        have hdn : a'.defers = [] := by
          have := hf'.defs
          cases hdd : fr'.defs with
          | nil => rw [hdd] at this; exact this.nil_eq
          | cons _ _ => simp [noDefs, hdd] at hnd
        rcases he with rfl | rfl
        · exact ⟨hdn, u, hres, u, s', E', rfl, hk, hst, hr'⟩
        · exact ⟨hdn, u, hres, u, s', E', rfl, hk, hst, hr'⟩
      · rintro e u' w' ⟨rfl, v, s', E', rfl, hk, hst, hr'⟩
        exact runDefs_ok l xs s' E' w' K (hdl.mono hst.le) hk hr' fun s2 E2 w2 hk2 hst2 hr2 => hK s2 E2 w2 hk2 (hst.trans hst2) hr2
theorem callA_ok : CallOk P (callA C X) := by
  intro ρ r f args s k E w us h hr ha
  rcases run_onSum h with ⟨g, hg, h⟩ | ⟨_, h⟩
  · exact hC.sum f g hg β ρ r args s k E w us h hr ha
  · obtain ⟨i, hi, h⟩ := run_onSome h
    obtain ⟨fn, c, hi'⟩ := hC.info f i hi
    refine ⟨fun as w' => hi'.enter as, calls_of_wp_defers hi'.func hi'.body ?_⟩
    refine enter_ok hX hi' ha hr h fun e fr' s' E' w' a' he hk hst hr' hf' => ?_
    have fin : Leaves P fn a'.tmps (Out P ρ E s w k r) a'.defers .returning w' := by
      rcases run_ifB hk with ⟨hnd, hk⟩ | ⟨_, hk⟩
      · obtain ⟨v, u, hres, hv, hk⟩ := finish_ok hi'.res hr' hf' hk
        have hdn : a'.defers = [] := by
          have := hf'.defs
          cases hdd : fr'.defs with
          | nil => rw [hdd] at this; exact this.nil_eq
          | cons _ _ => simp [noDefs, hdd] at hnd
        rw [hdn]
        exact ⟨u, hres, v, u, s', E', rfl, hv, hst, hr', hk⟩
      · refine runDefs_ok hX hC fr'.defs a'.defers s' E' w' _ hf'.defs hk hr' fun s2 E2 w2 hk2 hst2 hr2 => ?_
        obtain ⟨v, u, hres, hv, hk3⟩ := finish_ok hi'.res hr2 (hf'.mono hst2.le) hk2
        exact ⟨u, hres, v, u, s2, E2, rfl, hv, hst.trans hst2, hr2, hk3⟩
    rcases he with rfl | rfl
    · exact fin
    · exact fin
end
/-- the executor is right -/
theorem exec_ok {C : Ctx} (hC : CtxOk P C) (hdraw : DrawSound P) : ∀ (n : Nat) (β : Type), ExOk P (exec P C n β)
  | 0, β => ⟨fun _ _ _ _ _ _ _ _ _ _ _ _ h => by (cases h), fun _ _ _ _ _ _ _ _ _ _ _ _ h => by (cases h), fun _ _ _ _ _ _ _ _ _ _ _ _ _ h => by (cases h)⟩
  | n + 1, β => by
    have ih := exec_ok hC hdraw n β
    have hcall := callA_ok ih hC
    have hcd := callA_ok (exec_ok hC hdraw n (AV × St)) hC
    exact ⟨fun ρ nt mask c fr s k r E w a hnt h hr hf => ex_code ih hcall hcd hdraw hC.trCode hnt h hr hf, fun ρ nt mask c fr s k r E w a hnt h hr hf => ex_loop (C := C) (cd := callA C (exec P C n (AV × St))) ih hnt h hr hf,
      fun ρ nt mask c x fr s k r E w a hnt h hr hf => ex_scope (cd := callA C (exec P C n (AV × St))) ih hC.trCode hnt h hr hf⟩
/-- the table of the functions -/
theorem fnInfo_ok {masks : List Nat} {f : FuncId} {i : FnInfo} (h : fnInfo P masks f = some i) : ∃ fn c, InfoOk P f i fn c := by
  unfold fnInfo at h
  cases hf : funcA P f with
  | none => rw [hf] at h; cases h
  | some fn =>
    rw [hf] at h
    simp only at h
    cases hb : fn.body with
    | none => rw [hb] at h; cases h
    | some c =>
      cases hr : trRess P fn.results.toList with
      | none => rw [hb, hr] at h; cases h
      | some res =>
        rw [hb, hr] at h
        simp only at h
        cases hc : (fn.name != "runtime.NumGoroutine" && Nat.blt fn.ntmps 65536) with
        | false => rw [hc] at h; cases h
        | true =>
          rw [hc] at h
          simp only [cond_true, Option.some.injEq] at h
          simp only [Bool.and_eq_true, Nat.blt_eq] at hc
          subst h
          exact ⟨fn, c, funcA_eq hf, hb, by simpa [bne] using hc.1, rfl, hc.2, rfl, hr⟩
end Go.Ab
end
