/- The executor's operations agree with the model's: new memory, stores, append, maps. -/
import Derived.Test.YtbmneikfcbbmmaaGreatFC
import Derived.CallsIn
import Derived.RangeFuncLeaves
import Derived.OrdersIn
import Derived.Deep.AppendSrc
set_option linter.unusedVariables false
set_option linter.unusedSimpArgs false
set_option linter.unusedSectionVars false
section
namespace Go.Ab
variable {β : Type} {P : Program} {ρ : Val} {E : Mem} {s : St} {w : World} {r : β} {k : Kv β}
variable {ds : List (Option Nat)} {ls : List AV} {fr : Fr} {a : Act} {call : CallT β}

section
variable (hres : Res ρ E ds ls fr a) (hr : HRel ρ E s w)
include hres hr
theorem ex_conv {st dt : TypeId} {x : Operand} (hc : (trConv P ds st dt x).cls = 0) (h : (evOp P (trConv P ds st dt x) call ls fr s k).run ρ = some r) : QN P ρ E s w (do pure (.value (← convert st dt (a.eval x)))) k r := by
  unfold trConv at h hc
  cases hs : undA P st with
  | none => rw [hs] at h; cases h
  | some d1 =>
    cases hd : undA P dt with
    | none => rw [hs, hd] at h; cases d1 <;> cases h
    | some d2 =>
      rw [hs, hd] at h hc
      have hs' := undA_eq hs
      have hd' := undA_eq hd
      cases d1 with
      | int j =>
        cases d2 <;> try (cases h; done)
        · obtain ⟨v, hv, h⟩ := run_onArg hres h
          exact .of (q_cvInt hr.asm h hv hs' hd')
        · obtain ⟨v, hv, h⟩ := run_onArg hres h
          exact .of (q_cvR2s hr.asm h hv hs' hd')
      | string =>
        cases d2 <;> try (cases h; done)
        · obtain ⟨v, hv, h⟩ := run_onArg hres h
          exact .of (q_cvStr hr.asm h hv hs' hd')
        · rename_i e
          simp only at h hc
          cases hu : undA P e with
          | none => rw [hu] at h; cases h
          | some d =>
            cases hi : infoA P e with
            | none => rw [hu, hi] at h; cases d <;> first | cases h | (rename_i k; cases k <;> cases h)
            | some i =>
              rw [hu, hi] at h hc
              cases d <;> try (cases h; done)
              rename_i kk
              cases kk <;> first | (cases h; done) | cases hc
      | slice e =>
        cases d2 <;> try (cases h; done)
        simp only at h hc
        cases hu : undA P e with
        | none => rw [hu] at h; cases h
        | some d =>
          rw [hu] at h
          cases d <;> try (cases h; done)
          rename_i kk
          cases kk <;> try (cases h; done)
          obtain ⟨v, hv, h⟩ := run_onArg hres h
          exact .of (q_cvB2s hr h hv hs' (undA_eq hu) hd')
      | _ => cases h
end
theorem lenKind_ok {t : TypeId} {lk : LenK} (h : lenKind P t = some lk) : LenOk P t lk := by
  unfold lenKind at h
  cases hu : undA P t with
  | none => rw [hu] at h; cases h
  | some d =>
    rw [hu] at h
    have hu' := undA_eq hu
    cases d <;> try (cases h; done)
    case string => cases h; exact hu'
    case array n e => cases h; exact .inl ⟨e, hu'⟩
    case slice e => cases h; exact ⟨e, hu'⟩
    case map a b => cases h; exact ⟨a, b, hu'⟩
    case pointer ar =>
      simp only at h
      cases hua : undA P ar with
      | none => rw [hua] at h; cases h
      | some d =>
        rw [hua] at h
        cases d <;> try (cases h; done)
        cases h
        exact .inr ⟨ar, _, hu', undA_eq hua⟩
theorem not_quiet {o : AOp} (h2 : o.cls = 2 ∨ ∃ n, o = .no n) (hc : o.cls = 0) (h : (evOp P o call ls fr s k).run ρ = some r) : False := by
  rcases h2 with h2 | ⟨n, rfl⟩
  · rw [h2] at hc; cases hc
  · cases h
theorem trAppend_cls (ds : List (Option Nat)) (t u : TypeId) (x y : Operand) : (trAppend P ds t u x y).cls = 2 ∨ ∃ n, trAppend P ds t u x y = .no n := by
  unfold trAppend
  split
  · unfold appOp
    split
    · exact .inl rfl
    · exact .inr ⟨_, rfl⟩
  · exact .inr ⟨_, rfl⟩
theorem trCopy_cls (ds : List (Option Nat)) (t : TypeId) (x y : Operand) : (trCopy P ds t x y).cls = 2 ∨ ∃ n, trCopy P ds t x y = .no n := by
  unfold trCopy
  split
  · exact .inl rfl
  · exact .inr ⟨_, rfl⟩
theorem trDelete_cls (ds : List (Option Nat)) (t : TypeId) (x y : Operand) : (trDelete P ds t x y).cls = 2 ∨ ∃ n, trDelete P ds t x y = .no n := by
  unfold trDelete
  split
  · exact .inl rfl
  · exact .inr ⟨_, rfl⟩
section
variable (hres : Res ρ E ds ls fr a) (hr : HRel ρ E s w)
include hres hr
/-- the quiet built-in functions -/
theorem ex_builtin {b : Builtin} {args : Array Operand} {ts : Array TypeId} {ty : TypeId} {cs : Array Bool} (hc : (trBuiltin P ds b args ts).cls = 0) (h : (evOp P (trBuiltin P ds b args ts) call ls fr s k).run ρ = some r) :
    QN P ρ E s w (builtin b ts ty cs (args.map a.eval)) k r := by
  obtain ⟨al⟩ := args
  obtain ⟨tl⟩ := ts
  unfold trBuiltin at h hc
  simp only at h hc
  split at h
  · -- len
    rename_i x t
    cases hk : lenKind P t with
    | none => rw [hk] at h; cases h
    | some lk =>
      rw [hk] at h
      obtain ⟨v, hv, h⟩ := run_onArg hres h
      have := q_len hr h hv (lenKind_ok hk) ty
      exact QN.of (by simpa using this)
  · -- cap
    rename_i x t
    cases hk : lenKind P t with
    | none => rw [hk] at h; cases h
    | some lk =>
      rw [hk] at h
      cases lk <;> try (cases h; done)
      · obtain ⟨v, hv, h⟩ := run_onArg hres h
        have := q_cap (n := some _) (w := w) hr.asm h hv (lenKind_ok hk) ty
        exact QN.of (by simpa using this)
      · obtain ⟨v, hv, h⟩ := run_onArg hres h
        have := q_cap (n := none) (w := w) hr.asm h hv (lenKind_ok hk) ty
        exact QN.of (by simpa using this)
  · -- append: no quiet one
    exact (not_quiet (trAppend_cls ..) hc h).elim
  · -- copy
    exact (not_quiet (trCopy_cls ..) hc h).elim
  · -- min
    rename_i x l
    have h' : (onArg (trArg ds x) ls fr fun x => onArgs (l.map (trArg ds)) ls fr fun l => mmL false l x s k).run ρ = some r := h
    obtain ⟨v, hv, h⟩ := run_onArg hres h'
    obtain ⟨vs, hvs, h⟩ := run_onArgsL hres h
    obtain ⟨v', u', s', hm, hv', hrun, h⟩ := q_mmL (mx := false) (P := P) hr.asm h hv hvs
    refine ⟨v', u', s', hm, hv', ?_, h⟩
    have := hrun w
    simp only [Bool.false_eq_true, if_false] at this
    simp [builtin, Builtin.min_, this]
  · -- max
    rename_i x l
    have h' : (onArg (trArg ds x) ls fr fun x => onArgs (l.map (trArg ds)) ls fr fun l => mmL true l x s k).run ρ = some r := h
    obtain ⟨v, hv, h⟩ := run_onArg hres h'
    obtain ⟨vs, hvs, h⟩ := run_onArgsL hres h
    obtain ⟨v', u', s', hm, hv', hrun, h⟩ := q_mmL (mx := true) (P := P) hr.asm h hv hvs
    refine ⟨v', u', s', hm, hv', ?_, h⟩
    have := hrun w
    simp only [if_true] at this
    simp [builtin, Builtin.max_, this]
  · -- delete
    exact (not_quiet (trDelete_cls ..) hc h).elim
  · cases h
end

/-! ### frames that are rounds, or are not -/
/-- the fence that asks nothing, in a round or not -/
def Fw : Option Nat → Fence | none => .wide | some l => Fence.wide.inRound l
theorem fw_round (rd : Option Nat) : (Fw rd).round = rd := by cases rd <;> rfl
theorem fw_fn (rd : Option Nat) (f : FuncId) : (Fw rd).fn f := by cases rd <;> exact trivial
theorem fw_depth (rd : Option Nat) : (Fw rd).depth = none := by cases rd <;> rfl
theorem fw_room (rd : Option Nat) (n : Nat) : (Fw rd).room n := by cases rd <;> exact room_wide n
theorem fw_fenced (rd : Option Nat) (P : Program) : Machine.fenced P (Fw rd) = Machine.fenced P Fence.wide := by cases rd <;> rfl
theorem fw_calls {rd : Option Nat} {n : Nat} {f : FuncId} {args : Array Value} {w : World} {R : Ending → World → Prop} (h : Calls P f args w R) : CallsIn (Fw rd) n P f args w R := by
  have h2 : CallsIn Fence.wide n P f args w R := callsIn_wide.2 h
  cases rd <;> exact h2
/-! ### what every operation comes to -/
/-- what an operation's outcome yields -/
def YieldsR (P : Program) (x : Result Next) (R : Value → World → Prop) : Prop :=
  match x with
  | .ok (.value u) w' => R u w'
  | .ok .skip w' => R undef w'
  | .ok (.enter f args) w' => Calls P f args w' fun e w'' => ∃ u, e = .returned u ∧ R u w''
  | .ok (.round l f tmps assign body) w' => RoundIn Fence.wide 0 P l f tmps assign body w' fun e w'' => ∃ u, e = .returned u ∧ R u w''
  | _ => False
/-- the operation yields a value in a world, as R says -/
def Yields (P : Program) (o : Oper) (a : Act) (w : World) (R : Value → World → Prop) : Prop := YieldsR P ((execOp a.eval o).run P w) R
theorem fw_roundIn {rd : Option Nat} {n : Nat} {l : Nat} {f : FuncId} {tmps : Array Value} {assign body : Code} {w : World} {R : Ending → World → Prop} (h : RoundIn Fence.wide 0 P l f tmps assign body w R) : RoundIn (Fw rd) n P l f tmps assign body w R := by
  have h2 : RoundIn Fence.wide n P l f tmps assign body w R := ⟨h.1, fun c cs _ => h.2 c cs (room_wide _)⟩
  cases rd <;> exact h2
theorem Yields.wpIn {rd : Option Nat} {n : Nat} {o : Oper} {R : Value → World → Prop} {K : Act → World → Prop} {Q : Exit → Act → World → Prop} (hnd : rd = none ∨ ∀ c, o.op ≠ .defer c) (h : Yields P o a w R) (hK : ∀ u w', R u w' → K (a.put o.dst u) w') : o.wpIn (Fw rd) n P a w K Q := by
  unfold Yields at h
  unfold Oper.wpIn
  refine ⟨fun f _ => fw_fn rd f, ?_⟩
  have hs : o.semAt (Fw rd).round a.eval = execOp a.eval o := by
    rw [fw_round]
    rcases hnd with rfl | hnd
    · rfl
    · exact Oper.semAt_eq rd a.eval o hnd
  rw [hs]
  generalize (execOp a.eval o).run P w = x at h
  cases x with
  | halt _ _ => exact h.elim
  | ok n' w' =>
    cases n' <;> try (exact (h : False).elim)
    case value u => exact hK _ _ h
    case skip => exact hK _ _ h
    case enter f args =>
      rw [Oper.uponIn_enter]
      refine ⟨fun hd => (by rw [fw_depth] at hd; cases hd), fw_calls (Calls.mono (h : Calls P f args w' _) ?_)⟩
      rintro e w'' ⟨u, rfl, hu⟩
      exact hK _ _ hu
    case round l f tmps assign body =>
      rw [Oper.uponIn_round]
      refine ⟨fun hd => (by rw [fw_depth] at hd; cases hd), fw_roundIn (RoundIn.mono (h : RoundIn Fence.wide 0 P l f tmps assign body w' _) ?_)⟩
      rintro e w'' ⟨u, rfl, hu⟩
      exact hK _ _ hu
theorem Yields.round {o : Oper} {l : Nat} {f : FuncId} {tmps : Array Value} {assign body : Code} {R : Value → World → Prop} (h : (execOp a.eval o).run P w = .ok (.round l f tmps assign body) w) (hR : RoundIn Fence.wide 0 P l f tmps assign body w fun e w' => ∃ u, e = .returned u ∧ R u w') : Yields P o a w R := by
  unfold Yields; rw [h]; exact hR
theorem Yields.value {o : Oper} {w' : World} {u : Value} {R : Value → World → Prop} (h : (execOp a.eval o).run P w = .ok (.value u) w') (hR : R u w') : Yields P o a w R := by
  unfold Yields; rw [h]; exact hR
theorem Yields.skip {o : Oper} {w' : World} {R : Value → World → Prop} (h : (execOp a.eval o).run P w = .ok .skip w') (hR : R undef w') : Yields P o a w R := by
  unfold Yields; rw [h]; exact hR
theorem Yields.enter {o : Oper} {f : FuncId} {args : Array Value} {R : Value → World → Prop} (h : (execOp a.eval o).run P w = .ok (.enter f args) w) (hR : Calls P f args w fun e w' => ∃ u, e = .returned u ∧ R u w') : Yields P o a w R := by
  unfold Yields; rw [h]; exact hR
/-- the step of an operation -/
def ER (P : Program) (ρ : Val) (E : Mem) (s : St) (w : World) (o : Oper) (a : Act) (k : Kv β) (r : β) : Prop :=
  Yields P o a w fun u w' => ∃ v s' E', cv ρ E' v = some u ∧ Step E s w E' s' w' ∧ HRel ρ E' s' w' ∧ (k v s').run ρ = some r
theorem ER.quiet {o : Oper} (hr : HRel ρ E s w) (h : QN P ρ E s w (execOp a.eval o) k r) : ER P ρ E s w o a k r := by
  obtain ⟨v, u, s', hm, hv, hrun, hk⟩ := h
  exact .value hrun ⟨v, s', E, hv, .more hm, hr.more hm, hk⟩
/-- an operation that makes one block -/
def AN (P : Program) (ρ : Val) (E : Mem) (s : St) (m : Sem Next) (k : Kv β) (r : β) : Prop :=
  ∃ v b s1, More ρ s s1 ∧ Live b ∧ (k v (s1.new b)).run ρ = some r ∧ ∀ w : World, ∃ obj u, m.run P w = .ok (.value u) (w.alloc obj) ∧
    ∀ E', Mem.Le E E' → E'.blk s.next = some (w.heap.size, 0) → cv ρ E' v = some u ∧ ∀ w' : World, w'.heap[w.heap.size]? = some obj → BRel ρ E' s.next b w'
theorem ER.alloc {o : Oper} (hr : HRel ρ E s w) (h : AN P ρ E s (execOp a.eval o) k r) : ER P ρ E s w o a k r := by
  obtain ⟨v, b, s1, hm, _, hk, hw⟩ := h
  obtain ⟨obj, u, hrun, hE⟩ := hw w
  have hr1 := hr.more hm
  have hfree := free_next hr1
  obtain ⟨hcv, hb⟩ := hE (E.add s1.next w.heap.size 0) (Mem.le_addAt hfree) (by rw [hm.next]; simp [Mem.add])
  have hb' := hb (w.alloc obj) (heap_alloc_new w obj)
  rw [← hm.next] at hb'
  obtain ⟨h1, h2⟩ := hr1.alloc b obj 0 hb'
  exact .value hrun ⟨v, _, _, hcv, (Step.more hm).trans h2, h1, hk⟩
theorem cells_new {E' : Mem} {p : Pos} {c : Nat} {cs : List AV} {us : List Value} {t : TypeId} {w' : World} (hb : E'.blk p = some (c, 0)) (hc : cvs ρ E' cs = some us) (hw : w'.heap[c]? = some (.cells us.toArray t (0, 0))) :
    BRel ρ E' p (.cells cs true) w' :=
  ⟨c, 0, us, [], [], t, (0, 0), hb, hc, by simpa using hw, rfl, fun i _ _ => by simp, fun _ => rfl⟩
section
variable (hres : Res ρ E ds ls fr a) (ha : AsmOk ρ s.asm)
include hres ha
theorem an_alloc {e : TypeId} (h : (evOp P (trOp P ds (.alloc e)) call ls fr s k).run ρ = some r) : AN P ρ E s (do pure (.value (← Instr.alloc e true (.tuple #[])))) k r := by
  simp only [trOp] at h
  cases hz : zeroOf P e with
  | none => rw [hz] at h; cases h
  | some z =>
    rw [hz] at h
    obtain ⟨i, uz, hi, hiz, hsz, _⟩ := zeroOf_eq (ρ := ρ) (E := E) hz
    refine ⟨_, _, s, .refl ha, by simp [Live], h, fun w => ⟨.cells uz.cells e, .pointer (some ⟨w.heap.size, 0, none⟩), ?_, fun E' hE hb => ⟨?_, fun w' hw' => ?_⟩⟩⟩
    · simp [Instr.alloc, zeroValue, typeInfo, hi, hiz, newVar, newRow, World.alloc_eq]
    · rw [cv_ptr_mk hb]
    · obtain ⟨_, uz', hi', hiz', _, hcz⟩ := zeroOf_eq (ρ := ρ) (E := E') hz
      rw [hi] at hi'; cases hi'
      rw [hiz] at hiz'; cases hiz'
      exact cells_new hb hcz (by simpa using hw')
theorem an_box {e : TypeId} {x : Operand} (h : (evOp P (.box (trArg ds x)) call ls fr s k).run ρ = some r) : AN P ρ E s (do pure (.value (← Instr.box e (a.eval x)))) k r := by
  obtain ⟨v, hv, h⟩ := run_onArg hres h
  refine ⟨_, _, s, .refl ha, by simp [Live], h, fun w => ⟨.cells (a.eval x).cells e, .pointer (some ⟨w.heap.size, 0, none⟩), ?_, fun E' hE hb => ⟨?_, fun w' hw' => ?_⟩⟩⟩
  · simp [Instr.box, newVar, newRow, World.alloc_eq]
  · rw [cv_ptr_mk hb]
  · exact cells_new hb (cvs_mono hE (cells_cv hv)) (by simpa using hw')
theorem an_map {t : TypeId} (h : (evOp P .mkmap call ls fr s k).run ρ = some r) : AN P ρ E s (do pure (.value (← Instr.makeMap t none))) k r := by
  refine ⟨_, _, s, .refl ha, by simp [Live], h, fun w => ⟨.map #[] 0, .map (some w.heap.size), ?_, fun E' hE hb => ⟨?_, fun w' hw' => ?_⟩⟩⟩
  · simp [Instr.makeMap, World.alloc_eq]
  · simp [cv, hb]
  · exact ⟨_, 0, [], hb, rfl, by simpa using hw'⟩
end
end Go.Ab
end

section
namespace Go.Ab
variable {β : Type} {P : Program} {ρ : Val} {E : Mem} {s : St} {w : World} {r : β} {k : Kv β}
variable {ds : List (Option Nat)} {ls : List AV} {fr : Fr} {a : Act} {call : CallT β}

/-! ### rows of zeros -/
def repV (z : List Value) : Nat → List Value
  | 0 => []
  | n + 1 => z ++ repV z n
theorem cvs_rep {z : List AV} {uz : List Value} (h : cvs ρ E z = some uz) : ∀ n, cvs ρ E (repL z n) = some (repV uz n)
  | 0 => by simp [repL, repV, cvs]
  | n + 1 => by
    have : repL z (n + 1) = z ++ repL z n := rfl
    rw [this]
    exact cvs_append h (cvs_rep h n)
theorem repV_length (z : List Value) : ∀ n, (repV z n).length = n * z.length
  | 0 => by simp [repV]
  | n + 1 => by simp [repV, repV_length z n, Nat.succ_mul]; omega
theorem repV_nil (n : Nat) : repV [] n = [] := List.eq_nil_of_length_eq_zero (by simp [repV_length])
theorem repV_get (z : List Value) : ∀ n i, i < n * z.length → (repV z n)[i]? = z[i % z.length]?
  | 0, i, h => by simp at h
  | n + 1, i, h => by
    simp only [repV]
    rw [List.getElem?_append]
    by_cases hi : i < z.length
    · rw [if_pos hi, Nat.mod_eq_of_lt hi]
    · rw [if_neg hi, repV_get z n _ (by rw [Nat.succ_mul] at h; omega)]
      congr 1
      exact (Nat.mod_eq_sub_mod (by omega)).symm
theorem range_rep (z : Array Value) (n : Nat) : (Array.range (n * z.size)).map (fun i => z[i % z.size]!) = (repV z.toList n).toArray := by
  apply Array.ext
  · simp [repV_length]
  · intro i h1 h2
    have hi : i < n * z.toList.length := by simpa using h1
    have hz : i % z.size < z.size := Nat.mod_lt _ (by
      rcases Nat.eq_zero_or_pos z.size with h | h
      · rw [show z.toList.length = z.size from rfl, h] at hi; omega
      · exact h)
    have := repV_get z.toList n i hi
    simp only [List.getElem_toArray]
    have h3 : i < (repV z.toList n).length := by simpa using h2
    rw [List.getElem?_eq_getElem h3] at this
    simp only [Array.getElem_map, Array.getElem_range]
    rw [getElem!_pos z _ hz]
    rw [List.getElem?_eq_getElem (by simpa using hz)] at this
    simpa using this.symm
theorem range_rep' (z : Array Value) (n : Nat) (hn : n * z.size = 0) : (#[] : Array Value) = (repV z.toList n).toArray := by
  rcases Nat.mul_eq_zero.1 hn with h | h
  · subst h; rfl
  · have : z.toList = [] := by simpa using h
    rw [this, repV_nil]
theorem zero_size {e : TypeId} {i : TypeInfo} {uz : Value} {z : List AV} (h : cvs ρ E z = some uz.cells.toList) : uz.cells.size = z.length := by
  have := cvs_length h; simpa using this
theorem partsA_ok (m : Nat) : ∀ pl : List (Nat × Operand), PartsR ds (fun i => some (i * m, m)) (partsA ds m pl) pl
  | [] => .nil
  | (_, _) :: l => .cons rfl (partsA_ok m l)
theorem sliceE_eq {t e : TypeId} (h : sliceE P t = some e) : P.underlying t = some (.slice e) := by
  unfold sliceE at h
  split at h
  · rename_i hu
    cases h
    exact undA_eq hu
  · cases h
theorem cv_slc_ex {E' : Mem} {p : Pos} {c o len n : Nat} (hb : E'.blk p = some (c, o)) : cv ρ E' (.slc p 0 len (.ex n)) = some (.slice (some ⟨c, o, none⟩) len n) := by
  simp [cv, hb, capOf]
section
variable (hres : Res ρ E ds ls fr a) (ha : AsmOk ρ s.asm)
include hres ha
theorem an_bslice {t : TypeId} {len : Nat} {ps : Array (Nat × Operand)} (h : (evOp P (trBSlice P ds t len ps) call ls fr s k).run ρ = some r) :
    AN P ρ E s (do pure (.value (← Instr.buildSlice t len (ps.map fun (i, x) => (i, a.eval x))))) k r := by
  have hmap : (ps.map fun (i, x) => (i, a.eval x)).toList = ps.toList.map fun x => (x.1, a.eval x.2) := by simp
  unfold trBSlice at h
  cases hu : undA P t with
  | none => rw [hu] at h; cases h
  | some d =>
    rw [hu] at h
    cases d <;> try (cases h; done)
    rename_i e
    simp only at h
    cases hz : zeroOf P e with
    | none => rw [hz] at h; cases h
    | some z =>
      rw [hz] at h
      simp only at h
      obtain ⟨i, uz, hi, hiz, hsz, hcz⟩ := zeroOf_eq (ρ := ρ) (E := E) hz
      have hzs := zero_size (e := e) (i := i) hcz
      cases hb : Nat.ble (len * z.length) 16777216 with
      | false => rw [hb] at h; cases h
      | true =>
        rw [hb] at h
        have h' : (fillA (partsA ds z.length ps.toList) ls fr (repL z len) fun z => k (.slc s.next 0 len (.ex len)) (s.new (.cells z true))).run ρ = some r := h
        obtain ⟨z', uz', h1, h2, h3⟩ := q_fill hres (partsA_ok z.length ps.toList) (cvs_rep hcz len) h'
        refine ⟨_, _, s, .refl ha, by simp [Live], h3, fun w => ⟨.cells uz'.toArray e, .slice (some ⟨w.heap.size, 0, none⟩) len len, ?_, fun E' hE hb' => ⟨?_, fun w' hw' => ?_⟩⟩⟩
        · have hle : ¬ len * z.length > 16777216 := by have := Nat.le_of_ble_eq_true hb; omega
          rw [← hmap] at h2
          have hrun : (Instr.buildSlice t len (ps.map fun (i, x) => (i, a.eval x))).run P w = .ok (.slice (some ⟨w.heap.size, 0, none⟩) len len) (w.alloc (.cells uz'.toArray e)) := by
            generalize (ps.map fun (i, x) => (i, a.eval x)) = L at h2 ⊢
            obtain ⟨L⟩ := L
            by_cases hn : len * z.length = 0
            · rw [← range_rep' uz.cells len (by rw [hzs]; exact hn)] at h2
              simp at h2
              simp [Instr.buildSlice, run_underlying (undA_eq hu), sizeOf, typeInfo, hi, hsz, hn, h2, newRow, World.alloc_eq, show Array.range 0 = #[] from rfl]
            · rw [← range_rep uz.cells len, hzs] at h2
              simp at h2
              have hle' : ¬ 16777216 < len * z.length := hle
              simp [Instr.buildSlice, run_underlying (undA_eq hu), sizeOf, typeInfo, hi, hsz, hn, hle', zeroValue, hiz, hzs, h2, newRow, World.alloc_eq, show Array.range 0 = #[] from rfl]
          simp [hrun]
        · rw [cv_slc_ex hb']
        · exact cells_new hb' (cvs_mono hE h1) (by simpa using hw')
theorem an_mksl {t : TypeId} {l c : Operand} (h : (evOp P (trMkSl P ds t l c) call ls fr s k).run ρ = some r) :
    AN P ρ E s (do pure (.value (← Instr.makeSlice t (a.eval l) (a.eval c)))) k r := by
  unfold trMkSl at h
  cases hu : undA P t with
  | none => rw [hu] at h; cases h
  | some d =>
    rw [hu] at h
    cases d <;> try (cases h; done)
    rename_i e
    simp only at h
    cases hi0 : infoA P e with
    | none => rw [hi0] at h; cases h
    | some i =>
    cases hz : zeroOf P e with
    | none => rw [hi0, hz] at h; cases h
    | some z =>
      rw [hi0, hz] at h
      simp only at h
      obtain ⟨i', uz, hi, hiz, hsz, hcz⟩ := zeroOf_eq (ρ := ρ) (E := E) hz
      have := infoA_eq hi0
      rw [hi] at this; cases this
      have hzs := zero_size (e := e) (i := i) hcz
      obtain ⟨vl, vc, hvl, hvc, h⟩ := run_on2 hres h
      rcases run_ifB h with ⟨_, h⟩ | ⟨_, h⟩
      case inl =>
        obtain ⟨nl, hnl, h⟩ := run_onSome h
        obtain ⟨ec, hec, h⟩ := run_onSome h
        obtain ⟨kd, hkd, h⟩ := run_onSome h
        obtain ⟨hg, hk0⟩ := run_guardB h
        clear h
        simp only [Bool.and_eq_true, Nat.ble_eq] at hg
        obtain ⟨⟨⟨⟨g0, g1⟩, g2⟩, g3⟩, g4⟩ := hg
        have hnl0 : nl = 0 := by simpa using g0
        subst hnl0
        have hz1 : i.size = 1 := by simpa using g1
        have i2 := leqK_ok ha g2
        have i3 := leqK_ok ha g3
        simp only [IE.den] at i2 i3
        obtain ⟨jl, ejl⟩ := asNat_eq hnl
        rw [ejl] at hvl
        rw [asIE_cv hec] at hvc
        simp only [cv_int, Option.some.injEq] at hvl hvc
        have hzk : z = [.int kd (.ofNat 0)] := by
          unfold zeroK at hkd
          split at hkd
          · cases hkd; rfl
          · cases hkd
        obtain ⟨nc, hnc⟩ : ∃ nc, nc = (ec.e.den ρ).toNat := ⟨_, rfl⟩
        have hncI : ec.e.den ρ = (nc : Int) := by omega
        refine ⟨_, _, s, .refl ha, by simp [Live], hk0, fun w => ⟨.cells (repV uz.cells.toList nc).toArray e, .slice (some ⟨w.heap.size, 0, none⟩) 0 nc, ?_, fun E' hE hb' => ⟨?_, fun w' hw' => ?_⟩⟩⟩
        · have hx := range_rep uz.cells nc
          rw [hzs] at hx
          have wl : IntKind.i64.wrap (0 : Int) = (0 : Int) := by decide
          have wc : IntKind.i64.wrap (nc : Int) = (nc : Int) := by rw [IntKind.wrap_i64]; omega
          have hm : nc * i.bytes ≤ 1000000000 := by
            calc nc * i.bytes ≤ 1000000 * 1000 := Nat.mul_le_mul (by omega) g4
              _ = 1000000000 := rfl
          have hmi : (i.bytes : Int) * (nc : Int) ≤ 1000000000 := by
            rw [Int.mul_comm, ← Int.natCast_mul]; exact Int.ofNat_le.2 hm
          have n1 : ¬ ((nc : Int) < 0) := by omega
          have n2 : ¬ (281474976710656 < (i.bytes : Int) * (nc : Int)) := by omega
          have n4' : ¬ (nc < 0) := by omega
          have n5 : ¬ (140737488355328 < nc * i.bytes) := by omega
          have hrun : (Instr.makeSlice t (a.eval l) (a.eval c)).run P w = .ok (.slice (some ⟨w.heap.size, 0, none⟩) 0 nc) (w.alloc (.cells (repV uz.cells.toList nc).toArray e)) := by
            rw [← hvl, ← hvc, hncI]
            by_cases hn : nc * z.length = 0
            · have hx' := range_rep' uz.cells nc (by rw [hzs]; exact hn)
              rw [← hx']
              simp [Instr.makeSlice, run_underlying (undA_eq hu), asInt, asIntOf, typeInfo, hi, sizeOf, wl, wc, n1, n2, n4', n5, hn, newRow, askRoom, roomBytes, hsz, World.alloc_eq, show Array.range 0 = #[] from rfl]
            · rw [← hx]
              simp [Instr.makeSlice, run_underlying (undA_eq hu), asInt, asIntOf, typeInfo, hi, sizeOf, wl, wc, n1, n2, n4', n5, hn, newRow, askRoom, roomBytes, hsz, World.alloc_eq, zeroValue, hiz, hzs]
          simp [hrun]
        · have := cv_sslc_mk (ρ := ρ) (E := E') (lo := .c 0) (hi := .c 0) (cp := some ec.e) hb' (by simp [IE.den]) (by simp [IE.den]) (by simp [IE.den])
          rw [this]
          simp [IE.den, capE, hnc]
        · refine ⟨w.heap.size, 0, [], repV uz.cells.toList nc, e, (0, 0), hb', ?_, rfl, ?_, fun i _ _ h => by simp at h⟩
          · rw [hw']; simp [IE.sden]
          · have hzl : uz.cells.size = 1 := by rw [hzs, ← hsz, hz1]
            simp [IE.sden, capE, hnc, repV_length, hzl]
      case inr =>
      obtain ⟨nl, hnl, h⟩ := run_onSome h
      obtain ⟨nc, hnc, h⟩ := run_onSome h
      obtain ⟨hg, h⟩ := run_guardB h
      simp only [Bool.and_eq_true, Nat.ble_eq] at hg
      obtain ⟨⟨⟨hg1, hg2⟩, hg3⟩, -⟩ := hg
      obtain ⟨jl, ejl⟩ := asNat_eq hnl
      obtain ⟨jc, ejc⟩ := asNat_eq hnc
      rw [ejl] at hvl
      rw [ejc] at hvc
      simp only [cv_int, Option.some.injEq] at hvl hvc
      refine ⟨_, _, s, .refl ha, by simp [Live], h, fun w => ⟨.cells (repV uz.cells.toList nc).toArray e, .slice (some ⟨w.heap.size, 0, none⟩) nl nc, ?_, fun E' hE hb' => ⟨?_, fun w' hw' => ?_⟩⟩⟩
      · have hx := range_rep uz.cells nc
        rw [hzs] at hx
        have wl : IntKind.i64.wrap (nl : Int) = (nl : Int) := by rw [IntKind.wrap_i64]; omega
        have wc : IntKind.i64.wrap (nc : Int) = (nc : Int) := by rw [IntKind.wrap_i64]; omega
        have hm : nc * i.bytes ≤ 1000000000 := hg2
        have hmi : (i.bytes : Int) * (nc : Int) ≤ 1000000000 := by
          rw [Int.mul_comm, ← Int.natCast_mul]; exact Int.ofNat_le.2 hm
        have n1 : ¬ ((nc : Int) < 0) := by omega
        have n2 : ¬ (281474976710656 < (i.bytes : Int) * (nc : Int)) := by omega
        have n3 : ¬ ((nl : Int) < 0) := by omega
        have n4 : ¬ ((nc : Int) < (nl : Int)) := by omega
        have n4' : ¬ (nc < nl) := by omega
        have n5 : ¬ (140737488355328 < nc * i.bytes) := by omega
        have hrun : (Instr.makeSlice t (a.eval l) (a.eval c)).run P w = .ok (.slice (some ⟨w.heap.size, 0, none⟩) nl nc) (w.alloc (.cells (repV uz.cells.toList nc).toArray e)) := by
          rw [← hvl, ← hvc]
          by_cases hn : nc * z.length = 0
          · have hx' := range_rep' uz.cells nc (by rw [hzs]; exact hn)
            rw [← hx']
            simp [Instr.makeSlice, run_underlying (undA_eq hu), asInt, asIntOf, typeInfo, hi, sizeOf, wl, wc, n1, n2, n3, n4, n4', n5, hn, newRow, askRoom, roomBytes, hsz, World.alloc_eq, show Array.range 0 = #[] from rfl]
          · rw [← hx]
            simp [Instr.makeSlice, run_underlying (undA_eq hu), asInt, asIntOf, typeInfo, hi, sizeOf, wl, wc, n1, n2, n3, n4, n4', n5, hn, newRow, askRoom, roomBytes, hsz, World.alloc_eq, zeroValue, hiz, hzs]
        simp [hrun]
      · rw [cv_slc_ex hb']
      · exact cells_new hb' (cvs_mono hE (cvs_rep hcz nc)) (by simpa using hw')
end
/-! ### quiet operations and new memory, all -/
/-- an operation that is not of the class is none -/
def Cls (n : Nat) (o : AOp) : Prop := o.cls = n ∨ ∃ m, o = .no m
theorem Cls.ne {n m : Nat} {o : AOp} (hn : Cls n o) (h' : n ≠ m) (hc : o.cls = m) (h : (evOp P o call ls fr s k).run ρ = some r) : False := by
  rcases hn with hn | ⟨j, rfl⟩
  · exact h' (hn.symm.trans hc)
  · cases h
theorem Cls.no {n m : Nat} : Cls n (.no m) := .inr ⟨_, rfl⟩
theorem cls_alloc (e : TypeId) : Cls 1 (trOp P ds (.alloc e)) := by
  simp only [trOp]; split <;> first | exact .inl rfl | exact .no
theorem cls_bslice (t : TypeId) (n : Nat) (ps : Array (Nat × Operand)) : Cls 1 (trBSlice P ds t n ps) := by
  unfold trBSlice; split
  · split
    · cases Nat.ble _ _
      · exact .no
      · exact .inl rfl
    · exact .no
  · exact .no
theorem cls_mksl (t : TypeId) (x y : Operand) : Cls 1 (trMkSl P ds t x y) := by
  unfold trMkSl; split
  · split
    · exact .inl rfl
    · exact .no
  · exact .no
theorem cls_store (t : TypeId) (x y : Operand) : Cls 2 (trOp P ds (.store t x y)) := by
  simp only [trOp]; split <;> first | exact .inl rfl | exact .no
theorem cls_upd (t : TypeId) (x y z : Operand) : Cls 2 (trOp P ds (.mapUpdate t x y z)) := by
  simp only [trOp]; split <;> first | exact .inl rfl | exact .no
theorem cls_ins (t : TypeId) (x y z : Operand) : Cls 2 (trOp P ds (.insert t x y z)) := cls_upd t x y z
theorem cls_range (t : TypeId) (x : Operand) : Cls 2 (trOp P ds (.range t x)) := by
  simp only [trOp]; split <;> first | exact .inl rfl | exact .no
theorem cls_next (x : Operand) (b : Bool) : Cls 2 (trOp P ds (.next x b)) := by
  cases b
  · exact .inl rfl
  · exact .inl rfl
theorem cls_entry (x : Operand) : Cls 2 (trOp P ds (.entry x)) := .inl rfl
theorem cls_defer (c : Call) : Cls 2 (trOp P ds (.defer c)) := by
  simp only [trOp]; split <;> first | exact .inl rfl | exact .no
theorem quiet_ok {o : Oper} (hres : Res ρ E ds ls fr a) (hr : HRel ρ E s w) (hc : (trOp P ds o.op).cls = 0) (h : (evOp P (trOp P ds o.op) call ls fr s k).run ρ = some r) : QN P ρ E s w (execOp a.eval o) k r := by
  obtain ⟨dst, op, ty, pos, af, gd⟩ := o
  cases op with
  | move x => exact ex_move hres hr h
  | assign x => exact ex_move hres hr h
  | pick c x y => exact ex_pick hres hr h
  | alloc e => exact ((cls_alloc e).ne (by decide) hc h).elim
  | box e x => cases hc
  | build t ps => exact ex_build hres hr h
  | buildSlice t n ps => exact ((cls_bslice t n ps).ne (by decide) hc h).elim
  | load t x => exact ex_load hres hr h
  | store t x y => exact ((cls_store t x y).ne (by decide) hc h).elim
  | nilCheck x => exact ex_nilck hres hr h
  | binOp o t x y => exact ex_bin hres hr h
  | unOp o t x => exact ex_un (t := t) hres hr h
  | makeInterface t x => exact ex_mkif hres hr h
  | makeFunc f x y => exact ex_mkfn hres hr h
  | makeMap t x =>
    cases x with
    | none => cases hc
    | some x => cases h
  | makeSlice t x y => exact ((cls_mksl t x y).ne (by decide) hc h).elim
  | slice t x lo hi mx => exact ex_slice hres hr h
  | fieldAddr t x f => exact ex_fadr hres hr h
  | field t x f => exact ex_fld hres hr h
  | indexAddr t x i => exact ex_ixa hres hr h
  | index t x i => exact ex_ix hres hr h
  | lookup t x i ok => exact ex_lookup hres hr h
  | mapUpdate t x y z => exact ((cls_upd t x y z).ne (by decide) hc h).elim
  | insert t x y z => exact ((cls_ins t x y z).ne (by decide) hc h).elim
  | range t x => exact ((cls_range t x).ne (by decide) hc h).elim
  | next x b => exact ((cls_next x b).ne (by decide) hc h).elim
  | typeAssert x xt t ok => exact ex_assert hres hr h
  | extract x i => exact ex_ext hres hr h
  | convert x y z => exact ex_conv hres hr hc h
  | call c =>
    obtain ⟨cal, args, tys⟩ := c
    cases cal with
    | value f => cases f <;> cases hc
    | invoke x n => cases hc
    | builtin b =>
      have h' := fun cs => ex_builtin (ty := ty) (cs := cs) hres hr (b := b) (args := args) (ts := tys) hc h
      simp only [execOp, resolve, invoke, pure_bind]
      exact h' _
  | defer c => exact ((cls_defer c).ne (by decide) hc h).elim
  | entry x => exact ((cls_entry x).ne (by decide) hc h).elim
  | _ => cases h
theorem n1_build (t : TypeId) (ps : Array (Nat × Operand)) (hc : (trBuild P ds t ps).cls = 1) : False := by
  unfold trBuild at hc
  split at hc
  · split at hc
    · cases hb : sizesOk P _ <;> (rw [hb] at hc; cases hc)
    · cases hc
  · split at hc <;> cases hc
  · cases hc
theorem n1_bin (o : BinOp) (t : TypeId) (x y : Operand) (hc : (trBin P ds o t x y).cls = 1) : False := by
  unfold trBin at hc
  split at hc
  · cases o <;> cases hc
  · cases hc
  · cases o <;> cases hc
  · cases hc
theorem n1_assert (x : Operand) (t : TypeId) (ok : Bool) (hc : (trAssert P ds x t ok).cls = 1) : False := by
  unfold trAssert at hc
  split at hc
  · split at hc
    · rename_i z _
      cases hb : z.isNil 5 <;> (rw [hb] at hc; cases hc)
    · cases hc
  · split at hc <;> cases hc
  · cases hc
theorem Cls.ne' {n m : Nat} {o : AOp} (hn : Cls n o) (h' : n ≠ m) (h0 : 0 ≠ m) (hc : o.cls = m) : False := by
  rcases hn with hn | ⟨j, rfl⟩
  · exact h' (hn.symm.trans hc)
  · exact h0 hc
theorem n1_call (c : Call) (hc : (trCall P ds c).cls = 1) : False := by
  obtain ⟨cal, ⟨al⟩, ⟨tl⟩⟩ := c
  cases cal with
  | value f => cases f <;> cases hc
  | invoke x n => cases hc
  | builtin b =>
    have hc : (trBuiltin P ds b ⟨al⟩ ⟨tl⟩).cls = 1 := hc
    unfold trBuiltin at hc
    simp only at hc
    split at hc
    · split at hc <;> cases hc
    · split at hc <;> cases hc
    · exact Cls.ne' (trAppend_cls ..) (by decide) (by decide) hc
    · exact Cls.ne' (trCopy_cls ..) (by decide) (by decide) hc
    · cases hc
    · cases hc
    · exact Cls.ne' (trDelete_cls ..) (by decide) (by decide) hc
    · cases hc
theorem alloc_ok {o : Oper} (hres : Res ρ E ds ls fr a) (ha : AsmOk ρ s.asm) (hc : (trOp P ds o.op).cls = 1) (h : (evOp P (trOp P ds o.op) call ls fr s k).run ρ = some r) : AN P ρ E s (execOp a.eval o) k r := by
  obtain ⟨dst, op, ty, pos, af, gd⟩ := o
  cases op with
  | alloc e => exact an_alloc hres ha h
  | box e x => exact an_box hres ha h
  | buildSlice t n ps => exact an_bslice hres ha h
  | makeMap t x =>
    cases x with
    | none => exact an_map hres ha h
    | some x => cases h
  | makeSlice t x y => exact an_mksl hres ha h
  | move x => cases hc
  | assign x => cases hc
  | pick c x y => cases hc
  | build t ps => exact (n1_build t ps hc).elim
  | load t x => exact (by revert hc; simp only [trOp]; split <;> (intro h; cases h) : False).elim
  | store t x y => exact ((cls_store t x y).ne (by decide) hc h).elim
  | nilCheck x => cases hc
  | binOp o t x y => exact (n1_bin o t x y hc).elim
  | unOp o t x => cases hc
  | makeInterface t x => exact (by revert hc; simp only [trOp]; split <;> (intro h; cases h) : False).elim
  | makeFunc f x y => cases hc
  | slice t x lo hi mx => exact (by revert hc; simp only [trOp]; unfold trSlice; (repeat' split) <;> (intro h; cases h) : False).elim
  | fieldAddr t x f => exact (by revert hc; simp only [trOp]; unfold trFadr; (repeat' split) <;> (intro h; cases h) : False).elim
  | field t x f => exact (by revert hc; simp only [trOp]; unfold trFld; (repeat' split) <;> (intro h; cases h) : False).elim
  | indexAddr t x i => exact (by revert hc; simp only [trOp]; unfold trIxa; (repeat' split) <;> (intro h; cases h) : False).elim
  | index t x i => exact (by revert hc; simp only [trOp]; unfold trIx; (repeat' split) <;> (intro h; cases h) : False).elim
  | lookup t x i ok => exact (by revert hc; simp only [trOp]; unfold trLookup; (repeat' split) <;> (intro h; cases h) : False).elim
  | mapUpdate t x y z => exact ((cls_upd t x y z).ne (by decide) hc h).elim
  | insert t x y z => exact ((cls_ins t x y z).ne (by decide) hc h).elim
  | range t x => exact ((cls_range t x).ne (by decide) hc h).elim
  | next x b => exact ((cls_next x b).ne (by decide) hc h).elim
  | typeAssert x xt t ok => exact (n1_assert x t ok hc).elim
  | extract x i => cases hc
  | convert x y z => exact (by revert hc; simp only [trOp]; unfold trConv; (repeat' split) <;> (intro h; cases h) : False).elim
  | call c => exact (n1_call c hc).elim
  | defer c => exact ((cls_defer c).ne (by decide) hc h).elim
  | entry x => exact ((cls_entry x).ne (by decide) hc h).elim
  | _ => cases h
end Go.Ab
end

section
namespace Go.Ab
variable {β : Type} {P : Program} {ρ : Val} {E : Mem} {s : St} {w : World} {r : β} {k : Kv β}
variable {ds : List (Option Nat)} {ls : List AV} {fr : Fr} {a : Act} {call : CallT β}

/-- a value comes, the memory changes -/
def Eff (P : Program) (ρ : Val) (E : Mem) (s : St) (w : World) (m : Sem Value) (k : Kv β) (r : β) : Prop :=
  ∃ u w' v s' E', m.run P w = .ok u w' ∧ cv ρ E' v = some u ∧ Step E s w E' s' w' ∧ HRel ρ E' s' w' ∧ (k v s').run ρ = some r
theorem Eff.er {o : Oper} {m : Sem Value} (h : Eff P ρ E s w m k r) (ho : execOp a.eval o = (do pure (.value (← m)))) : ER P ρ E s w o a k r := by
  obtain ⟨u, w', v, s', E', hm, hv, hs, hr, hk⟩ := h
  exact .value (by rw [ho]; simp [hm]) ⟨v, s', E', hv, hs, hr, hk⟩
theorem Eff.mk {m : Sem Value} {v : AV} {u : Value} (hr : HRel ρ E s w) (hm : m.run P w = .ok u w) (hv : cv ρ E v = some u) (hk : (k v s).run ρ = some r) : Eff P ρ E s w m k r :=
  ⟨u, w, v, s, E, hm, hv, .refl .., hr, hk⟩

/-! ### stores -/
theorem run_storesAt {c o : Nat} {us : List Value} (hthere : w.there c o us.length) (h1 : ∀ u ∈ us, u.oneCell' = true) : (storeCells ⟨c, o, none⟩ us).run P w = .ok () (w.setCells c o us) := by
  have := run_storeCells_cells (P := P) c o us 0 w (fun j hj => by simpa using (hthere j hj).1) (fun j hj => by simpa using (hthere j hj).2) h1
  simpa using this
theorem storeN_ok (hr : HRel ρ E s w) {p : Pos} {off : Nat} {vs : List AV} {us : List Value} {s' : St} (hs : s.storeN p off vs = some s') (hv : cvs ρ E vs = some us) {c o : Nat} (hb : E.blk p = some (c, o)) :
    (storeCells ⟨c, o + off, none⟩ us).run P w = .ok () (w.setCells c (o + off) us) ∧ HRel ρ E s' (w.setCells c (o + off) us) ∧ Step E s w E s' (w.setCells c (o + off) us) := by
  unfold St.storeN at hs
  obtain ⟨b, hb', hs⟩ := Option.bind_eq_some_iff.1 hs
  obtain ⟨c', o', h1, h2, h3, h4, h5⟩ := hr.store hb' hv hs
  rw [hb] at h1; cases h1
  exact ⟨run_storesAt h2 h3, h4, h5⟩
theorem er_st {o : Oper} {t : TypeId} {x y : Operand} (hres : Res ρ E ds ls fr a) (hr : HRel ρ E s w) (ho : o.op = .store t x y) (h : (evOp P (trOp P ds (.store t x y)) call ls fr s k).run ρ = some r) : ER P ρ E s w o a k r := by
  simp only [trOp] at h
  cases hn : sizeA P t with
  | none => rw [hn] at h; cases h
  | some n =>
    rw [hn] at h
    obtain ⟨i, hi, hsz⟩ := sizeA_eq hn
    obtain ⟨vx, vy, hvx, hvy, h⟩ := run_on2 hres h
    obtain ⟨pa, hpa, h⟩ := run_onSome h
    obtain ⟨hl, h⟩ := run_guardB h
    obtain ⟨s', hs', h⟩ := run_onSome h
    rw [asPtr_eq hpa] at hvx
    simp only [cv, Option.map_eq_some_iff] at hvx
    obtain ⟨⟨c, o'⟩, hb, hvx⟩ := hvx
    have hc := cells_cv hvy
    have hlen := cvs_length hc
    obtain ⟨h1, h2, h3⟩ := storeN_ok (P := P) hr hs' hc hb
    have hrun : (Instr.storeAt t (a.eval x) (a.eval y)).run P w = .ok () (w.setCells c (o' + pa.off) (a.eval y).cells.toList) := by
      rw [← hvx]
      have hsz' : (a.eval y).cells.size = i.size := by
        rw [hsz]; simp at hl; rw [← hl]; simpa using hlen
      simp [Instr.storeAt, Instr.sureAddr, storeVar, sizeOf, typeInfo, hi, hsz', h1]
    refine .skip (w' := w.setCells c (o' + pa.off) (a.eval y).cells.toList) ?_ ⟨_, s', E, ?_, h3, h2, h⟩
    · obtain ⟨_, op, _, _, _, _⟩ := o
      simp only at ho
      subst ho
      simp [execOp, hrun]
    · simp [undefA, cv, undef, cvs]
end Go.Ab
end

section
namespace Go.Ab
variable {β : Type} {P : Program} {ρ : Val} {E : Mem} {s : St} {w : World} {r : β} {k : Kv β}
variable {ds : List (Option Nat)} {ls : List AV} {fr : Fr} {a : Act} {call : CallT β}

/-! ### a block goes -/
theorem kill_get {p q : Pos} {b : Blk} (h : (s.put p .dead).heap.get q = some b) (hl : Live b) : q ≠ p ∧ s.heap.get q = some b := by
  simp only [St.put, Trie.get_put] at h
  by_cases e : q = p
  · rw [if_pos e] at h; cases h; exact absurd rfl hl
  · rw [if_neg e] at h; exact ⟨e, h⟩
theorem HRel.kill {p : Pos} {b : Blk} (h : HRel ρ E s w) (hb : s.heap.get p = some b) (hro : b.isRo = false := by rfl) : HRel ρ E (s.put p .dead) w ∧ Step E s w E (s.put p .dead) w := by
  refine ⟨⟨?_, ?_, ?_, h.free, h.asm⟩, ⟨.refl E, Nat.le_refl _, fun _ _ => rfl, Nat.le_refl _, fun _ _ _ => rfl, ?_, rfl, rfl, rfl, ?_⟩⟩
  · intro q bq hq
    simp only [St.put, Trie.get_put] at hq
    by_cases e : q = p
    · rw [if_pos e] at hq; cases hq; trivial
    · rw [if_neg e] at hq; exact h.blks q bq hq
  · intro q q' b1 b2 c o o' hq hq' hl hl'
    exact h.inj q q' b1 b2 c o o' (kill_get hq hl).2 (kill_get hq' hl').2 hl hl'
  · intro q bq hq
    simp only [St.put, Trie.get_put] at hq
    by_cases e : q = p
    · subst e; exact h.dom q b hb
    · rw [if_neg e] at hq; exact h.dom q bq hq
  · intro q bq c o hq hl he
    exact .inr ⟨q, bq, o, (kill_get hq hl).2, hl, he⟩
  · intro q x k t hq
    show (s.heap.put p (some .dead)).get q = _
    rw [Trie.get_put]
    by_cases e : q = p
    · subst e; rw [hb] at hq; cases hq; cases hro
    · rw [if_neg e]; exact hq
/-- a block takes over the place of another -/
theorem HRel.move {p : Pos} {b nb : Blk} {w' : World} {c o o' cap : Nat} (h : HRel ρ E s w) (hb : s.heap.get p = some b) (hlive : Live b) (hbl : E.blk p = some (c, o))
    (hsz : w'.heap.size = w.heap.size) (hother : ∀ q, q ≠ c → w'.heap[q]? = w.heap[q]?) (hos : w'.os = w.os) (hout : w'.output = w.output) (htape : w'.tape = w.tape)
    (hnb : BRel ρ (E.addAt s.next c o' cap) s.next nb w') (hro : b.isRo = false := by rfl) :
    HRel ρ (E.addAt s.next c o' cap) ((s.put p .dead).new nb) w' ∧ Step E s w (E.addAt s.next c o' cap) ((s.put p .dead).new nb) w' := by
  have hfree := free_next h
  have hle : Mem.Le E (E.addAt s.next c o' cap) := Mem.le_addAt hfree
  have hnew : (E.addAt s.next c o' cap).blk s.next = some (c, o') := by simp [Mem.addAt]
  have hold : ∀ q, q ≠ s.next → (E.addAt s.next c o' cap).blk q = E.blk q := fun q hq => by simp [Mem.addAt, hq]
  have hsucc : ((s.put p .dead).new nb).next.toNat = s.next.toNat + 1 := Pos.toNat_succ _
  have hget : ∀ q, ((s.put p .dead).new nb).heap.get q = if q = s.next then some nb else (s.put p .dead).heap.get q := fun q => by
    show ((s.put p .dead).heap.put s.next (some nb)).get q = _
    rw [Trie.get_put]
  have hk : ∀ q bq, (s.put p .dead).heap.get q = some bq → q.toNat < s.next.toNat := fun q bq hq => by
    simp only [St.put, Trie.get_put] at hq
    by_cases e : q = p
    · rw [e]; exact h.dom p b hb
    · rw [if_neg e] at hq; exact h.dom q bq hq
  have hne : ∀ q bq, (s.put p .dead).heap.get q = some bq → q ≠ s.next := fun q bq hq e => by
    have := hk q bq hq
    rw [e] at this; omega
  refine ⟨⟨?_, ?_, ?_, ?_, h.asm⟩, ⟨hle, by rw [hsucc]; omega, ?_, by omega, ?_, ?_, hos, hout, htape, ?_⟩⟩
  · intro q bq hq
    rw [hget] at hq
    by_cases e : q = s.next
    · rw [if_pos e] at hq; cases hq; rw [e]; exact hnb
    · rw [if_neg e] at hq
      by_cases hlq : Live bq
      · obtain ⟨hqp, hq'⟩ := kill_get hq hlq
        exact (h.blks q bq hq').congr hle fun c2 o2 hl he => hother c2 fun e2 => hqp (by
          subst e2
          exact (h.inj q p bq b c2 o2 o hq' hb hlq hlive he hbl).resolve_right fun e => by rw [hro] at e; cases e.2)
      · have : bq = .dead := Classical.byContradiction hlq
        subst this; trivial
  · intro q q' b1 b2 c1 o1 o2 hq hq' hl hl' he he'
    rw [hget] at hq hq'
    by_cases e : q = s.next
    · by_cases e' : q' = s.next
      · left; rw [e, e']
      · rw [if_neg e'] at hq'
        obtain ⟨hqp, hq''⟩ := kill_get hq' hl'
        rw [e, hnew] at he; cases he
        rw [hold q' e'] at he'
        exact absurd ((h.inj q' p b2 b _ o2 o hq'' hb hl' hlive he' hbl).resolve_right fun e => by rw [hro] at e; cases e.2) hqp
    · rw [if_neg e] at hq
      obtain ⟨hqp, hq0⟩ := kill_get hq hl
      rw [hold q e] at he
      by_cases e' : q' = s.next
      · rw [e', hnew] at he'; cases he'
        exact absurd ((h.inj q p b1 b _ o1 o hq0 hb hl hlive he hbl).resolve_right fun e => by rw [hro] at e; cases e.2) hqp
      · rw [if_neg e'] at hq'
        obtain ⟨_, hq1⟩ := kill_get hq' hl'
        rw [hold q' e'] at he'
        exact h.inj q q' b1 b2 c1 o1 o2 hq0 hq1 hl hl' he he'
  · intro q bq hq
    rw [hget] at hq
    rw [hsucc]
    by_cases e : q = s.next
    · rw [e]; omega
    · rw [if_neg e] at hq; have := hk q bq hq; omega
  · intro q x hq
    rw [hsucc]
    by_cases e : q = s.next
    · rw [e]; omega
    · rw [hold q e] at hq; have := h.free q x hq; omega
  · intro q hq
    exact hold q (fun e => by rw [e] at hq; omega)
  · intro q hq hn
    exact hother q fun e => hn p b o hb hlive (by rw [hbl, e])
  · intro q bq c1 o1 hq hl he
    rw [hget] at hq
    by_cases e : q = s.next
    · rw [e, hnew] at he; cases he; exact .inr ⟨p, b, o, hb, hlive, hbl⟩
    · rw [if_neg e] at hq
      rw [hold q e] at he
      exact .inr ⟨q, bq, o1, (kill_get hq hl).2, hl, he⟩
  · intro q x k t hq
    have hqn : q ≠ s.next := fun e => by have := h.dom q _ hq; rw [e] at this; omega
    rw [hget, if_neg hqn]
    show (s.heap.put p (some .dead)).get q = _
    rw [Trie.get_put]
    by_cases e : q = p
    · subst e; rw [hb] at hq; cases hq; cases hro
    · rw [if_neg e]; exact hq

/-! ### append -/
/-- what is appended: the cells of a slice or of a string -/
structure ApV (P : Program) (i : TypeInfo) (tx : TypeId) (x : Value) (n : Nat) (news : List Value) (w : World) : Prop where
  kind : (∃ e', P.underlying tx = some (.slice e')) ∨ P.underlying tx = some .string
  len : ∀ w' : World, (Builtin.lenOf x).run P w' = .ok n w'
  cells : (Builtin.firstCells i.size n x).run P w = .ok news.toArray w
  cellsD : (Builtin.firstCells i.size n x).run P w.drew = .ok news.toArray w.drew
/-- .. or zeros -/
structure ApZ (P : Program) (i : TypeInfo) (uz : Value) (tx : TypeId) (x : Value) (n : Nat) (news : List Value) : Prop where
  ty : ∃ j, P.underlying tx = some (.int j)
  val : ∃ j, x = .int j (Int.ofNat n)
  le : n ≤ 1000000000
  bytes : n * i.bytes ≤ 1000000000
  news : news = repV uz.cells.toList n
def ApS (P : Program) (i : TypeInfo) (uz : Value) (tx : TypeId) (x : Value) (n : Nat) (news : List Value) (w : World) : Prop := ApV P i tx x n news w ∨ ApZ P i uz tx x n news
theorem zeroCells_rep (z : Array Value) (n : Nat) : Builtin.zeroCells z n = (repV z.toList n).toArray := range_rep z n
section
variable {t tx ty e : TypeId} {i : TypeInfo} {uz : Value} {x : Value} {n : Nat} {news olds : List Value} (ht : P.underlying t = some (.slice e)) (hi : P.info? e = some i)
include ht hi
theorem ap_room_none (hs : ApV P i tx x n news w) {len cap : Nat} (hroom : len + n ≤ cap) :
    (Builtin.append_ #[t, tx] ty #[.slice none len cap, x]).run P w = .ok (.slice none (len + n) cap) w := by
  rcases hs.kind with ⟨e', hk⟩ | hk <;> simp [Builtin.append_, run_underlying ht, run_underlying hk, sizeOf, typeInfo, hi, hs.len, hroom, hs.cells]
theorem ap_room_some (hs : ApV P i tx x n news w) {ad : Addr} {len cap : Nat} (hroom : len + n ≤ cap) {w' : World} (hst : (storeCells (ad.add (len * i.size)) news).run P w = .ok () w') :
    (Builtin.append_ #[t, tx] ty #[.slice (some ad) len cap, x]).run P w = .ok (.slice (some ad) (len + n) cap) w' := by
  rcases hs.kind with ⟨e', hk⟩ | hk <;> simp [Builtin.append_, run_underlying ht, run_underlying hk, sizeOf, typeInfo, hi, hs.len, hroom, hs.cells, hst]
theorem ap_growV (hiz : i.zero = some uz) (hs : ApV P i tx x n news w) {base : Option Addr} {len cap : Nat} (hg : cap < len + n) (hold : (Builtin.firstCells i.size len (.slice base len cap)).run P w.drew = .ok olds.toArray w.drew)
    (h1 : len + n ≤ 1000000000) (h2 : (len + n) * i.bytes ≤ 140737488355328) :
    (Builtin.append_ #[t, tx] ty #[.slice base len cap, x]).run P w = .ok (.slice (some ⟨w.heap.size, 0, none⟩) (len + n) (grownCap w (len + n) cap e))
        (w.drew.alloc (.cells (olds ++ news ++ (repV uz.cells.toList (grownCap w (len + n) cap e - (len + n)))).toArray e)) := by
  have hn : ¬ (len + n ≤ cap) := by omega
  have h63' : ¬ (9223372036854775807 < ((len : Int) + (n : Int))) := by omega
  have hfit := growslice_fits hg h2
  have h48' : ¬ (281474976710656 < Builtin.nextslicecap (len + n) cap * i.bytes) := by omega
  rcases hs.kind with ⟨e', hk⟩ | hk <;>
    simp [Builtin.append_, run_underlying ht, run_underlying hk, sizeOf, typeInfo, zeroValue, hi, hiz, hs.len, hn, h63', h48', Question.forced, hs.cellsD, hold, newRow, grownCap, zeroCells_rep]
variable (hiz : i.zero = some uz)
include hiz
theorem ap_roomZ_none (hs : ApZ P i uz tx x n news) {len cap : Nat} (hroom : len + n ≤ cap) :
    (Builtin.append_ #[t, tx] ty #[.slice none len cap, x]).run P w = .ok (.slice none (len + n) cap) w := by
  obtain ⟨⟨j, htx⟩, ⟨j', rfl⟩, hn1, hn2, rfl⟩ := hs
  have wl : IntKind.i64.wrap (n : Int) = (n : Int) := by rw [IntKind.wrap_i64]; omega
  have n1 : ¬ ((n : Int) < 0) := by omega
  have n2 : ¬ (281474976710656 < (n : Int) * (i.bytes : Int)) := by rw [← Int.natCast_mul]; omega
  by_cases hn : n * i.size = 0
  · simp [Builtin.append_, run_underlying ht, run_underlying htx, sizeOf, typeInfo, hi, hroom, asInt, asIntOf, wl, n1, n2, hn]
  · simp [Builtin.append_, run_underlying ht, run_underlying htx, sizeOf, typeInfo, hi, hroom, asInt, asIntOf, wl, n1, n2, hn, zeroValue, hiz]
theorem ap_roomZ_some (hsz : uz.cells.size = i.size) (hs : ApZ P i uz tx x n news) {ad : Addr} {len cap : Nat} (hroom : len + n ≤ cap) {w' : World} (hst : (storeCells (ad.add (len * i.size)) news).run P w = .ok () w') :
    (Builtin.append_ #[t, tx] ty #[.slice (some ad) len cap, x]).run P w = .ok (.slice (some ad) (len + n) cap) w' := by
  obtain ⟨⟨j, htx⟩, ⟨j', rfl⟩, hn1, hn2, rfl⟩ := hs
  have wl : IntKind.i64.wrap (n : Int) = (n : Int) := by rw [IntKind.wrap_i64]; omega
  have n1 : ¬ ((n : Int) < 0) := by omega
  have n2 : ¬ (281474976710656 < (n : Int) * (i.bytes : Int)) := by rw [← Int.natCast_mul]; omega
  by_cases hn : n * i.size = 0
  · have hnil : repV uz.cells.toList n = [] := List.eq_nil_of_length_eq_zero (by rw [repV_length]; simpa [hsz] using hn)
    rw [hnil] at hst
    simp [Builtin.append_, run_underlying ht, run_underlying htx, sizeOf, typeInfo, hi, hroom, asInt, asIntOf, wl, n1, n2, hn, hst]
  · simp [Builtin.append_, run_underlying ht, run_underlying htx, sizeOf, typeInfo, hi, hroom, asInt, asIntOf, wl, n1, n2, hn, zeroValue, hiz, zeroCells_rep, hst]
theorem ap_growZ (hsz : uz.cells.size = i.size) (hs : ApZ P i uz tx x n news) {base : Option Addr} {len cap : Nat} (hg : cap < len + n) (hold : (Builtin.firstCells i.size len (.slice base len cap)).run P w.drew = .ok olds.toArray w.drew)
    (h1 : len + n ≤ 1000000000) (h2 : (len + n) * i.bytes ≤ 140737488355328) :
    (Builtin.append_ #[t, tx] ty #[.slice base len cap, x]).run P w = .ok (.slice (some ⟨w.heap.size, 0, none⟩) (len + n) (grownCap w (len + n) cap e))
        (w.drew.alloc (.cells (olds ++ news ++ (repV uz.cells.toList (grownCap w (len + n) cap e - (len + n)))).toArray e)) := by
  obtain ⟨⟨j, htx⟩, ⟨j', rfl⟩, hn1, hn2, rfl⟩ := hs
  have hn : ¬ (len + n ≤ cap) := by omega
  have h63' : ¬ (9223372036854775807 < ((len : Int) + (n : Int))) := by omega
  have hfit := growslice_fits hg h2
  have h48' : ¬ (281474976710656 < Builtin.nextslicecap (len + n) cap * i.bytes) := by omega
  have wl : IntKind.i64.wrap (n : Int) = (n : Int) := by rw [IntKind.wrap_i64]; omega
  have n1 : ¬ ((n : Int) < 0) := by omega
  have n2 : ¬ (281474976710656 < (n : Int) * (i.bytes : Int)) := by rw [← Int.natCast_mul]; omega
  by_cases hn0 : n * i.size = 0
  · have hnil : repV uz.cells.toList n = [] := List.eq_nil_of_length_eq_zero (by rw [repV_length]; simpa [hsz] using hn0)
    rw [hnil]
    simp [Builtin.append_, run_underlying ht, run_underlying htx, sizeOf, typeInfo, zeroValue, hi, hiz, hn, h63', h48', Question.forced, hold, newRow, grownCap, zeroCells_rep, asInt, asIntOf, wl, n1, n2, hn0]
  · simp [Builtin.append_, run_underlying ht, run_underlying htx, sizeOf, typeInfo, zeroValue, hi, hiz, hn, h63', h48', Question.forced, hold, newRow, grownCap, zeroCells_rep, asInt, asIntOf, wl, n1, n2, hn0]
end
end Go.Ab
end

section
namespace Go.Ab
variable {β : Type} {P : Program} {ρ : Val} {E : Mem} {s : St} {w : World} {r : β} {k : Kv β}
variable {ds : List (Option Nat)} {ls : List AV} {fr : Fr} {a : Act} {call : CallT β}

theorem fresh_ok (hr : HRel ρ E s w) {cells : List AV} {us rest : List Value} {need sz g : Nat} {e : TypeId} {fz : Nat × Nat} (hc : cvs ρ E cells = some us) (hl : us.length = need * sz)
    (hk : (k (.slc s.next 0 need (.op 0)) (s.new (.grow cells sz))).run ρ = some r) {m : Sem Value}
    (hm : m.run P w = .ok (.slice (some ⟨w.heap.size, 0, none⟩) need g) (w.drew.alloc (.cells (us ++ rest).toArray e fz))) (hg : need ≤ g) (hrest : rest.length = (g - need) * sz)
    (hfz : unfz fz 0 (us.length + rest.length)) : Eff P ρ E s w m k r := by
  have hrd : HRel ρ E s w.drew := hr.drawn _
  have hle : Mem.Le E (E.add s.next w.heap.size g) := Mem.le_addAt (free_next hr)
  have hnew : (E.add s.next w.heap.size g).blk s.next = some (w.heap.size, 0) := by simp [Mem.add]
  have hcap : (E.add s.next w.heap.size g).cap s.next = g := by simp [Mem.add]
  have hb : BRel ρ (E.add s.next w.heap.size g) s.next (.grow cells sz) (w.drew.alloc (.cells (us ++ rest).toArray e fz)) := by
    refine ⟨w.heap.size, 0, us, [], rest, e, fz, hnew, cvs_mono hle hc, ?_, rfl, ?_, ?_⟩
    · have := heap_alloc_new w.drew (.cells (us ++ rest).toArray e fz)
      simpa using this
    · rw [hcap, hl, hrest, ← Nat.add_mul]; congr 1; omega
    · simpa using hfz
  obtain ⟨h1, h2⟩ := hrd.alloc (.grow cells sz) (.cells (us ++ rest).toArray e fz) g hb
  refine ⟨_, _, _, _, _, hm, ?_, (Step.drawn _).trans h2, h1, hk⟩
  have : capOf (E.add s.next w.heap.size g) s.next need (.op 0) = some g := by simp [capOf, hcap, hg]
  have := cv_slc_mk (ρ := ρ) (off := 0) (len := need) hnew this
  simpa using this
theorem unfz_zero (a b : Nat) : unfz (0, 0) a b := fun i _ _ h => by simp at h
theorem byteL_cv (l : List Nat) : cvs ρ E (l.map byteAV) = some (byteCells (bytesOf l)) := by
  have : l.map byteAV = (l.map (· % 256)).map fun b => AV.int .u8 (.ofNat b) := by simp [byteAV]
  rw [this, cvs_bytes]
  simp [byteCells, bytesOf, Function.comp_def]
theorem growOk_eq {bytes need : Nat} (h : growOk bytes need = true) : (4 * need + 4000) * bytes ≤ 281474976710656 ∧ need ≤ 1000000000 := by
  simp only [growOk, Bool.and_eq_true, Nat.ble_eq] at h; exact h
theorem growOk_fits {bytes need : Nat} (h : growOk bytes need = true) : need * bytes ≤ 140737488355328 := by
  have h1 := (growOk_eq h).1
  rw [Nat.add_mul, Nat.mul_assoc] at h1
  omega
theorem cellsOf_ok (hr : HRel ρ E s w) {sz : Nat} {y : AV} {b : NL} (h : cellsOf sz y s = some b) {uy : Value} (hy : cv ρ E y = some uy) :
    ∃ news, cvs ρ E b.l = some news ∧ news.length = b.n * sz ∧ (∀ w' : World, (Builtin.lenOf uy).run P w' = .ok b.n w') ∧
      (Builtin.firstCells sz b.n uy).run P w = .ok news.toArray w ∧ (Builtin.firstCells sz b.n uy).run P w.drew = .ok news.toArray w.drew := by
  unfold cellsOf at h
  cases hn : y.isNil 2 with
  | true =>
    rw [hn] at h
    simp only [cond_true, Option.some.injEq] at h
    subst h
    rw [isNil2 hn] at hy
    simp at hy; subst hy
    exact ⟨[], by simp [cvs], by simp, fun _ => rfl, run_firstCells_none w sz 0 0 0, run_firstCells_none w.drew sz 0 0 0⟩
  | false =>
    rw [hn] at h
    simp only [cond_false] at h
    cases hs : y.asSlc with
    | some a =>
      rw [hs] at h
      simp only [Option.map_eq_some_iff] at h
      obtain ⟨l, hl, rfl⟩ := h
      rw [asSlc_eq hs] at hy
      obtain ⟨c, o, m, hb, hcap, rfl⟩ := cv_slc hy
      obtain ⟨c1, o1, us, hb1, hus, hl1⟩ := hr.loadCells (P := P) hl
      obtain ⟨c2, o2, us2, hb2, hus2, hl2⟩ := (hr.drawn (w.drawn + 1)).loadCells (P := P) hl
      rw [hb] at hb1 hb2; cases hb1; cases hb2
      rw [hus] at hus2; cases hus2
      refine ⟨us, hus, ?_, fun _ => rfl, hl1, hl2⟩
      rw [cvs_length hus]
      obtain ⟨row, _, hle, rfl⟩ := St.loadN_eq hl
      have : Nat.mul a.len sz = a.len * sz := rfl
      rw [this] at hle ⊢
      rcases hle with hle | hle
      · simp; omega
      · rw [hle]; simp
    | none =>
      rw [hs] at h
      simp only at h
      cases hz : Nat.beq sz 1 with
      | false => rw [hz] at h; cases h
      | true =>
        rw [hz] at h
        simp only [cond_true, Option.map_eq_some_iff] at h
        obtain ⟨l, hl, rfl⟩ := h
        rw [asStr_eq hl] at hy
        simp at hy; subst hy
        have hsz : sz = 1 := by simpa using hz
        subst hsz
        have hsize : (bytesOf l).size = l.length := size_bytesOf l
        have f1 := firstCells_string (P := P) (bytesOf l) w
        have f2 := firstCells_string (P := P) (bytesOf l) w.drew
        rw [hsize] at f1 f2
        exact ⟨_, byteL_cv l, by rw [byteCells_length, hsize]; simp, fun _ => by simp [Builtin.lenOf, hsize], f1, f2⟩
theorem onCap_run {c : Cap} {f g : Nat → Tree β} (h : (onCap c f g).run ρ = some r) : (∃ n, c = .ex n ∧ (f n).run ρ = some r) ∨ (∃ d, c = .op d ∧ (g d).run ρ = some r) := by
  cases c with
  | ex n => exact .inl ⟨n, rfl, h⟩
  | op d => exact .inr ⟨d, rfl, h⟩
end Go.Ab
end

section
namespace Go.Ab
variable {β : Type} {P : Program} {ρ : Val} {E : Mem} {s : St} {w : World} {r : β} {k : Kv β}
variable {ds : List (Option Nat)} {ls : List AV} {fr : Fr} {a : Act} {call : CallT β}

theorem seqC_cv {kd : IntKind} {v : AV} {e' : IE} {u : Value} (h : seqC kd v = some e') (hu : cv ρ E v = some u) : u = .int kd (e'.den ρ) := by
  unfold seqC at h
  obtain ⟨x, hx, h⟩ := Option.bind_eq_some_iff.1 h
  cases hk : kEq kd x.k with
  | false => rw [hk] at h; cases h
  | true =>
    rw [hk] at h
    cases h
    rw [asIE_cv hx] at hu
    cases hu
    rw [(kEq_iff _ _).1 hk]
theorem seqE_cvs {kd : IntKind} : ∀ {l : List AV} {t' : IE} {us : List Value}, seqE kd l = some t' → cvs ρ E l = some us → us = (t'.sden ρ).map (Value.int kd)
  | [], t', us, h, hu => by cases h; rw [cvs_nil hu]; simp [IE.sden]
  | [v], t', us, h, hu => by
    simp only [seqE, Option.map_eq_some_iff] at h
    obtain ⟨e', he, rfl⟩ := h
    obtain ⟨x, y, rfl, h1, h2⟩ := cvs_cons hu
    rw [cvs_nil h2, seqC_cv he h1]
    simp [IE.sden]
  | v :: v2 :: l, t', us, h, hu => by
    simp only [seqE, Option.bind_eq_some_iff, Option.map_eq_some_iff] at h
    obtain ⟨e', he, t2, ht2, rfl⟩ := h
    obtain ⟨x, y, rfl, h1, h2⟩ := cvs_cons hu
    rw [seqC_cv he h1, seqE_cvs (l := v2 :: l) ht2 h2]
    simp [IE.sden]
theorem seqE_one {kd : IntKind} : ∀ {l : List AV} {t' : IE}, seqE kd l = some t' → allOne l = true := by
  have one : ∀ {v : AV} {e' : IE}, seqC kd v = some e' → v.isOne = true := fun {v e'} h => by
    unfold seqC at h
    obtain ⟨x, hx, _⟩ := Option.bind_eq_some_iff.1 h
    cases v <;> first | rfl | (simp [AV.asIE] at hx)
  intro l
  induction l with
  | nil => intro t' _; rfl
  | cons v l ih =>
    intro t' h
    cases l with
    | nil =>
      simp only [seqE, Option.map_eq_some_iff] at h
      obtain ⟨e', he, rfl⟩ := h
      show (bif v.isOne then allOne [] else false) = true
      rw [one he]; rfl
    | cons v2 l =>
      simp only [seqE, Option.bind_eq_some_iff, Option.map_eq_some_iff] at h
      obtain ⟨e', he, t2, ht2, rfl⟩ := h
      show (bif v.isOne then allOne (v2 :: l) else false) = true
      rw [one he]
      exact ih ht2
theorem appE_den {a' b' : IE} : (appE a' b').sden ρ = a'.sden ρ ++ b'.sden ρ := by
  unfold appE
  cases h : sameE a' (.sl []) with
  | true => rw [sameE_eq h]; simp [IE.sden]
  | false => simp [IE.sden]
section
variable {t tx ty e : TypeId} {i : TypeInfo} {uz : Value} {uy : Value} {news : List Value} (ht : P.underlying t = some (.slice e)) (hi : P.info? e = some i) (hiz : i.zero = some uz) (hsz : uz.cells.size = i.size)
include ht hi hiz hsz
theorem apS_none {n : Nat} (hs : ApS P i uz tx uy n news w) {len cap : Nat} (hroom : len + n ≤ cap) :
    (Builtin.append_ #[t, tx] ty #[.slice none len cap, uy]).run P w = .ok (.slice none (len + n) cap) w := by
  rcases hs with hs | hs
  · exact ap_room_none ht hi hs hroom
  · exact ap_roomZ_none ht hi hiz hs hroom
theorem apS_some {n : Nat} (hs : ApS P i uz tx uy n news w) {ad : Addr} {len cap : Nat} (hroom : len + n ≤ cap) {w' : World} (hst : (storeCells (ad.add (len * i.size)) news).run P w = .ok () w') :
    (Builtin.append_ #[t, tx] ty #[.slice (some ad) len cap, uy]).run P w = .ok (.slice (some ad) (len + n) cap) w' := by
  rcases hs with hs | hs
  · exact ap_room_some ht hi hs hroom hst
  · exact ap_roomZ_some ht hi hiz hsz hs hroom hst
theorem apS_grow {n : Nat} {olds : List Value} (hs : ApS P i uz tx uy n news w) {base : Option Addr} {len cap : Nat} (hg : cap < len + n) (hold : (Builtin.firstCells i.size len (.slice base len cap)).run P w.drew = .ok olds.toArray w.drew)
    (hgr : growOk i.bytes (len + n) = true) :
    (Builtin.append_ #[t, tx] ty #[.slice base len cap, uy]).run P w = .ok (.slice (some ⟨w.heap.size, 0, none⟩) (len + n) (grownCap w (len + n) cap e))
        (w.drew.alloc (.cells (olds ++ news ++ (repV uz.cells.toList (grownCap w (len + n) cap e - (len + n)))).toArray e)) := by
  rcases hs with hs | hs
  · exact ap_growV ht hi hiz hs hg hold (growOk_eq hgr).2 (growOk_fits hgr)
  · exact ap_growZ ht hi hiz hsz hs hg hold (growOk_eq hgr).2 (growOk_fits hgr)
/-- an append that makes a new row -/
theorem ef_fresh (hr : HRel ρ E s w) {n : Nat} {cells : List AV} {olds : List Value} (hs : ApS P i uz tx uy n news w) {base : Option Addr} {len cap : Nat} (hg : cap < len + n)
    (hold : (Builtin.firstCells i.size len (.slice base len cap)).run P w.drew = .ok olds.toArray w.drew) (hgr : growOk i.bytes (len + n) = true) (hc : cvs ρ E cells = some (olds ++ news)) (hl : (olds ++ news).length = (len + n) * i.size)
    (hk : (k (.slc s.next 0 (len + n) (.op 0)) (s.new (.grow cells i.size))).run ρ = some r) : Eff P ρ E s w (Builtin.append_ #[t, tx] ty #[.slice base len cap, uy]) k r := by
  have hm := apS_grow (ty := ty) ht hi hiz hsz hs hg hold hgr
  refine fresh_ok hr hc hl hk hm (grownCap_ge w (len + n) cap e) ?_ (unfz_zero _ _)
  rw [repV_length]
  congr 1
theorem ef_apEx (hr : HRel ρ E s w) {b : NL} (hs : ApS P i uz tx uy b.n news w) (hcl : cvs ρ E b.l = some news) (hnl : news.length = b.n * i.size) {x : VS} {c : Nat} {ux : Value} (hx : cv ρ E (.slc x.p x.off x.len (.ex c)) = some ux)
    (h : (apEx i.size i.bytes x b s k c).run ρ = some r) : Eff P ρ E s w (Builtin.append_ #[t, tx] ty #[ux, uy]) k r := by
  obtain ⟨cc, o, m, hb, hcap, rfl⟩ := cv_slc hx
  simp only [capOf, Option.some.injEq] at hcap
  subst hcap
  rcases run_ifB h with ⟨hle, h⟩ | ⟨hle, h⟩
  · have hle : x.len + b.n ≤ c := by simpa using hle
    obtain ⟨s', hs', h⟩ := run_onSome h
    obtain ⟨h1, h2, h3⟩ := storeN_ok (P := P) hr hs' hcl hb
    have hst := apS_some (ty := ty) (ad := ⟨cc, o + x.off, none⟩) ht hi hiz hsz hs hle (w' := w.setCells cc (o + (x.off + x.len * i.size)) news) (by
      rw [add_addr, Nat.add_assoc]; exact h1)
    exact ⟨_, _, _, _, E, hst, cv_slc_mk hb (by simp [capOf]), h3, h2, h⟩
  · have hle : c < x.len + b.n := by
      have : ¬ (x.len + b.n ≤ c) := by intro h'; rw [Nat.ble_eq_true_of_le h'] at hle; cases hle
      omega
    obtain ⟨old, hold, h⟩ := run_onSome h
    obtain ⟨hgr, h⟩ := run_guardB h
    obtain ⟨c2, o2, us, hb2, hus, hl2⟩ := (hr.drawn (w.drawn + 1)).loadCells (P := P) hold
    rw [hb] at hb2; cases hb2
    obtain ⟨row, _, hle2, hrow⟩ := St.loadN_eq hold
    have hul : us.length = x.len * i.size := by
      rw [cvs_length hus, hrow]
      rcases hle2 with h' | h'
      · simp; omega
      · rw [h']; simp
    exact ef_fresh ht hi hiz hsz hr hs hle (by simpa [Builtin.firstCells] using hl2) hgr (cvs_append hus hcl) (by rw [List.length_append, hul, hnl, Nat.add_mul]) h
theorem ef_moveRoom (hr : HRel ρ E s w) {b : NL} (hs : ApS P i uz tx uy b.n news w) (hcl : cvs ρ E b.l = some news) (hnl : news.length = b.n * i.size) (h1c : allOne b.l = true) {x : VS} {d : Nat} {cc o : Nat} (hb : E.blk x.p = some (cc, o)) (hcd : x.len + d ≤ E.cap x.p)
    {gcs : List AV} (hbl : s.heap.get x.p = some (.grow gcs i.size)) (hod : x.off = d * i.size) (hend : x.off + x.len * i.size = gcs.length) (hgr : growOk i.bytes (x.len + b.n) = true)
    (h : (k (.slc s.next 0 (x.len + b.n) (.op 0)) (St.new (s.put x.p .dead) (.grow (dropL x.off gcs ++ b.l) i.size))).run ρ = some r) (hroom : x.len + b.n ≤ E.cap x.p - d) :
    Eff P ρ E s w (Builtin.append_ #[t, tx] ty #[.slice (some ⟨cc, o + x.off, none⟩) x.len (E.cap x.p - d), uy]) k r := by
  obtain ⟨c2, o2, us, pre, rest, tt, fz, g1, g2, g3, g4, g5, g6⟩ := hr.blks _ _ hbl
  rw [hb] at g1; cases g1
  have hlen := cvs_length g2
  have hlive : Live (.grow gcs i.size) := by simp [Live]
  have hdrop : cvs ρ E (dropL x.off gcs ++ b.l) = some (us.drop x.off ++ news) := by rw [dropL_eq]; exact cvs_append (cvs_drop _ g2) hcl
  have hul : (us.drop x.off).length = x.len * i.size := by rw [List.length_drop, hlen]; omega
  have hr2 : (x.off + (x.len + b.n) * i.size) ≤ us.length + rest.length := by
    rw [g5, hod, ← Nat.add_mul]; exact Nat.mul_le_mul_right _ (by omega)
  have hrl : news.length ≤ rest.length := by rw [Nat.add_mul] at hr2; rw [hnl]; omega
  have hone := allOne_oneCell hcl h1c
  subst g4
  have hat : w.heap[cc]? = some (.cells ((pre ++ us) ++ rest.take news.length ++ rest.drop news.length).toArray tt fz) := by
    rw [g3]; simp
  have hset := heap_setCells_row cc tt fz news (pre ++ us) (rest.take news.length) (rest.drop news.length) w hat (by simp; omega)
  have hthere : w.there cc (pre.length + (x.off + x.len * i.size)) news.length := by
    intro j hj
    have hidx : pre.length + (x.off + x.len * i.size) + j = (pre ++ us).length + j := by rw [List.length_append, hend, hlen]
    constructor
    · unfold World.cell?
      simp only [g3, hidx]
      rw [List.getElem?_toArray, List.getElem?_append_right (by omega)]
      simp; omega
    · unfold World.frozen?
      simp only [g3]
      have := g6 (pre.length + (x.off + x.len * i.size) + j) (by omega) (by omega)
      obtain ⟨lo, hi'⟩ := fz
      simp only [Bool.and_eq_false_iff, decide_eq_false_iff_not] at *
      by_cases hlo : lo ≤ pre.length + (x.off + x.len * i.size) + j
      · right; intro hh; exact this ⟨hlo, hh⟩
      · left; exact hlo
  have hsr := run_storesAt (P := P) hthere hone
  have hst := apS_some (ty := ty) (ad := ⟨cc, pre.length + x.off, none⟩) (cap := E.cap x.p - d) ht hi hiz hsz hs hroom (w' := w.setCells cc (pre.length + (x.off + x.len * i.size)) news) (by
    rw [add_addr, Nat.add_assoc]; exact hsr)
  have hplace : pre.length + (x.off + x.len * i.size) = (pre ++ us).length := by rw [List.length_append, hend, hlen]
  rw [hplace] at hst
  obtain ⟨r1, r2, r3, _⟩ := setCells_rest cc news (pre ++ us).length w
  have hfree := free_next hr
  have hle' : Mem.Le E (E.addAt s.next cc (pre.length + x.off) (E.cap x.p - d)) := Mem.le_addAt hfree
  have hnb : BRel ρ (E.addAt s.next cc (pre.length + x.off) (E.cap x.p - d)) s.next (.grow (dropL x.off gcs ++ b.l) i.size) (w.setCells cc (pre ++ us).length news) := by
    refine ⟨cc, pre.length + x.off, us.drop x.off ++ news, pre ++ us.take x.off, rest.drop news.length, tt, fz, by simp [Mem.addAt], cvs_mono hle' hdrop, ?_, ?_, ?_, ?_⟩
    · rw [hset]
      congr 2
      simp [List.append_assoc]
      rw [← List.append_assoc (us.take x.off), List.take_append_drop]
    · simp; omega
    · have : (E.addAt s.next cc (pre.length + x.off) (E.cap x.p - d)).cap s.next = E.cap x.p - d := by simp [Mem.addAt]
      rw [this, Nat.sub_mul, ← g5, ← hod]
      simp; omega
    · intro j hj1 hj2
      refine g6 j (by omega) ?_
      simp at hj2
      omega
  obtain ⟨h4, h5⟩ := hr.move hbl hlive hb (heap_setCells_size _ _ _ _) (fun q hq => heap_setCells_ne cc news _ w q hq) r1 r2 r3 hnb
  refine ⟨_, _, _, _, _, hst, ?_, h5, h4, h⟩
  have hnew : (E.addAt s.next cc (pre.length + x.off) (E.cap x.p - d)).blk s.next = some (cc, pre.length + x.off) := by simp [Mem.addAt]
  have hcp : capOf (E.addAt s.next cc (pre.length + x.off) (E.cap x.p - d)) s.next (x.len + b.n) (.op 0) = some (E.cap x.p - d) := by
    simp [capOf, Mem.addAt, hroom]
  have := cv_slc_mk (ρ := ρ) (off := 0) (len := x.len + b.n) hnew hcp
  simpa using this
theorem ef_moveNone (hr : HRel ρ E s w) {b : NL} (hs : ApS P i uz tx uy b.n news w) (hcl : cvs ρ E b.l = some news) (hnl : news.length = b.n * i.size) (h1c : allOne b.l = true) {x : VS} {d : Nat} {cc o : Nat} (hb : E.blk x.p = some (cc, o)) (hcd : x.len + d ≤ E.cap x.p)
    {gcs : List AV} (hbl : s.heap.get x.p = some (.grow gcs i.size)) (hod : x.off = d * i.size) (hend : x.off + x.len * i.size = gcs.length) (hgr : growOk i.bytes (x.len + b.n) = true)
    (h : (k (.slc s.next 0 (x.len + b.n) (.op 0)) (St.new (s.put x.p .dead) (.grow (dropL x.off gcs ++ b.l) i.size))).run ρ = some r) (hroom : ¬ x.len + b.n ≤ E.cap x.p - d) :
    Eff P ρ E s w (Builtin.append_ #[t, tx] ty #[.slice (some ⟨cc, o + x.off, none⟩) x.len (E.cap x.p - d), uy]) k r := by
  obtain ⟨c2, o2, us, pre, rest, tt, fz, g1, g2, g3, g4, g5, g6⟩ := hr.blks _ _ hbl
  rw [hb] at g1; cases g1
  have hlen := cvs_length g2
  have hlive : Live (.grow gcs i.size) := by simp [Live]
  have hdrop : cvs ρ E (dropL x.off gcs ++ b.l) = some (us.drop x.off ++ news) := by rw [dropL_eq]; exact cvs_append (cvs_drop _ g2) hcl
  have hul : (us.drop x.off).length = x.len * i.size := by rw [List.length_drop, hlen]; omega
  have hlen2 : (us.drop x.off ++ news).length = (x.len + b.n) * i.size := by rw [List.length_append, hul, hnl, Nat.add_mul]
  have hrow : s.row x.p = some gcs := by unfold St.row; rw [hbl]; rfl
  obtain ⟨hk1, hk2⟩ := hr.kill hbl
  obtain ⟨c3, o3, us3, hb3, hus3, hl3, _⟩ := (hr.drawn (w.drawn + 1)).load hrow
  rw [hb] at hb3; cases hb3
  rw [g2] at hus3; cases hus3
  have hfc : (Builtin.firstCells i.size x.len (.slice (some ⟨cc, o + x.off, none⟩) x.len (E.cap x.p - d))).run P w.drew = .ok (us.drop x.off).toArray w.drew := by
    refine run_firstCells_some w.drew i.size x.len ⟨cc, o + x.off, none⟩ x.len _ (us.drop x.off) hul fun j v hv => ?_
    have := hl3 x.off (x.len * i.size) (by omega)
    rw [← hul, List.take_length] at this
    rw [add_addr]
    exact this j v hv
  obtain ⟨u, w', v, s', E', e1, e2, e3, e4, e5⟩ := ef_fresh (ty := ty) (s := s.put x.p .dead) ht hi hiz hsz hk1 hs (by omega) hfc hgr hdrop hlen2 h
  exact ⟨u, w', v, s', E', e1, e2, hk2.trans e3, e4, e5⟩
theorem ef_apOp (hr : HRel ρ E s w) {b : NL} (hs : ApS P i uz tx uy b.n news w) (hcl : cvs ρ E b.l = some news) (hnl : news.length = b.n * i.size) (hpos : 0 < i.size) {x : VS} {d : Nat} {ux : Value} (hx : cv ρ E (.slc x.p x.off x.len (.op d)) = some ux)
    (h : (apOp i.size i.bytes x b s k d).run ρ = some r) : Eff P ρ E s w (Builtin.append_ #[t, tx] ty #[ux, uy]) k r := by
  obtain ⟨cc, o, m, hb, hcap, rfl⟩ := cv_slc hx
  simp only [capOf] at hcap
  split at hcap
  case isFalse => cases hcap
  case isTrue hcd =>
  simp only [Option.some.injEq] at hcap
  subst hcap
  obtain ⟨bl, hbl, h⟩ := run_onSome h
  obtain ⟨g, hg, h⟩ := run_onSome h
  obtain ⟨hgd, h⟩ := run_guardB h
  simp only [Bool.and_eq_true, Nat.beq_eq] at hgd
  obtain ⟨hgz, hod⟩ := hgd
  have hgrow : bl = .grow g.cs g.sz := by cases bl <;> simp [Blk.asGrow] at hg; subst hg; rfl
  subst hgrow
  obtain ⟨c2, o2, us, pre, rest, tt, fz, g1, g2, g3, g4, g5, g6⟩ := hr.blks _ _ hbl
  rw [hb] at g1; cases g1
  rw [← hgz] at g5
  have hlen := cvs_length g2
  have hlive : Live (.grow g.cs g.sz) := by simp [Live]
  rcases run_ifB h with ⟨hle, h⟩ | ⟨hle, h⟩
  · have hle : x.off + (x.len + b.n) * i.size ≤ g.cs.length := by simpa using hle
    obtain ⟨s', hs', h⟩ := run_onSome h
    have hs2 : s.storeN x.p (x.off + x.len * i.size) b.l = some s' := by unfold St.storeN; rw [hbl]; exact hs'
    obtain ⟨h1, h2, h3⟩ := storeN_ok (P := P) hr hs2 hcl hb
    have hroom : d + (x.len + b.n) ≤ E.cap x.p := by
      refine Nat.le_of_mul_le_mul_right (?_ : (d + (x.len + b.n)) * i.size ≤ E.cap x.p * i.size) hpos
      rw [← g5, Nat.add_mul, ← hod, hlen]; omega
    have hst := apS_some (ty := ty) (ad := ⟨cc, o + x.off, none⟩) (cap := E.cap x.p - d) ht hi hiz hsz hs (show x.len + b.n ≤ E.cap x.p - d by omega) (w' := w.setCells cc (o + (x.off + x.len * i.size)) news) (by
      rw [add_addr, Nat.add_assoc]; exact h1)
    exact ⟨_, _, _, _, E, hst, cv_slc_mk hb (by simp only [capOf]; rw [if_pos (by omega)]), h3, h2, h⟩
  · obtain ⟨hend, h⟩ := run_guardB h
    simp only [Bool.and_eq_true, Nat.beq_eq] at hend
    obtain ⟨hend, h1c⟩ := hend
    obtain ⟨hgr, h⟩ := run_guardB h
    obtain ⟨gcs, gsz⟩ := g
    subst hgz
    by_cases hroom : x.len + b.n ≤ E.cap x.p - d
    · exact ef_moveRoom ht hi hiz hsz hr hs hcl hnl h1c hb hcd hbl hod hend hgr h hroom
    · exact ef_moveNone ht hi hiz hsz hr hs hcl hnl h1c hb hcd hbl hod hend hgr h hroom
theorem ef_apJ (hr : HRel ρ E s w) {b : NL} (hs : ApS P i uz tx uy b.n news w) (hcl : cvs ρ E b.l = some news) (hnl : news.length = b.n * i.size) {x : JS} {ux : Value} (hx : cv ρ E (.jslc x.p x.x x.n x.sz) = some ux)
    (h : (apJ i.size i.bytes x b s k).run ρ = some r) : Eff P ρ E s w (Builtin.append_ #[t, tx] ty #[ux, uy]) k r := by
  obtain ⟨bl, hbl, h⟩ := run_onSome h
  obtain ⟨g, hg, h⟩ := run_onSome h
  obtain ⟨hgd, h9⟩ := run_guardB h
  clear h
  simp only [Bool.and_eq_true, Nat.beq_eq] at hgd
  obtain ⟨⟨⟨⟨⟨hgz, haz⟩, hend⟩, h1c⟩, hgr0⟩, hbd⟩ := hgd
  have hgrow : bl = .grow g.cs g.sz := by cases bl <;> simp [Blk.asGrow] at hg; subst hg; rfl
  subst hgrow
  obtain ⟨gcs, gsz⟩ := g
  simp only at hgz hend hbl h9
  subst hgz
  simp only [cv, Option.bind_eq_some_iff] at hx
  obtain ⟨⟨cc, o⟩, hb, hx⟩ := hx
  rw [← haz] at hx
  split at hx
  case isFalse => cases hx
  case isTrue hcond =>
  obtain ⟨h0, h1, h2⟩ := hcond
  simp only [Option.some.injEq] at hx
  subst hx
  have hB := bounded_ok hr.asm hbd
  simp only [AtOk, atDen, IE.den] at hB
  obtain ⟨L, hL⟩ : ∃ L, L = (ρ.iv x.x).toNat := ⟨_, rfl⟩
  rw [← hL] at h1 ⊢
  have hLb : L ≤ 1000000 := by omega
  obtain ⟨m, hm⟩ : ∃ m, m = i.size * L := ⟨_, rfl⟩
  rw [← hm] at h1 ⊢
  obtain ⟨c2, o2, us, pre, rest, tt, fz, g1, g2, g3, g4, g5, g6⟩ := hr.blks _ _ hbl
  rw [hb] at g1; cases g1
  have hlen := cvs_length g2
  have hun : us.length = x.n * i.size := by rw [hlen, ← hend]
  have hcs : cvs ρ E (gcs ++ b.l) = some (us ++ news) := cvs_append g2 hcl
  have hone := allOne_oneCell hcl h1c
  have hgr : growOk i.bytes (L + x.n + b.n) = true := by
    have := growOk_eq hgr0
    simp only [growOk, Bool.and_eq_true, Nat.ble_eq]
    refine ⟨Nat.le_trans (Nat.mul_le_mul_right _ ?_) this.1, ?_⟩ <;> omega
  have hlive : Live (.grow gcs i.size) := by simp [Live]
  have hfree := free_next hr
  by_cases hroom : x.n + b.n ≤ E.cap x.p
  · have hr2 : (x.n + b.n) * i.size ≤ us.length + rest.length := by
      rw [g5]; exact Nat.mul_le_mul_right _ hroom
    have hrl : news.length ≤ rest.length := by rw [Nat.add_mul] at hr2; rw [hnl]; omega
    subst g4
    have hat : w.heap[cc]? = some (.cells ((pre ++ us) ++ rest.take news.length ++ rest.drop news.length).toArray tt fz) := by
      rw [g3]; simp
    have hset := heap_setCells_row cc tt fz news (pre ++ us) (rest.take news.length) (rest.drop news.length) w hat (by simp; omega)
    have hthere : w.there cc (pre ++ us).length news.length := by
      intro j hj
      constructor
      · unfold World.cell?
        simp only [g3]
        rw [List.getElem?_toArray, List.getElem?_append_right (by omega)]
        simp; omega
      · unfold World.frozen?
        simp only [g3]
        have := g6 ((pre ++ us).length + j) (by simp; omega) (by simp; omega)
        obtain ⟨lo, hi'⟩ := fz
        simp only [Bool.and_eq_false_iff, decide_eq_false_iff_not] at *
        by_cases hlo : lo ≤ (pre ++ us).length + j
        · right; intro hh; exact this ⟨hlo, hh⟩
        · left; exact hlo
    have hsr := run_storesAt (P := P) hthere hone
    have hplace : pre.length - m + (L + x.n) * i.size = (pre ++ us).length := by
      rw [List.length_append, hun, Nat.add_mul, Nat.mul_comm L, ← hm]; omega
    have hst := apS_some (ty := ty) (ad := ⟨cc, pre.length - m, none⟩) (len := L + x.n) (cap := L + E.cap x.p) ht hi hiz hsz hs (by omega) (w' := w.setCells cc (pre ++ us).length news) (by
      rw [add_addr, hplace]; exact hsr)
    obtain ⟨r1, r2, r3, _⟩ := setCells_rest cc news (pre ++ us).length w
    have hle' : Mem.Le E (E.addAt s.next cc pre.length (E.cap x.p)) := Mem.le_addAt hfree
    have hcp : (E.addAt s.next cc pre.length (E.cap x.p)).cap s.next = E.cap x.p := by simp [Mem.addAt]
    have hnb : BRel ρ (E.addAt s.next cc pre.length (E.cap x.p)) s.next (.grow (gcs ++ b.l) i.size) (w.setCells cc (pre ++ us).length news) := by
      refine ⟨cc, pre.length, us ++ news, pre, rest.drop news.length, tt, fz, by simp [Mem.addAt], cvs_mono hle' hcs, ?_, rfl, ?_, ?_⟩
      · rw [hset]
        congr 2
        simp [List.append_assoc]
      · rw [hcp, ← g5]; simp; omega
      · intro j hj1 hj2
        refine g6 j hj1 ?_
        simp at hj2
        omega
    obtain ⟨h4, h5⟩ := hr.move hbl hlive hb (heap_setCells_size _ _ _ _) (fun q hq => heap_setCells_ne cc news _ w q hq) r1 r2 r3 hnb
    refine ⟨_, _, _, _, _, hst, ?_, h5, h4, h9⟩
    have hnew : (E.addAt s.next cc pre.length (E.cap x.p)).blk s.next = some (cc, pre.length) := by simp [Mem.addAt]
    simp only [cv, hnew, hcp, Option.bind_some, ← hL, ← hm]
    rw [if_pos ⟨h0, h1, hroom⟩, Nat.add_assoc]
  · obtain ⟨hk1, hk2⟩ := hr.kill hbl
    have hold : (pre.drop (o - m) ++ us).length = (L + x.n) * i.size := by
      rw [List.length_append, List.length_drop, g4, hun, Nat.add_mul, Nat.mul_comm L, ← hm]; omega
    have hsplit : pre ++ us ++ rest = pre.take (o - m) ++ ((pre.drop (o - m) ++ us) ++ rest) := by
      rw [← List.append_assoc, ← List.append_assoc, List.take_append_drop]
    have hfc : (Builtin.firstCells i.size (L + x.n) (.slice (some ⟨cc, o - m, none⟩) (L + x.n) (L + E.cap x.p))).run P w.drew = .ok (pre.drop (o - m) ++ us).toArray w.drew := by
      refine run_firstCells_some w.drew i.size (L + x.n) ⟨cc, o - m, none⟩ (L + x.n) _ (pre.drop (o - m) ++ us) hold fun j v hv => ?_
      rw [add_addr]
      unfold World.cell?
      have g3' : w.drew.heap[cc]? = some (.cells (pre ++ us ++ rest).toArray tt fz) := g3
      simp only [g3', List.getElem?_toArray]
      rw [hsplit, List.getElem?_append_right (by simp; omega)]
      have hj : j < (pre.drop (o - m) ++ us).length := (List.getElem?_eq_some_iff.1 hv).1
      rw [List.getElem?_append_left (by simp at hj ⊢; omega)]
      simp only [List.length_take]
      rw [show o - m + j - min (o - m) pre.length = j by omega]
      exact hv
    have hmm := apS_grow (ty := ty) (base := some ⟨cc, o - m, none⟩) (len := L + x.n) (cap := L + E.cap x.p) ht hi hiz hsz hs (by omega) hfc hgr
    have hgc := grownCap_ge w (L + x.n + b.n) (L + E.cap x.p) e
    obtain ⟨gc, hgce⟩ : ∃ gc, gc = grownCap w (L + x.n + b.n) (L + E.cap x.p) e := ⟨_, rfl⟩
    rw [← hgce] at hmm hgc
    have hrd : HRel ρ E (s.put x.p .dead) w.drew := hk1.drawn _
    have hfree2 := free_next hrd
    have hle' : Mem.Le E (E.addAt (s.put x.p .dead).next w.drew.heap.size m (gc - L)) := Mem.le_addAt hfree2
    have hnew : (E.addAt (s.put x.p .dead).next w.drew.heap.size m (gc - L)).blk (s.put x.p .dead).next = some (w.drew.heap.size, m) := by simp [Mem.addAt]
    have hcp : (E.addAt (s.put x.p .dead).next w.drew.heap.size m (gc - L)).cap (s.put x.p .dead).next = gc - L := by simp [Mem.addAt]
    have hpd : (pre.drop (o - m)).length = m := by rw [List.length_drop, g4]; omega
    obtain ⟨h4, h5⟩ := hrd.allocAt (.grow (gcs ++ b.l) i.size) (.cells (pre.drop (o - m) ++ us ++ news ++ (repV uz.cells.toList (gc - (L + x.n + b.n)))).toArray e) m (gc - L) (by
      refine ⟨w.drew.heap.size, m, us ++ news, pre.drop (o - m), repV uz.cells.toList (gc - (L + x.n + b.n)), e, (0, 0), hnew, cvs_mono hle' hcs, ?_, hpd, ?_, unfz_zero _ _⟩
      · have := heap_alloc_new w.drew (.cells (pre.drop (o - m) ++ us ++ news ++ (repV uz.cells.toList (gc - (L + x.n + b.n)))).toArray e)
        rw [this]
        simp [List.append_assoc]
      · rw [hcp, List.length_append, hun, hnl, repV_length]
        have hzz : uz.cells.toList.length = i.size := by simpa using hsz
        rw [hzz, ← Nat.add_mul, ← Nat.add_mul]
        congr 1
        omega)
    refine ⟨_, _, _, _, _, hmm, ?_, (hk2.trans (Step.drawn _)).trans h5, h4, h9⟩
    have hne : s.next = (s.put x.p .dead).next := rfl
    rw [hne]
    simp only [cv, hnew, hcp, Option.bind_some, ← hL, ← hm]
    rw [if_pos ⟨h0, Nat.le_refl _, by omega⟩, Nat.sub_self, ← Nat.add_assoc]
    have hge : L + (gc - L) = gc := by omega
    rw [hge]
    rfl
theorem ef_apSeq (hr : HRel ρ E s w) {b : NL} (hs : ApS P i uz tx uy b.n news w) (hcl : cvs ρ E b.l = some news) (hnl : news.length = b.n * i.size) {x : SQ} {ux : Value} (hx : cv ρ E (.sslc x.p x.lo x.hi x.cp) = some ux)
    (h : (apSeq i.size i.bytes x b s k).run ρ = some r) : Eff P ρ E s w (Builtin.append_ #[t, tx] ty #[ux, uy]) k r := by
  obtain ⟨bl, hbl, h⟩ := run_onSome h
  obtain ⟨g, hg, h⟩ := run_onSome h
  obtain ⟨te, hte, h⟩ := run_onSome h
  obtain ⟨hgd, h9⟩ := run_guardB h
  clear h
  simp only [Bool.and_eq_true] at hgd
  obtain ⟨⟨⟨⟨⟨g1, g2⟩, g3⟩, g4⟩, g5⟩, g6⟩ := hgd
  have hz1 : i.size = 1 := by simpa using g1
  have hseq : bl = .seq g.k g.s g.cp := by cases bl <;> simp [Blk.asSeqW] at hg; subst hg; rfl
  subst hseq
  have hcp := sameO_eq g4
  have hshort := shortS_ok hr.asm g6
  obtain ⟨cc, o, hb, c1, c2, c3, rfl⟩ := cv_sslc hx
  have hlo : x.lo.den ρ = 0 := by rw [sameE_eq g2]; rfl
  have hhi : x.hi.den ρ = ((g.s.sden ρ).length : Int) := by
    rw [Bool.or_eq_true] at g3
    rcases g3 with g3 | g3
    · rw [sameE_eq g3]; simp [IE.den]
    · rw [Bool.and_eq_true] at g3
      rw [sameE_eq g3.1, sameE_eq g3.2]
      simp [IE.den, IE.sden]
  obtain ⟨L, hL⟩ : ∃ L, L = (g.s.sden ρ).length := ⟨_, rfl⟩
  rw [← hL] at hhi hshort
  have hnt : (x.hi.den ρ - x.lo.den ρ).toNat = L := by rw [hlo, hhi]; omega
  have hl0 : (x.lo.den ρ).toNat = 0 := by rw [hlo]; rfl
  rw [hnt, hl0, Nat.add_zero, Nat.sub_zero]
  rw [show (x.hi.den ρ).toNat = L from by rw [hhi]; omega] at c3
  obtain ⟨C, hC⟩ : ∃ C, C = capE ρ E x.p x.cp := ⟨_, rfl⟩
  rw [← hC] at c3 ⊢
  obtain ⟨c', o', pre, rest, tt, fz, f1, f2, f3, f4, f5⟩ := hr.blks _ _ hbl
  rw [hb] at f1; cases f1
  rw [← hcp, ← hC, ← hL] at f4
  rw [← hL] at f5
  obtain ⟨us, hus⟩ : ∃ us, us = (g.s.sden ρ).map (Value.int g.k) := ⟨_, rfl⟩
  rw [← hus] at f2
  have hul : us.length = L := by rw [hus, List.length_map, ← hL]
  have hnews : news = (te.sden ρ).map (Value.int g.k) := seqE_cvs hte hcl
  have hnn : news.length = b.n := by rw [hnl, hz1, Nat.mul_one]
  have htl : (te.sden ρ).length = b.n := by rw [← hnn, hnews, List.length_map]
  have hmap : ((appE g.s te).sden ρ).map (Value.int g.k) = us ++ news := by rw [appE_den, List.map_append, ← hus, ← hnews]
  have hal : ((appE g.s te).sden ρ).length = L + b.n := by rw [appE_den, List.length_append, ← hL, htl]
  have h1c : allOne b.l = true := seqE_one hte
  have hone := allOne_oneCell hcl h1c
  have hgr : growOk i.bytes (L + b.n) = true := by
    have := growOk_eq g5
    simp only [growOk, Bool.and_eq_true, Nat.ble_eq]
    refine ⟨Nat.le_trans (Nat.mul_le_mul_right _ ?_) this.1, ?_⟩ <;> omega
  have hlive : Live (.seq g.k g.s g.cp) := by simp [Live]
  have hfree := free_next hr
  by_cases hroom : L + b.n ≤ C
  · have hrl : news.length ≤ rest.length := by rw [hnn]; omega
    subst f3
    have hat : w.heap[cc]? = some (.cells ((pre ++ us) ++ rest.take news.length ++ rest.drop news.length).toArray tt fz) := by
      rw [f2]; simp
    have hset := heap_setCells_row cc tt fz news (pre ++ us) (rest.take news.length) (rest.drop news.length) w hat (by simp; omega)
    have hthere : w.there cc (pre ++ us).length news.length := by
      intro j hj
      constructor
      · unfold World.cell?
        simp only [f2]
        rw [List.getElem?_toArray, List.getElem?_append_right (by omega)]
        simp; omega
      · unfold World.frozen?
        simp only [f2]
        have := f5 ((pre ++ us).length + j) (by simp; omega) (by simp; omega)
        obtain ⟨lo, hi'⟩ := fz
        simp only [Bool.and_eq_false_iff, decide_eq_false_iff_not] at *
        by_cases hlo : lo ≤ (pre ++ us).length + j
        · right; intro hh; exact this ⟨hlo, hh⟩
        · left; exact hlo
    have hsr := run_storesAt (P := P) hthere hone
    have hplace : pre.length + L * i.size = (pre ++ us).length := by rw [List.length_append, hul, hz1, Nat.mul_one]
    have hst := apS_some (ty := ty) (ad := ⟨cc, pre.length, none⟩) (len := L) (cap := C) ht hi hiz hsz hs hroom (w' := w.setCells cc (pre ++ us).length news) (by
      rw [add_addr, hplace]; exact hsr)
    obtain ⟨r1, r2, r3, _⟩ := setCells_rest cc news (pre ++ us).length w
    have hle' : Mem.Le E (E.addAt s.next cc pre.length C) := Mem.le_addAt hfree
    have hcp' : (E.addAt s.next cc pre.length C).cap s.next = C := by simp [Mem.addAt]
    have hnb : BRel ρ (E.addAt s.next cc pre.length C) s.next (.seq g.k (appE g.s te) none) (w.setCells cc (pre ++ us).length news) := by
      refine ⟨cc, pre.length, pre, rest.drop news.length, tt, fz, by simp [Mem.addAt], ?_, rfl, ?_, ?_⟩
      · rw [hset, hmap]
        congr 2
        simp [List.append_assoc]
      · rw [hal]
        simp only [capE, hcp', List.length_drop]; omega
      · intro j hj1 hj2
        refine f5 j hj1 ?_
        rw [hal, List.length_drop] at hj2
        omega
    obtain ⟨h4, h5⟩ := hr.move hbl hlive hb (heap_setCells_size _ _ _ _) (fun q hq => heap_setCells_ne cc news _ w q hq) r1 r2 r3 hnb
    refine ⟨_, _, _, _, _, hst, ?_, h5, h4, h9⟩
    have hnew : (E.addAt s.next cc pre.length C).blk s.next = some (cc, pre.length) := by simp [Mem.addAt]
    have := cv_sslc_mk (ρ := ρ) (lo := .c 0) (hi := .len (appE g.s te)) (cp := none) hnew (by simp [IE.den]) (by simp [IE.den]) (by simp [IE.den, capE, hcp', hal]; omega)
    rw [this]
    simp [IE.den, capE, hcp', hal]
    omega
  · obtain ⟨hk1, hk2⟩ := hr.kill hbl
    have hfc : (Builtin.firstCells i.size L (.slice (some ⟨cc, o, none⟩) L C)).run P w.drew = .ok us.toArray w.drew := by
      refine run_firstCells_some w.drew i.size L ⟨cc, o, none⟩ L _ us (by rw [hul, hz1, Nat.mul_one]) fun j v hv => ?_
      rw [add_addr]
      have f2' : w.drew.heap[cc]? = some (.cells (pre ++ us ++ rest).toArray tt fz) := f2
      have hj : j < us.length := (List.getElem?_eq_some_iff.1 hv).1
      have := cell_row f2' j hj
      rw [f3] at this
      rw [this]; exact hv
    have hmm := apS_grow (ty := ty) (base := some ⟨cc, o, none⟩) (len := L) (cap := C) ht hi hiz hsz hs (by omega) hfc hgr
    have hgc := grownCap_ge w (L + b.n) C e
    obtain ⟨gc, hgce⟩ : ∃ gc, gc = grownCap w (L + b.n) C e := ⟨_, rfl⟩
    rw [← hgce] at hmm hgc
    have hrd : HRel ρ E (s.put x.p .dead) w.drew := hk1.drawn _
    have hfree2 := free_next hrd
    have hle' : Mem.Le E (E.addAt (s.put x.p .dead).next w.drew.heap.size 0 gc) := Mem.le_addAt hfree2
    have hnew : (E.addAt (s.put x.p .dead).next w.drew.heap.size 0 gc).blk (s.put x.p .dead).next = some (w.drew.heap.size, 0) := by simp [Mem.addAt]
    have hcp' : (E.addAt (s.put x.p .dead).next w.drew.heap.size 0 gc).cap (s.put x.p .dead).next = gc := by simp [Mem.addAt]
    obtain ⟨h4, h5⟩ := hrd.allocAt (.seq g.k (appE g.s te) none) (.cells (us ++ news ++ (repV uz.cells.toList (gc - (L + b.n)))).toArray e) 0 gc (by
      refine ⟨w.drew.heap.size, 0, [], repV uz.cells.toList (gc - (L + b.n)), e, (0, 0), hnew, ?_, rfl, ?_, unfz_zero _ _⟩
      · have := heap_alloc_new w.drew (.cells (us ++ news ++ (repV uz.cells.toList (gc - (L + b.n)))).toArray e)
        rw [this, hmap]
        simp [List.append_assoc]
      · rw [hal, repV_length]
        have hzz : uz.cells.toList.length = 1 := by rw [← hz1]; simpa using hsz
        rw [hzz]
        simp only [capE, hcp']
        omega)
    refine ⟨_, _, _, _, _, hmm, ?_, (hk2.trans (Step.drawn _)).trans h5, h4, h9⟩
    have hne : s.next = (s.put x.p .dead).next := rfl
    rw [hne]
    have := cv_sslc_mk (ρ := ρ) (lo := .c 0) (hi := .len (appE g.s te)) (cp := none) hnew (by simp [IE.den]) (by simp [IE.den]) (by simp only [IE.den, hal, Int.toNat_natCast]; show L + b.n ≤ (E.addAt (s.put x.p .dead).next w.drew.heap.size 0 gc).cap (s.put x.p .dead).next; rw [hcp']; exact hgc)
    rw [this]
    simp only [IE.den, capE, hcp', hal, Int.toNat_zero, Nat.add_zero, Nat.sub_zero, Int.sub_zero, Int.toNat_natCast]
    rfl
end
end Go.Ab
end

section
namespace Go.Ab
variable {β : Type} {P : Program} {ρ : Val} {E : Mem} {s : St} {w : World} {r : β} {k : Kv β}
variable {ds : List (Option Nat)} {ls : List AV} {fr : Fr} {a : Act} {call : CallT β}

theorem apKind_eq {tx : TypeId} {zs : Bool} (h : (undA P tx).bind apKind = some zs) : (zs = true ∧ ∃ j, P.underlying tx = some (.int j)) ∨ (zs = false ∧ ((∃ e', P.underlying tx = some (.slice e')) ∨ P.underlying tx = some .string)) := by
  obtain ⟨d, hd, h⟩ := Option.bind_eq_some_iff.1 h
  have hd' := undA_eq hd
  cases d <;> simp [apKind] at h <;> subst h
  · exact .inl ⟨rfl, _, hd'⟩
  · exact .inr ⟨rfl, .inr hd'⟩
  · exact .inr ⟨rfl, .inl ⟨_, hd'⟩⟩
section
variable {t tx ty e : TypeId} {i : TypeInfo} {uz : Value} {uy : Value} {news : List Value} (ht : P.underlying t = some (.slice e)) (hi : P.info? e = some i) (hiz : i.zero = some uz) (hsz : uz.cells.size = i.size)
include ht hi hiz hsz
theorem ef_apTo (hr : HRel ρ E s w) {b : NL} (hs : ApS P i uz tx uy b.n news w) (hcl : cvs ρ E b.l = some news) (hnl : news.length = b.n * i.size) (hpos : 0 < i.size) {x : AV} {ux : Value} (hx : cv ρ E x = some ux)
    (h : (apTo i.size i.bytes x b s k).run ρ = some r) : Eff P ρ E s w (Builtin.append_ #[t, tx] ty #[ux, uy]) k r := by
  rcases run_ifB h with ⟨hn, h⟩ | ⟨_, h⟩
  · rw [isNil2 hn] at hx
    simp at hx; subst hx
    rcases run_ifB h with ⟨h0, h⟩ | ⟨h0, h⟩
    · have h0 : b.n = 0 := by simpa using h0
      have := apS_none (ty := ty) (len := 0) (cap := 0) ht hi hiz hsz hs (by omega)
      rw [h0] at this
      exact .mk hr this (by simp) h
    · have h0 : b.n ≠ 0 := by intro e; rw [e] at h0; cases h0
      obtain ⟨hgr, h⟩ := run_guardB h
      have := ef_fresh (ty := ty) (base := none) (len := 0) (cap := 0) (olds := []) ht hi hiz hsz hr hs (by omega) (run_firstCells_none w.drew i.size 0 0 0) (by rw [Nat.zero_add]; exact hgr) hcl (by simpa using hnl) (k := k) (by rw [Nat.zero_add]; exact h)
      exact this
  · rcases run_onSomeOr h with ⟨v, hv, h⟩ | ⟨_, h⟩
    · rw [asSlc_eq hv] at hx
      rcases onCap_run h with ⟨n, hc, h⟩ | ⟨d, hc, h⟩
      · rw [hc] at hx
        exact ef_apEx ht hi hiz hsz hr hs hcl hnl hx h
      · rw [hc] at hx
        exact ef_apOp ht hi hiz hsz hr hs hcl hnl hpos hx h
    · rcases run_onSomeOr h with ⟨v, hv, h⟩ | ⟨_, h⟩
      · rw [asSslc_eq hv] at hx
        exact ef_apSeq ht hi hiz hsz hr hs hcl hnl hx h
      obtain ⟨v, hv, h⟩ := run_onSome h
      have hxe : x = .jslc v.p v.x v.n v.sz := by cases x <;> simp [AV.asJ] at hv; rw [← hv]
      rw [hxe] at hx
      exact ef_apJ ht hi hiz hsz hr hs hcl hnl hx h
end
theorem zerosOf_eq {bytes : Nat} {z : List AV} {n : Nat} {b : NL} (h : zerosOf bytes z n = some b) : n * bytes ≤ 1000000000 ∧ n ≤ 1000000000 ∧ b = ⟨n, repL z n⟩ := by
  unfold zerosOf at h
  cases hc : Nat.ble (Nat.mul n bytes) 1000000000 && Nat.ble n 1000000000 with
  | false => rw [hc] at h; cases h
  | true =>
    rw [hc] at h
    simp only [cond_true, Option.some.injEq] at h
    simp only [Bool.and_eq_true, Nat.ble_eq] at hc
    exact ⟨hc.1, hc.2, h.symm⟩
theorem ef_append (hres : Res ρ E ds ls fr a) (hr : HRel ρ E s w) {t tx ty : TypeId} {x y : Operand} (h : (evOp P (trAppend P ds t tx x y) call ls fr s k).run ρ = some r) :
    Eff P ρ E s w (Builtin.append_ #[t, tx] ty #[a.eval x, a.eval y]) k r := by
  unfold trAppend at h
  cases hse : sliceE P t with
  | none => rw [hse] at h; cases h
  | some e =>
    cases hk : (undA P tx).bind apKind with
    | none => rw [hse, hk] at h; cases h
    | some zs =>
      rw [hse, hk] at h
      simp only [appOp] at h
      cases hi0 : infoA P e with
      | none => rw [hi0] at h; cases h
      | some i =>
        cases hz : zeroOf P e with
        | none => rw [hi0, hz] at h; cases h
        | some z =>
          rw [hi0, hz] at h
          simp only at h
          obtain ⟨i', uz, hi, hiz, hszl, hcz⟩ := zeroOf_eq (ρ := ρ) (E := E) hz
          have := infoA_eq hi0
          rw [hi] at this; cases this
          have hsz : uz.cells.size = i.size := by rw [hszl]; exact zero_size (e := e) (i := i) hcz
          have ht := sliceE_eq hse
          obtain ⟨vx, vy, hvx, hvy, h⟩ := run_on2 hres h
          obtain ⟨hg, h⟩ := run_guardB h
          simp only [Bool.and_eq_true, Nat.blt_eq] at hg
          obtain ⟨b, hb, h9⟩ := run_onSome h
          clear h
          rcases apKind_eq hk with ⟨rfl, j, htx⟩ | ⟨rfl, htx⟩
          · simp only [cond_true] at hb
            obtain ⟨n, hn, hb⟩ := Option.bind_eq_some_iff.1 hb
            obtain ⟨h1, h2, rfl⟩ := zerosOf_eq hb
            obtain ⟨j', rfl⟩ := asNat_eq hn
            simp only [cv_int, Option.some.injEq] at hvy
            have hs : ApS P i uz tx (a.eval y) n (repV uz.cells.toList n) w := .inr ⟨⟨j, htx⟩, ⟨j', hvy.symm⟩, h2, h1, rfl⟩
            exact ef_apTo (b := ⟨n, repL z n⟩) ht hi hiz hsz hr hs (cvs_rep hcz n) (by rw [repV_length]; simp [hsz]) hg.1.2 hvx h9
          · simp only [cond_false] at hb
            obtain ⟨news, n1, n2, n3, n4, n5⟩ := cellsOf_ok (P := P) hr hb hvy
            exact ef_apTo (b := b) ht hi hiz hsz hr (.inl ⟨htx, n3, n4, n5⟩) n1 n2 hg.1.2 hvx h9

/-! ### copy -/
theorem takeL_mk : ∀ (n : Nat) (l : List AV), n ≤ l.length → takeL n l = some (l.take n)
  | 0, l, _ => rfl
  | n + 1, [], h => by simp at h
  | n + 1, x :: l, h => by
    have : takeL (n + 1) (x :: l) = (Option.rec (motive := fun _ => Option (List AV)) none (fun r => some (x :: r)) (takeL n l) : Option (List AV)) := rfl
    rw [this, takeL_mk n l (by simpa using h)]
    rfl
theorem loadN_take {p : Pos} {off n m : Nat} {cs : List AV} (h : s.loadN p off n = some cs) (hm : m ≤ n) : s.loadN p off m = some (cs.take m) := by
  obtain ⟨row, hr, hle, rfl⟩ := St.loadN_eq h
  unfold St.loadN
  rw [hr]
  simp only [Option.bind_some]
  rw [dropL_eq, List.take_take, Nat.min_eq_left hm]
  exact takeL_mk m _ (by simp; omega)
theorem cellsOf_take (hr : HRel ρ E s w) {sz : Nat} {y : AV} {b : NL} (h : cellsOf sz y s = some b) {uy : Value} (hy : cv ρ E y = some uy) {news : List Value} (hn : cvs ρ E b.l = some news) {m : Nat} (hm : m ≤ b.n) :
    (Builtin.firstCells sz m uy).run P w = .ok (news.take (m * sz)).toArray w := by
  unfold cellsOf at h
  cases hn2 : y.isNil 2 with
  | true =>
    rw [hn2] at h
    simp only [cond_true, Option.some.injEq] at h
    subst h
    rw [isNil2 hn2] at hy
    simp at hy; subst hy
    simp only at hm
    rw [cvs_nil hn, show m = 0 from by omega]
    simpa using run_firstCells_none w sz 0 0 0
  | false =>
    rw [hn2] at h
    simp only [cond_false] at h
    cases hs : y.asSlc with
    | some a =>
      rw [hs] at h
      simp only [Option.map_eq_some_iff] at h
      obtain ⟨l, hl, rfl⟩ := h
      rw [asSlc_eq hs] at hy
      obtain ⟨c, o, mm, hb, hcap, rfl⟩ := cv_slc hy
      have hle : m * sz ≤ Nat.mul a.len sz := Nat.mul_le_mul_right _ hm
      obtain ⟨c1, o1, us, hb1, hus, hl1⟩ := hr.loadCells (P := P) (loadN_take hl hle)
      rw [hb] at hb1; cases hb1
      rw [cvs_take _ hn] at hus; cases hus
      exact hl1
    | none =>
      rw [hs] at h
      simp only at h
      cases hz : Nat.beq sz 1 with
      | false => rw [hz] at h; cases h
      | true =>
        rw [hz] at h
        simp only [cond_true, Option.map_eq_some_iff] at h
        obtain ⟨l, hl, rfl⟩ := h
        rw [asStr_eq hl] at hy
        simp at hy; subst hy
        have hsz : sz = 1 := by simpa using hz
        subst hsz
        rw [byteL_cv] at hn
        cases hn
        simp [Builtin.firstCells, byteCells, bytesOf, Nat.mul_one]
theorem ef_copy (hres : Res ρ E ds ls fr a) (hr : HRel ρ E s w) {t ty : TypeId} {tl : List TypeId} {x y : Operand} (h : (evOp P (trCopy P ds t x y) call ls fr s k).run ρ = some r) :
    Eff P ρ E s w (Builtin.copy_ ⟨t :: tl⟩ ty #[a.eval x, a.eval y]) k r := by
  unfold trCopy at h
  cases hse : (sliceE P t).bind (sizeA P) with
  | none => rw [hse] at h; cases h
  | some z =>
    rw [hse] at h
    obtain ⟨e, he, hz⟩ := Option.bind_eq_some_iff.1 hse
    obtain ⟨i, hi, rfl⟩ := sizeA_eq hz
    have ht := sliceE_eq he
    obtain ⟨vx, vy, hvx, hvy, h⟩ := run_on2 hres h
    obtain ⟨b, hb, h⟩ := run_onSome h
    obtain ⟨news, n1, n2, n3, n4, n5⟩ := cellsOf_ok (P := P) hr hb hvy
    rcases run_ifB h with ⟨hn, h⟩ | ⟨_, h⟩
    · rw [isNil2 hn] at hvx
      simp only [cv_nils, Option.some.injEq] at hvx
      rw [← hvx]
      have h0 := cellsOf_take (P := P) hr hb hvy n1 (m := 0) (Nat.zero_le _)
      refine .mk hr (u := goInt 0) (v := .int .i64 (.ofNat 0)) ?_ (by simp [goInt]) (run_kLen h)
      have : (Builtin.firstCells i.size 0 (a.eval y)).run P w = .ok #[] w := by simpa using h0
      simp [Builtin.copy_, run_underlying ht, n3, sizeOf, typeInfo, hi, this, Nat.min_def]
    · obtain ⟨v, hv, h⟩ := run_onSome h
      obtain ⟨cs, hcs, h⟩ := run_onSome h
      obtain ⟨s', hs', h9⟩ := run_onSome h
      obtain ⟨hle, rfl⟩ := takeL_eq _ _ _ hcs
      have hmul : Nat.mul (Nat.min b.n v.len) i.size = Nat.min b.n v.len * i.size := rfl
      rw [hmul] at hs'
      rw [asSlc_eq hv] at hvx
      obtain ⟨c, o, m, hbk, hcap, hvx⟩ := cv_slc hvx
      obtain ⟨h1, h2, h3⟩ := storeN_ok (P := P) hr hs' (cvs_take _ n1) hbk
      have h0 := cellsOf_take (P := P) hr hb hvy n1 (m := Nat.min b.n v.len) (Nat.min_le_left _ _)
      rw [hvx]
      refine ⟨goInt (Nat.min b.n v.len), _, .int .i64 (.ofNat (Nat.min b.n v.len)), s', E, ?_, by simp [goInt], h3, h2, run_kLen h9⟩
      have hmin : (if b.n ≤ v.len then b.n else v.len) = Nat.min b.n v.len := rfl
      simp [Builtin.copy_, run_underlying ht, n3, sizeOf, typeInfo, hi, h0, h1]
end Go.Ab
end

section
namespace Go.Ab
variable {β : Type} {P : Program} {ρ : Val} {E : Mem} {s : St} {w : World} {r : β} {k : Kv β}
variable {ds : List (Option Nat)} {ls : List AV} {fr : Fr} {a : Act} {call : CallT β}

/-! ### a block is set anew -/
def setBlk (w : World) (c : Nat) (o : Obj) : World := { w with heap := w.heap.set! c o }
theorem run_setMap {c : Nat} {es : Array MapEntry} {n : Nat} {o : Obj} (h : w.heap[c]? = some (.map es n)) : (setObj c o).run P w = .ok () (setBlk w c o) := by
  simp [setObj, Sem.run, h, setBlk]
theorem run_setSit {c : Nat} {x : ByteArray} {n : Nat} {o : Obj} (h : w.heap[c]? = some (.stringIter x n)) : (setObj c o).run P w = .ok () (setBlk w c o) := by
  simp [setObj, Sem.run, h, setBlk]
theorem HRel.setBlk {p : Pos} {b nb : Blk} {c o : Nat} {obj : Obj} (h : HRel ρ E s w) (hb : s.heap.get p = some b) (hlive : Live b) (hbl : E.blk p = some (c, o)) (hnb : BRel ρ E p nb (setBlk w c obj)) (hro : b.isRo = false := by rfl) :
    HRel ρ E (s.put p nb) (Ab.setBlk w c obj) ∧ Step E s w E (s.put p nb) (Ab.setBlk w c obj) := by
  have hne : ∀ q, q ≠ c → (Ab.setBlk w c obj).heap[q]? = w.heap[q]? := fun q hq => by simp [Ab.setBlk, Array.getElem?_set, Array.set!_eq_setIfInBounds, Array.getElem?_setIfInBounds, Ne.symm hq]
  have key : ∀ x bx, (s.put p nb).heap.get x = some bx → Live bx → ∃ by', s.heap.get x = some by' ∧ Live by' ∧ (by'.isRo = true → bx.isRo = true) := by
    intro x bx hx hl
    simp only [St.put, Trie.get_put] at hx
    by_cases e : x = p
    · rw [e]; exact ⟨b, hb, hlive, fun e => by rw [hro] at e; cases e⟩
    · rw [if_neg e] at hx; exact ⟨bx, hx, hl, id⟩
  refine ⟨⟨?_, ?_, ?_, h.free, h.asm⟩, ⟨.refl E, Nat.le_refl _, fun _ _ => rfl, by simp [Ab.setBlk], ?_, ?_, rfl, rfl, rfl, ?_⟩⟩
  · intro q bq hq
    simp only [St.put, Trie.get_put] at hq
    by_cases e : q = p
    · rw [if_pos e] at hq; cases hq; rw [e]; exact hnb
    · rw [if_neg e] at hq
      refine (h.blks q bq hq).congr (.refl E) fun c2 o2 hl he => hne c2 fun e2 => e ?_
      subst e2
      exact (h.inj q p bq b c2 o2 o hq hb hl hlive he hbl).resolve_right fun e => by rw [hro] at e; cases e.2
  · intro q q' b1 b2 c1 o1 o2 hq hq' hl hl' he he'
    obtain ⟨x1, hx1, hl1, hr1⟩ := key q b1 hq hl
    obtain ⟨x2, hx2, hl2, hr2⟩ := key q' b2 hq' hl'
    rcases h.inj q q' x1 x2 c1 o1 o2 hx1 hx2 hl1 hl2 he he' with e | ⟨e1, e2⟩
    · exact .inl e
    · exact .inr ⟨hr1 e1, hr2 e2⟩
  · intro q bq hq
    simp only [St.put, Trie.get_put] at hq
    by_cases e : q = p
    · rw [e]; exact h.dom p b hb
    · rw [if_neg e] at hq; exact h.dom q bq hq
  · intro q hq hn
    exact hne q fun e => hn p b o hb hlive (by rw [hbl, e])
  · intro q bq c1 o1 hq hl he
    obtain ⟨x1, hx1, hl1, _⟩ := key q bq hq hl
    exact .inr ⟨q, x1, o1, hx1, hl1, he⟩
  · intro q x k t hq
    show (s.heap.put p (some nb)).get q = _
    rw [Trie.get_put]
    by_cases e : q = p
    · subst e; rw [hb] at hq; cases hq; cases hro
    · rw [if_neg e]; exact hq
theorem setBlk_get {c : Nat} {obj : Obj} {o : Obj} (h : w.heap[c]? = some o) : (Ab.setBlk w c obj).heap[c]? = some obj := by
  have := (Array.getElem?_eq_some_iff.1 h).1
  simp [Ab.setBlk, Array.set!_eq_setIfInBounds, Array.getElem?_setIfInBounds, this]

/-! ### sameness -/
theorem sameN_eq : ∀ (l m : List Nat), sameN l m = true → l = m
  | [], [], _ => rfl
  | [], b :: m, h => by simp [sameN] at h
  | a :: l, [], h => by simp [sameN] at h
  | a :: l, b :: m, h => by
    simp only [sameN, Bool.and_eq_true, Nat.beq_eq] at h
    rw [h.1, sameN_eq l m h.2]
theorem ite_true {p : Prop} [Decidable p] (h : (if p then true else false) = true) : p := by
  by_cases hp : p
  · exact hp
  · rw [if_neg hp] at h; cases h
mutual
theorem same_eq : ∀ (x y : AV), AV.same x y = true → x = y
  | .bool a, y, h => by cases y <;> simp [AV.same] at h; rw [h]
  | .int j a, y, h => by
    cases y <;> simp [AV.same] at h
    rw [h.1, (ieq_iff _ _).1 h.2]
  | .str a, y, h => by
    cases y <;> simp [AV.same] at h
    rw [sameN_eq _ _ h]
  | .nilp, y, h => by cases y <;> simp [AV.same] at h; rfl
  | .ptr p o, y, h => by
    cases y <;> simp [AV.same, Pos.beq_eq] at h
    rw [h.1, h.2]
  | .nils, y, h => by cases y <;> simp [AV.same] at h; rfl
  | .slc p o n c, y, h => by
    cases y <;> simp [AV.same, Pos.beq_eq] at h
    obtain ⟨⟨⟨h1, h2⟩, h3⟩, h4⟩ := h
    rw [h1, h2, h3, h4]
  | .nilm, y, h => by cases y <;> simp [AV.same] at h; rfl
  | .map p, y, h => by
    cases y <;> simp [AV.same, Pos.beq_eq] at h
    rw [h]
  | .func f a c, y, h => by
    cases y <;> simp [AV.same] at h
    obtain ⟨⟨h1, h2⟩, h3⟩ := h
    rw [h1, sameL_eq _ _ h2, sameL_eq _ _ h3]
  | .nilf, y, h => by cases y <;> simp [AV.same] at h; rfl
  | .iface t v, y, h => by
    cases y <;> simp [AV.same] at h
    rw [h.1, same_eq _ _ h.2]
  | .nili, y, h => by cases y <;> simp [AV.same] at h; rfl
  | .agg a, y, h => by
    cases y <;> simp [AV.same] at h
    rw [sameL_eq _ _ h]
  | .tup a, y, h => by
    cases y <;> simp [AV.same] at h
    rw [sameL_eq _ _ h]
  | .sint j a, y, h => by
    cases y <;> simp [AV.same] at h
    rw [h.1, h.2]
  | .sbool a, y, h => by
    cases y <;> simp [AV.same] at h
    rw [h]
  | .opq a, y, h => by
    cases y <;> simp [AV.same] at h
    rw [h]
  | .yld a, y, h => by
    cases y <;> simp [AV.same] at h
    rw [(Pos.beq_eq _ _).1 h]
  | .jslc a b c d, y, h => by
    cases y <;> simp [AV.same] at h
    rw [(Pos.beq_eq _ _).1 h.1.1.1, h.1.1.2, h.1.2, h.2]
  | .sstr a, y, h => by
    cases y <;> simp [AV.same] at h
    rw [sameE_eq h]
  | .sslc a b c d, y, h => by
    cases y <;> simp [AV.same] at h
    rw [(Pos.beq_eq _ _).1 h.1.1.1, sameE_eq h.1.1.2, sameE_eq h.1.2, sameO_eq h.2]
  | .sptr a b, y, h => by
    cases y <;> simp [AV.same] at h
    rw [(Pos.beq_eq _ _).1 h.1, sameE_eq h.2]
  | .bad, y, h => by cases y <;> simp [AV.same] at h
theorem sameL_eq : ∀ (x y : List AV), sameL x y = true → x = y
  | [], y, h => by cases y <;> simp [sameL] at h; rfl
  | a :: l, y, h => by
    cases y <;> simp [sameL] at h
    rw [same_eq _ _ h.1, sameL_eq _ _ h.2]
end
theorem bytesBeq (a b : ByteArray) : (a == b) = true ↔ a = b := by
  obtain ⟨a⟩ := a
  obtain ⟨b⟩ := b
  show (a == b) = true ↔ _
  rw [beq_iff_eq, ByteArray.mk.injEq]
/-- plain keys -/
theorem bitsOk_same : ∀ (n m : Nat), n ≤ m → ∀ (x : AV) (u : Value), bitsOk n x = true → cv ρ E x = some u → Instr.sameBits m u u = true
  | 0, m, _, x, u, h, _ => by simp [bitsOk] at h
  | n + 1, 0, hm, _, _, _, _ => by omega
  | n + 1, m + 1, hm, x, u, h, hx => by
    cases x <;> simp only [bitsOk, Bool.false_eq_true] at h
    case bool b => simp at hx; subst hx; simp [Instr.sameBits]
    case int j b => simp at hx; subst hx; simp [Instr.sameBits]
    case str l => simp at hx; subst hx; simp only [Instr.sameBits]; exact (bytesBeq _ _).2 rfl
    case agg l =>
      obtain ⟨us, hus, rfl⟩ := cv_agg hx
      have key : ∀ (l : List AV) (us : List Value), l.all (bitsOk n) = true → cvs ρ E l = some us → (us.zip us).all (fun (x, y) => Instr.sameBits m x y) = true := by
        intro l
        induction l with
        | nil => intro us _ hus; rw [cvs_nil hus]; rfl
        | cons a l ih =>
          intro us h hus
          obtain ⟨x, y, rfl, h1, h2⟩ := cvs_cons hus
          simp only [List.all_cons, Bool.and_eq_true] at h
          simp only [List.zip_cons_cons, List.all_cons, Bool.and_eq_true]
          exact ⟨bitsOk_same n m (by omega) a x h.1 h1, ih y h.2 h2⟩
      simp only [Instr.sameBits, beq_self_eq_true, Bool.true_and]
      exact key l us h hus

/-! ### maps -/
theorem centries_get : ∀ (n : Nat) {l : List Ent} {us : List MapEntry} , centries ρ E l = some us → l.length = us.length
  | _, [], us, h => by simp [centries] at h; subst h; rfl
  | n, e :: l, us, h => by
    simp only [centries, Option.bind_eq_some_iff, Option.map_eq_some_iff] at h
    obtain ⟨x, hx, y, hy, rfl⟩ := h
    simp [centries_get n hy]
theorem centries_append : ∀ {l m : List Ent} {us vs : List MapEntry}, centries ρ E l = some us → centries ρ E m = some vs → centries ρ E (l ++ m) = some (us ++ vs)
  | [], m, us, vs, h, h' => by simp [centries] at h; subst h; exact h'
  | e :: l, m, us, vs, h, h' => by
    simp only [centries, Option.bind_eq_some_iff, Option.map_eq_some_iff] at h
    obtain ⟨x, hx, y, hy, rfl⟩ := h
    simp [centries, hx, centries_append hy h']
theorem centries_set : ∀ (n : Nat) {l : List Ent} {us : List MapEntry} {e : Ent} {ue : MapEntry}, centries ρ E l = some us → centry ρ E e = some ue → centries ρ E (setNth n e l) = some (us.set n ue)
  | _, [], us, _, _, h, _ => by simp [centries] at h; subst h; simp [setNth, centries]
  | 0, e' :: l, us, _, _, h, h' => by
    simp only [centries, Option.bind_eq_some_iff, Option.map_eq_some_iff] at h
    obtain ⟨x, hx, y, hy, rfl⟩ := h
    simp [setNth, centries, h', hy]
  | n + 1, e' :: l, us, _, _, h, h' => by
    simp only [centries, Option.bind_eq_some_iff, Option.map_eq_some_iff] at h
    obtain ⟨x, hx, y, hy, rfl⟩ := h
    simp [setNth, centries, hx, centries_set n hy h']
theorem centries_del : ∀ (n : Nat) {l : List Ent} {us : List MapEntry}, centries ρ E l = some us → centries ρ E (delNth n l) = some (us.eraseIdx n)
  | _, [], us, h => by simp [centries] at h; subst h; simp [delNth, centries]
  | 0, e' :: l, us, h => by
    simp only [centries, Option.bind_eq_some_iff, Option.map_eq_some_iff] at h
    obtain ⟨x, hx, y, hy, rfl⟩ := h
    simp [delNth, hy]
  | n + 1, e' :: l, us, h => by
    simp only [centries, Option.bind_eq_some_iff, Option.map_eq_some_iff] at h
    obtain ⟨x, hx, y, hy, rfl⟩ := h
    simp [delNth, centries, hx, centries_del n hy]
theorem map_rel {p : Pos} {c o : Nat} {es : List Ent} {us : List MapEntry} {n : Nat} (hb : E.blk p = some (c, o)) (hc : centries ρ E es = some us) {w0 : World} {ob : Obj} (h0 : w0.heap[c]? = some ob) :
    BRel ρ E p (.map es n) (Ab.setBlk w0 c (.map us.toArray n)) := ⟨c, o, us, hb, hc, setBlk_get h0⟩
theorem er_upd {o : Oper} (hres : Res ρ E ds ls fr a) (hr : HRel ρ E s w) {t : TypeId} {x y z : Operand} (ho : execOp a.eval o = (do Instr.mapUpdate t (a.eval x) (a.eval y) (a.eval z); pure .skip)) (h : (evOp P (trOp P ds (.mapUpdate t x y z)) call ls fr s k).run ρ = some r) : ER P ρ E s w o a k r := by
  simp only [trOp] at h
  split at h
  case h_2 => cases h
  rename_i kt et hu
  have ht := undA_eq hu
  obtain ⟨vm, vk, hvm, hvk, h⟩ := run_on2 hres h
  obtain ⟨vv, hvv, h⟩ := run_onArg hres h
  obtain ⟨hf, h⟩ := run_guardB h
  have hck : ∀ (e : Bool) , (Instr.checkKey e 10000 kt (a.eval y)).run P w = .ok () w := fun e => run_checkKey 10 10000 (by omega) kt vk (a.eval y) e hf hvk
  obtain ⟨d, hd⟩ := keyFits_und hf
  obtain ⟨p, hp, h⟩ := run_onSome h
  obtain ⟨b, hb, h⟩ := run_onSome h
  rw [asMap_eq hp] at hvm
  obtain ⟨c, oo, hbk, hum⟩ := cv_map hvm
  obtain ⟨c', o', us, hb', hus, hheap⟩ := hr.blks p _ (St.mapAt_eq hb)
  rw [hbk] at hb'; cases hb'
  obtain ⟨res, ures, s', hmore, hfr, h, hres'⟩ := findE_ok (P := P) hvk b.es us 0 h hr hus
  have hfk := hfr.findKey hd
  have hobj : (getObj c).run P w = .ok (.map us.toArray b.clock) w := by simp [getObj, Sem.run, hheap]
  have hr' := hr.more hmore
  have hget : s'.heap.get p = some (.map b.es b.clock) := by rw [hmore.heap]; exact St.mapAt_eq hb
  rcases hres' with ⟨rfl, rfl⟩ | ⟨n, e, ue, rfl, rfl, hen, huen, hce⟩
  · simp only [Option.map_none] at hfk
    have hnew : centries ρ E (b.es ++ [{ key := vk, val := vv, born := b.clock }]) = some (us ++ [⟨a.eval y, a.eval z, b.clock⟩]) := centries_append hus (by simp [centries, centry, hvk, hvv])
    obtain ⟨h1, h2⟩ := hr'.setBlk hget (by simp [Live]) hbk (map_rel (n := b.clock + 1) hbk hnew hheap)
    refine .skip (w' := _) ?_ ⟨_, _, E, ?_, (Step.more hmore).trans h2, h1, h⟩
    · rw [ho, hum]
      simp [Instr.mapUpdate, run_underlying ht, hobj, hck, hfk, run_setMap hheap]
    · simp [undefA, cv, undef, cvs]
  · obtain ⟨hs, h⟩ := run_guardB h
    simp only [Bool.and_eq_true] at hs
    have hkey := same_eq _ _ hs.1
    simp only [centry, Option.bind_eq_some_iff, Option.map_eq_some_iff] at hce
    obtain ⟨uk, huk, uv, huv, rfl⟩ := hce
    rw [hkey, hvk] at huk
    cases huk
    simp only [Option.map_some, Nat.zero_add] at hfk h
    have hnew : centries ρ E (setNth n { e with key := vk, val := vv } b.es) = some (us.set n ⟨a.eval y, a.eval z, e.born⟩) := centries_set n hus (by simp [centry, hvk, hvv])
    obtain ⟨h1, h2⟩ := hr'.setBlk hget (by simp [Live]) hbk (map_rel (n := b.clock) hbk hnew hheap)
    have hbits : Instr.sameBits 10000 (a.eval y) (a.eval y) = true := bitsOk_same 9 10000 (by omega) vk _ hs.2 hvk
    have hstay : (Instr.keyThatStays (a.eval y) (a.eval y)).run P w = .ok (a.eval y) w := by simp [Instr.keyThatStays, hbits]
    have hmod : us.modify n (fun x => { x with key := a.eval y, val := a.eval z }) = us.set n ⟨a.eval y, a.eval z, e.born⟩ := by
      apply List.ext_getElem?
      intro j
      rw [List.getElem?_modify, List.getElem?_set]
      obtain ⟨hlt, hun⟩ := List.getElem?_eq_some_iff.1 huen
      by_cases hj : n = j
      · subst hj; simp [hlt, hun]
      · simp [hj]
    refine .skip (w' := _) ?_ ⟨_, _, E, ?_, (Step.more hmore).trans h2, h1, h⟩
    · rw [ho, hum]
      simp [Instr.mapUpdate, run_underlying ht, hobj, hck, hfk, huen, hstay, run_setMap hheap, hmod]
    · simp [undefA, cv, undef, cvs]
theorem ef_delete (hres : Res ρ E ds ls fr a) (hr : HRel ρ E s w) {t ty : TypeId} {tl : List TypeId} {x y : Operand} (h : (evOp P (trDelete P ds t x y) call ls fr s k).run ρ = some r) :
    Eff P ρ E s w (Builtin.delete_ ⟨t :: tl⟩ ty #[a.eval x, a.eval y]) k r := by
  unfold trDelete at h
  split at h
  case h_2 => cases h
  rename_i kt et hu
  have ht := undA_eq hu
  obtain ⟨vm, vk, hvm, hvk, h⟩ := run_on2 hres h
  obtain ⟨hf, h⟩ := run_guardB h
  have hck : ∀ (e : Bool) , (Instr.checkKey e 10000 kt (a.eval y)).run P w = .ok () w := fun e => run_checkKey 10 10000 (by omega) kt vk (a.eval y) e hf hvk
  obtain ⟨d, hd⟩ := keyFits_und hf
  rcases run_ifB h with ⟨hn, h⟩ | ⟨_, h⟩
  · rw [isNil3 hn] at hvm
    simp only [cv_nilm, Option.some.injEq] at hvm
    rw [← hvm]
    exact .mk hr (u := .tuple #[]) (by simp [Builtin.delete_, run_underlying ht, hck]) (by simp [cv, cvs]) h
  obtain ⟨p, hp, h⟩ := run_onSome h
  obtain ⟨b, hb, h⟩ := run_onSome h
  rw [asMap_eq hp] at hvm
  obtain ⟨c, oo, hbk, hum⟩ := cv_map hvm
  obtain ⟨c', o', us, hb', hus, hheap⟩ := hr.blks p _ (St.mapAt_eq hb)
  rw [hbk] at hb'; cases hb'
  obtain ⟨res, ures, s', hmore, hfr, h, hres'⟩ := findE_ok (P := P) hvk b.es us 0 h hr hus
  have hfk := hfr.findKey hd
  have hobj : (getObj c).run P w = .ok (.map us.toArray b.clock) w := by simp [getObj, Sem.run, hheap]
  have hr' := hr.more hmore
  have hget : s'.heap.get p = some (.map b.es b.clock) := by rw [hmore.heap]; exact St.mapAt_eq hb
  rw [hum]
  rcases hres' with ⟨rfl, rfl⟩ | ⟨n, e, ue, rfl, rfl, hen, huen, hce⟩
  · simp only [Option.map_none] at hfk
    have hsame : Ab.setBlk w c (.map us.toArray b.clock) = w := by
      have hlt := (Array.getElem?_eq_some_iff.1 hheap)
      obtain ⟨hl, he⟩ := hlt
      have : w.heap.set! c (.map us.toArray b.clock) = w.heap := by
        apply Array.ext_getElem?
        intro j
        rw [Array.set!_eq_setIfInBounds, Array.getElem?_setIfInBounds]
        by_cases hj : c = j
        · subst hj; simp [hl, hheap, he]
        · simp [hj]
      unfold Ab.setBlk
      rw [this]
    refine ⟨.tuple #[], w, .tup [], s', E, ?_, by simp [cv, cvs], .more hmore, hr', h⟩
    simp [Builtin.delete_, run_underlying ht, hobj, hck, hfk, run_setMap hheap, hsame]
  · simp only [Option.map_some, Nat.zero_add] at hfk h
    have hnew := centries_del n hus
    obtain ⟨h1, h2⟩ := hr'.setBlk hget (by simp [Live]) hbk (map_rel (n := b.clock) hbk hnew hheap)
    refine ⟨.tuple #[], _, .tup [], _, E, ?_, by simp [cv, cvs], (Step.more hmore).trans h2, h1, h⟩
    have : us.toArray.eraseIdxIfInBounds n = (us.eraseIdx n).toArray := by simp
    simp [Builtin.delete_, run_underlying ht, hobj, hck, hfk, run_setMap hheap, this]
end Go.Ab
end
