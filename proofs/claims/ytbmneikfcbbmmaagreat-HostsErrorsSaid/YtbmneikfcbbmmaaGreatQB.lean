/- The executor's operations agree with the model's: quiet operations, new memory, stores, append, maps. -/
import Derived.Test.YtbmneikfcbbmmaaGreatQA
import Derived.Laws.BytesString
import Derived.Laws.Build
import Derived.CallsIn
import Derived.RangeFuncLeaves
import Derived.OrdersIn
import Derived.Deep.AppendSrc
set_option linter.unusedVariables false
set_option linter.unusedSimpArgs false
set_option linter.unusedSectionVars false
section
namespace Go.Ab
variable {β : Type} {P : Program} {ρ : Val} {E : Mem} {s : St} {w : World} {r : β} {k : Kv β}

/-! ### one operand -/
theorem q_un {o : UnOp} {x : AV} {ux : Value} (ha : AsmOk ρ s.asm) (h : (doUn o x s k).run ρ = some r) (hx : cv ρ E x = some ux) : Qr P ρ E s w (Op.unary o ux) k r := by
  cases o <;> simp only [doUn] at h <;> try (cases h; done)
  case neg =>
    rcases run_onSomeOr h with ⟨a, ha', h⟩ | ⟨_, h⟩
    · obtain ⟨z, hz, h⟩ := run_onSome h
      rw [asInt_eq ha'] at hx
      simp at hx; subst hx
      simp only [subF, Option.some.injEq, wrapF_eq] at hz
      refine .mk ha cv_int ?_ (run_kInt h)
      rw [← hz, show Int.sub 0 a.n = 0 - a.n from rfl]
      simp [Op.unary, Op.intArith]
    · obtain ⟨a, ha', h⟩ := run_onSome h
      rw [asIE_cv ha'] at hx; cases hx
      refine .mk ha cv_sint ?_ h
      simp only [IE.den, binDen, isShr, cond_false, arithF, subF, wrapF_eq, Option.getD_some]
      rw [show Int.sub 0 (IE.den ρ a.e) = 0 - IE.den ρ a.e from rfl]
      simp [Op.unary, Op.intArith]
  case xor =>
    obtain ⟨a, ha', h⟩ := run_onSome h
    obtain ⟨z, hz, h⟩ := run_onSome h
    rw [asInt_eq ha'] at hx
    simp at hx; subst hx
    simp only [xorF, Option.some.injEq, bits2_xor] at hz
    refine .mk ha cv_int ?_ (run_kInt h)
    rw [← hz]
    simp [Op.unary, Op.intBits, xorG]
  case not =>
    rcases run_onSomeOr h with ⟨a, ha', h⟩ | ⟨_, h⟩
    · rw [asB_eq ha'] at hx
      simp at hx; subst hx
      exact .mk ha cv_bool (by simp [Op.unary]) h
    · obtain ⟨a, ha', h⟩ := run_onSome h
      rw [asSB_eq ha'] at hx
      simp at hx; subst hx
      exact .mk ha cv_sbool (by simp [Op.unary, BE.den]) h
theorem kind_int {x : AV} {ux : Value} {a : VE} (h : x.asIE = some a) (hx : cv ρ E x = some ux) : ux = .int a.k (a.e.den ρ) := by
  rw [asIE_cv h] at hx; cases hx; rfl
theorem q_cvInt {j : IntKind} {x : AV} {ux : Value} (ha : AsmOk ρ s.asm) (h : (cvInt j x s k).run ρ = some r) (hx : cv ρ E x = some ux) {st dt : TypeId} {j' : IntKind}
    (hs : P.underlying st = some (.int j')) (hd : P.underlying dt = some (.int j)) : Qr P ρ E s w (convert st dt ux) k r := by
  rcases run_onSomeOr h with ⟨a, ha', h⟩ | ⟨_, h⟩
  · rw [asInt_eq ha'] at hx
    simp at hx; subst hx
    refine .mk ha cv_int ?_ (run_kInt h)
    rw [wrapF_eq]
    simp [convert, run_underlying hs, run_underlying hd, Conv.intToInt]
  · obtain ⟨a, ha', h⟩ := run_onSome h
    rw [asIE_cv ha'] at hx; cases hx
    refine .mk ha cv_sint ?_ h
    simp [convert, run_underlying hs, run_underlying hd, Conv.intToInt, IE.den]
theorem q_cvStr {x : AV} {ux : Value} (ha : AsmOk ρ s.asm) (h : (cvStr x s k).run ρ = some r) (hx : cv ρ E x = some ux) {st dt : TypeId}
    (hs : P.underlying st = some .string) (hd : P.underlying dt = some .string) : Qr P ρ E s w (convert st dt ux) k r := by
  rcases run_onSomeOr h with ⟨l, hl, h⟩ | ⟨_, h⟩
  · rw [asStr_eq hl] at hx
    simp at hx; subst hx
    exact .mk ha cv_str (by simp [convert, run_underlying hs, run_underlying hd]) h
  · obtain ⟨S, hS, h⟩ := run_onSome h
    rw [asSstr_eq hS] at hx
    simp only [cv, Option.some.injEq] at hx
    subst hx
    exact .mk ha (v := .sstr S) rfl (by simp [convert, run_underlying hs, run_underlying hd]) h
theorem q_cvR2s {x : AV} {ux : Value} (ha : AsmOk ρ s.asm) (h : (cvR2s x s k).run ρ = some r) (hx : cv ρ E x = some ux) {st dt : TypeId} {j' : IntKind}
    (hs : P.underlying st = some (.int j')) (hd : P.underlying dt = some .string) : Qr P ρ E s w (convert st dt ux) k r := by
  obtain ⟨n, hn, h⟩ := run_onSome h
  obtain ⟨hb, h⟩ := run_guardB h
  obtain ⟨j, hj⟩ := asNat_eq hn
  rw [hj] at hx
  simp at hx
  have hb' : n < 128 := by simpa using hb
  refine .mk ha cv_str ?_ h
  rw [← hx]
  have e : Utf8.encode (n : Int) = bytesOf [n] := by
    have hv : Utf8.valid (n : Int) = true := by unfold Utf8.valid; simp; omega
    unfold Utf8.encode
    simp [hv, hb', bytesOf]
  simp [convert, run_underlying hs, run_underlying hd, Conv.intToString, e]
theorem asByte_eq {v : AV} {b : Nat} (h : v.asByte = some b) : v = .int .u8 (.ofNat b) := by
  unfold AV.asByte at h
  obtain ⟨a, ha, h⟩ := Option.bind_eq_some_iff.1 h
  rw [asInt_eq ha]
  obtain ⟨j, n⟩ := a
  cases hk : kEq j .u8 with
  | false => rw [hk] at h; cases h
  | true =>
    rw [hk] at h
    rw [(kEq_iff _ _).1 hk]
    cases n with
    | ofNat m => simp [Int.asNat] at h; subst h; rfl
    | negSucc m => simp [Int.asNat] at h
theorem bytesL_eq : ∀ {l : List AV} {bs : List Nat}, bytesL l = some bs → l = bs.map fun b => .int .u8 (.ofNat b)
  | [], bs, h => by cases h; rfl
  | v :: l, bs, h => by
    have h' : (v.asByte.bind fun b => (bytesL l).map fun r => b :: r) = some bs := h
    obtain ⟨b, hb, h'⟩ := Option.bind_eq_some_iff.1 h'
    obtain ⟨t, ht, rfl⟩ := Option.map_eq_some_iff.1 h'
    rw [asByte_eq hb, bytesL_eq ht]; rfl
theorem cvs_bytes (bs : List Nat) : cvs ρ E (bs.map fun b => AV.int .u8 (.ofNat b)) = some ((bs.map Int.ofNat).map (Value.int .u8)) := by
  induction bs with
  | nil => simp [cvs]
  | cons b bs ih => simpa [cvs] using ih
theorem foldl_bytes : ∀ (bs : List Nat) (acc : List Nat), (bs.map Int.ofNat).foldl (fun r n => r.push (UInt8.ofNat n.toNat)) (bytesOf acc) = bytesOf (acc ++ bs)
  | [], acc => by simp
  | b :: bs, acc => by
    simp only [List.map_cons, List.foldl_cons]
    have e : (bytesOf acc).push (UInt8.ofNat (Int.ofNat b).toNat) = bytesOf (acc ++ [b]) := by
      apply ByteArray.ext
      simp [bytesOf, ByteArray.push]
    rw [e, foldl_bytes bs (acc ++ [b])]
    simp
theorem foldl_ints : ∀ (l : List Int) (acc : List Int), l.foldl (fun r n => r.push (UInt8.ofNat n.toNat)) (bytesI acc) = bytesI (acc ++ l)
  | [], acc => by simp
  | b :: bs, acc => by
    simp only [List.foldl_cons]
    have e : (bytesI acc).push (UInt8.ofNat b.toNat) = bytesI (acc ++ [b]) := by
      apply ByteArray.ext
      simp [bytesI, ByteArray.push]
    rw [e, foldl_ints bs (acc ++ [b])]
    simp
theorem St.loadN_eq {p : Pos} {off n : Nat} {cs : List AV} (h : s.loadN p off n = some cs) : ∃ row, s.row p = some row ∧ (off + n ≤ row.length ∨ n = 0) ∧ cs = (row.drop off).take n := by
  unfold St.loadN at h
  obtain ⟨row, hr, h⟩ := Option.bind_eq_some_iff.1 h
  obtain ⟨h1, h2⟩ := takeL_eq _ _ _ h
  rw [dropL_eq] at h1 h2
  simp at h1
  refine ⟨row, hr, ?_, h2⟩
  omega
/-- the cells of a range are read -/
theorem HRel.loadCells (hr : HRel ρ E s w) {p : Pos} {off n : Nat} {cs : List AV} (h : s.loadN p off n = some cs) :
    ∃ c o us, E.blk p = some (c, o) ∧ cvs ρ E cs = some us ∧ (Go.loadCells ⟨c, o + off, none⟩ n).run P w = .ok us.toArray w := by
  obtain ⟨row, hrow, hle, rfl⟩ := St.loadN_eq h
  obtain ⟨c, o, us, h1, h2, h3, h4, _⟩ := hr.load hrow
  have hlen := cvs_length h2
  refine ⟨c, o, (us.drop off).take n, h1, cvs_take n (cvs_drop off h2), ?_⟩
  rcases hle with hle | hle
  · have := run_loadCells_list (P := P) w ⟨c, o + off, none⟩ ((us.drop off).take n) (fun j v hv => by rw [add_addr]; exact h3 off n (by omega) j v hv)
    rw [show ((us.drop off).take n).length = n from by simp; omega] at this
    exact this
  · subst hle; simp [Go.loadCells, loadCellsFrom]
theorem q_cvB2s {x : AV} {ux : Value} (hr : HRel ρ E s w) (h : (cvB2s x s k).run ρ = some r) (hx : cv ρ E x = some ux) {st dt e : TypeId}
    (hs : P.underlying st = some (.slice e)) (he : P.underlying e = some (.int .u8)) (hd : P.underlying dt = some .string) : Qr P ρ E s w (convert st dt ux) k r := by
  rcases run_ifB h with ⟨hn, h⟩ | ⟨_, h⟩
  · rw [isNil2 hn] at hx
    simp at hx; subst hx
    refine .mk hr.asm cv_str ?_ h
    rw [run_convert_bytes_string w st dt e none 0 0 hs he hd]
    simp [Conv.bytesToString, bytesOf]; rfl
  · rcases run_onSomeOr h with ⟨a, ha, h⟩ | ⟨_, h⟩
    case inr =>
      obtain ⟨a, ha, h⟩ := run_onSome h
      obtain ⟨b, hb, h⟩ := run_onSome h
      obtain ⟨hg, h⟩ := run_guardB h
      rw [Bool.and_eq_true] at hg
      obtain ⟨hg1, hg2⟩ := hg
      have hk := (kEq_iff _ _).1 hg1
      have hle := leqK_ok hr.asm hg2
      simp only [IE.den] at hle
      rw [asSslc_eq ha] at hx
      obtain ⟨c, o, hbk, c1, c2, c3, rfl⟩ := cv_sslc hx
      obtain ⟨c', o', pre, rest, tt, fz, h1, h2, h3⟩ := hr.seqAt hb
      rw [hbk] at h1; cases h1
      subst h3
      refine .mk hr.asm (v := .sstr (subE b.s a.lo a.hi)) (u := .string (bytesI (((b.s.sden ρ).take (a.hi.den ρ).toNat).drop (a.lo.den ρ).toNat))) (by simp only [cv, subE_den]) ?_ h
      obtain ⟨L, hL⟩ : ∃ L, L = ((b.s.sden ρ).take (a.hi.den ρ).toNat).drop (a.lo.den ρ).toNat := ⟨_, rfl⟩
      have hlen : (a.hi.den ρ - a.lo.den ρ).toNat = L.length := by rw [hL]; simp; omega
      have hl : (Go.loadCells ⟨c, pre.length + (a.lo.den ρ).toNat, none⟩ (a.hi.den ρ - a.lo.den ρ).toNat).run P w = .ok (L.map (Value.int .u8)).toArray w := by
        have hrg := rangeAt_row h2 (a.lo.den ρ).toNat (a.hi.den ρ - a.lo.den ρ).toNat (by rw [List.length_map]; omega)
        have e : (((b.s.sden ρ).map (Value.int b.k)).drop (a.lo.den ρ).toNat).take (a.hi.den ρ - a.lo.den ρ).toNat = L.map (Value.int .u8) := by
          rw [hL, hk, List.drop_take, List.map_take, List.map_drop]
          congr 1; omega
        rw [e] at hrg
        have := run_loadCells_list (P := P) w ⟨c, pre.length + (a.lo.den ρ).toNat, none⟩ (L.map (Value.int .u8)) (fun j v hv => by rw [add_addr]; exact hrg j v hv)
        rw [List.length_map, ← hlen] at this
        exact this
      rw [run_convert_bytes_string w st dt e _ _ _ hs he hd, run_bytesToString w _ _ _ L hl, ← hL]
      congr 2
      have := foldl_ints L []
      simp only [List.nil_append] at this
      rw [← this]; rfl
    case inl =>
    obtain ⟨cs, hcs, h⟩ := run_onSome h
    obtain ⟨bs, hbs, h⟩ := run_onSome h
    rw [asSlc_eq ha] at hx
    obtain ⟨c, o, cp, hb, _, rfl⟩ := cv_slc hx
    obtain ⟨c', o', us, hb', hus, hl⟩ := hr.loadCells (P := P) hcs
    rw [hb] at hb'; cases hb'
    rw [bytesL_eq hbs, cvs_bytes] at hus
    cases hus
    refine .mk hr.asm cv_str ?_ h
    rw [run_convert_bytes_string w st dt e _ _ _ hs he hd, run_bytesToString w _ a.len cp (bs.map Int.ofNat) hl]
    have := foldl_bytes bs []
    simp only [List.nil_append] at this
    rw [← this]; rfl

/-! ### slices of slices -/
theorem run_onOptNat {v : Option AV} {d : Nat} {f : Nat → Tree β} (h : (onOptNat v d f).run ρ = some r) {uv : Option Value} (hv : ∀ x, v = some x → ∃ u, uv = some u ∧ cv ρ E x = some u) (hn : v = none → uv = none) :
    (uv = none ∧ v = none ∧ (f d).run ρ = some r) ∨ (∃ n j, uv = some (.int j (Int.ofNat n)) ∧ v.isSome ∧ (f n).run ρ = some r) := by
  cases v with
  | none => exact .inl ⟨hn rfl, rfl, h⟩
  | some x =>
    obtain ⟨n, hx, h⟩ := run_onSome h
    obtain ⟨j, hj⟩ := asNat_eq hx
    obtain ⟨u, hu, hc⟩ := hv x rfl
    rw [hj] at hc
    simp at hc
    exact .inr ⟨n, j, by rw [hu, ← hc]; rfl, rfl, h⟩
/-- how optional operands read -/
def OptR (ρ : Val) (E : Mem) (v : Option AV) (uv : Option Value) : Prop := (v = none ∧ uv = none) ∨ ∃ x u, v = some x ∧ uv = some u ∧ cv ρ E x = some u
theorem run_sliceBound (j : IntKind) (n m : Nat) (hm : n ≤ m) (code : BoundsCode) : (Instr.sliceBound (.int j (Int.ofNat n)) m code).run P w = .ok n w := by
  have h : (0 : Int) ≤ Int.ofNat n ∧ Int.ofNat n ≤ (m : Int) := ⟨Int.natCast_nonneg n, by simp; omega⟩
  simp [Instr.sliceBound, asIntOf, h]; omega
theorem run_bounds {len c : Nat} {lo hi mx : Option AV} {f : Nat → Nat → Nat → Tree β} (h : (bounds len c lo hi mx f).run ρ = some r) {ulo uhi umx : Option Value}
    (h1 : OptR ρ E lo ulo) (h2 : OptR ρ E hi uhi) (h3 : OptR ρ E mx umx) :
    ∃ l hh m, l ≤ hh ∧ hh ≤ m ∧ m ≤ c ∧ (f l hh m).run ρ = some r ∧ (mx = none → m = c) ∧ (hi = none → hh = len) ∧ (mx.isSome = true → hi.isSome = true) ∧ (lo = none → l = 0) ∧
      ∀ (b : Bool) (w : World) (c' : Nat), c ≤ c' → (Instr.sliceBounds b len c' ulo uhi umx).run P w = .ok (l, hh, if mx = none then c' else m) w := by
  have cvt : ∀ {v : Option AV} {uv : Option Value}, OptR ρ E v uv → (∀ x, v = some x → ∃ u, uv = some u ∧ cv ρ E x = some u) ∧ (v = none → uv = none) := by
    intro v uv hv
    rcases hv with ⟨rfl, rfl⟩ | ⟨x, u, rfl, rfl, hc⟩
    · exact ⟨fun x hx => (by cases hx), fun _ => rfl⟩
    · exact ⟨fun y hy => (by cases hy; exact ⟨u, rfl, hc⟩), fun hn => (by cases hn)⟩
  have m3 := run_onOptNat (E := E) h (cvt h3).1 (cvt h3).2
  have fin : ∀ (m : Nat), (onOptNat hi len fun hh => onOptNat lo 0 fun l => guardB (Nat.ble l hh && Nat.ble hh m && Nat.ble m c && (hi.isSome || mx.isNone)) 85 (f l hh m)).run ρ = some r →
      ∃ l hh, l ≤ hh ∧ hh ≤ m ∧ m ≤ c ∧ (f l hh m).run ρ = some r ∧ (hi.isSome || mx.isNone) = true ∧ (hi = none → hh = len) ∧ (lo = none → l = 0) ∧
        ((uhi = none ∧ hi = none) ∨ ∃ j, uhi = some (.int j (Int.ofNat hh))) ∧ ((ulo = none ∧ lo = none) ∨ ∃ j, ulo = some (.int j (Int.ofNat l))) := by
    intro m hm
    rcases run_onOptNat (E := E) hm (cvt h2).1 (cvt h2).2 with ⟨e2, e2', hm⟩ | ⟨hh, j2, e2, e2', hm⟩ <;>
    rcases run_onOptNat (E := E) hm (cvt h1).1 (cvt h1).2 with ⟨e1, e1', hm⟩ | ⟨l, j1, e1, e1', hm⟩ <;>
    · obtain ⟨hg, hm⟩ := run_guardB hm
      simp only [Bool.and_eq_true, Nat.ble_eq] at hg
      obtain ⟨⟨⟨g1, g2⟩, g3⟩, g4⟩ := hg
      refine ⟨_, _, g1, g2, g3, hm, g4, ?_, ?_, ?_, ?_⟩
      · intro hn; first | rfl | (rw [hn] at e2'; cases e2')
      · intro hn; first | rfl | (rw [hn] at e1'; cases e1')
      · first | exact .inl ⟨e2, e2'⟩ | exact .inr ⟨j2, e2⟩
      · first | exact .inl ⟨e1, e1'⟩ | exact .inr ⟨j1, e1⟩
  rcases m3 with ⟨e3, e3', h⟩ | ⟨m, j3, e3, e3', h⟩
  · obtain ⟨l, hh, g1, g2, g3, g4, g5, g6, g7, hu2, hu1⟩ := fin c h
    refine ⟨l, hh, c, g1, g2, g3, g4, fun _ => rfl, g6, fun hs => (by rw [e3'] at hs; cases hs), g7, fun b w c' hc' => ?_⟩
    subst e3'
    simp only [Instr.sliceBounds, e3, if_true]
    rcases hu2 with ⟨e2, e2'⟩ | ⟨j2, e2⟩
    · have := g6 e2'
      rcases hu1 with ⟨e1, e1'⟩ | ⟨j1, e1⟩
      · have := g7 e1'; subst this
        simp [e1, e2, this]
      · rw [← this]
        simp only [e1, e2, Sem.run_bind, Sem.run_pure, Result.andThen_ok, run_sliceBound j1 l hh g1]
    · rcases hu1 with ⟨e1, e1'⟩ | ⟨j1, e1⟩
      · have := g7 e1'; subst this
        simp only [e1, e2, Sem.run_bind, Sem.run_pure, Result.andThen_ok, run_sliceBound j2 hh c' (by omega)]
      · simp only [e1, e2, Sem.run_bind, Sem.run_pure, Result.andThen_ok, run_sliceBound j2 hh c' (by omega), run_sliceBound j1 l hh g1]
  · obtain ⟨l, hh, g1, g2, g3, g4, g5, g6, g7, hu2, hu1⟩ := fin m h
    have hmx : mx ≠ none := fun e => by rw [e] at e3'; cases e3'
    have hnone : mx.isNone = false := by cases mx <;> simp_all
    rw [hnone, Bool.or_false] at g5
    refine ⟨l, hh, m, g1, g2, g3, g4, fun e => absurd e hmx, g6, fun _ => g5, g7, fun b w c' hc' => ?_⟩
    rw [if_neg hmx]
    simp only [Instr.sliceBounds, e3]
    rcases hu2 with ⟨e2, e2'⟩ | ⟨j2, e2⟩
    · rw [e2'] at g5; cases g5
    · rcases hu1 with ⟨e1, e1'⟩ | ⟨j1, e1⟩
      · have := g7 e1'; subst this
        simp only [e1, e2, Sem.run_bind, Sem.run_pure, Result.andThen_ok, run_sliceBound j3 m c' (by omega), run_sliceBound j2 hh m g2]
      · simp only [e1, e2, Sem.run_bind, Sem.run_pure, Result.andThen_ok, run_sliceBound j3 m c' (by omega), run_sliceBound j2 hh m g2, run_sliceBound j1 l hh g1]
end Go.Ab
end

section
namespace Go.Ab
variable {β : Type} {P : Program} {ρ : Val} {E : Mem} {s : St} {w : World} {r : β} {k : Kv β}

/-! ### slice expressions -/
theorem takeN_eq : ∀ (n : Nat) (l : List Nat), takeN n l = l.take n
  | 0, l => rfl
  | n + 1, [] => rfl
  | n + 1, a :: l => by show a :: takeN n l = _; rw [takeN_eq n l]; rfl
theorem dropN_eq : ∀ (n : Nat) (l : List Nat), dropN n l = l.drop n
  | 0, l => rfl
  | n + 1, [] => rfl
  | n + 1, a :: l => by show dropN n l = _; rw [dropN_eq n l]; rfl
theorem extract_bytesOf (b : List Nat) (l h : Nat) : (bytesOf b).extract l h = bytesOf ((b.drop l).take (h - l)) := by
  apply ByteArray.ext
  apply Array.ext'
  simp [bytesOf, List.take_drop, List.extract_eq_take_drop]
theorem atOff_eq (o l m sz : Nat) : atOff o l m sz = if m = l then o else o + l * sz := by
  unfold atOff
  by_cases h : m = l
  · subst h; simp
  · rw [if_neg h, show Nat.beq m l = false from by rw [Bool.eq_false_iff]; intro e; exact h (Nat.eq_of_beq_eq_true e)]; rfl
/-- what a slice expression of the kind asks of its type -/
def SlOk (P : Program) (t : TypeId) : SlK → Prop
  | .str => P.underlying t = some .string
  | .arr n sz => ∃ e i, P.info? e = some i ∧ i.size = sz ∧ (P.underlying t = some (.array n e) ∨ ∃ a, P.underlying t = some (.pointer a) ∧ P.underlying a = some (.array n e))
  | .slc sz => ∃ e i, P.underlying t = some (.slice e) ∧ P.info? e = some i ∧ i.size = sz
theorem base_eq (c o off l m sz : Nat) : (if m = l then some (⟨c, o + off, none⟩ : Addr) else some (⟨c, o + (off + l * sz), none⟩)) = some ⟨c, o + atOff off l m sz, none⟩ := by
  rw [atOff_eq]; split <;> rfl
/-! symbolic bounds -/
theorem sliceBounds_run (b : Bool) {len c l hh m : Nat} (hl : l ≤ hh) (hm : hh ≤ m) (hc : m ≤ c) {ulo uhi umx : Option Value} (h1 : (ulo = none ∧ l = 0) ∨ ∃ j, ulo = some (.int j (Int.ofNat l))) (h2 : (uhi = none ∧ hh = len) ∨ ∃ j, uhi = some (.int j (Int.ofNat hh)))
    (h3 : (umx = none ∧ m = c) ∨ ((∃ j, umx = some (.int j (Int.ofNat m))) ∧ ∃ j, uhi = some (.int j (Int.ofNat hh)))) (w : World) : (Instr.sliceBounds b len c ulo uhi umx).run P w = .ok (l, hh, m) w := by
  rcases h3 with ⟨rfl, rfl⟩ | ⟨⟨j3, rfl⟩, j2, rfl⟩
  · rcases h2 with ⟨rfl, rfl⟩ | ⟨j2, rfl⟩
    · rcases h1 with ⟨rfl, rfl⟩ | ⟨j1, rfl⟩
      · simp [Instr.sliceBounds]
      · simp only [Instr.sliceBounds, Sem.run_bind, Sem.run_pure, Result.andThen_ok, run_sliceBound j1 l hh hl]
    · rcases h1 with ⟨rfl, rfl⟩ | ⟨j1, rfl⟩
      · simp only [Instr.sliceBounds, Sem.run_bind, Sem.run_pure, Result.andThen_ok, run_sliceBound j2 hh m hm]
      · simp only [Instr.sliceBounds, Sem.run_bind, Sem.run_pure, Result.andThen_ok, run_sliceBound j2 hh m hm, run_sliceBound j1 l hh hl]
  · rcases h1 with ⟨rfl, rfl⟩ | ⟨j1, rfl⟩
    · simp only [Instr.sliceBounds, Sem.run_bind, Sem.run_pure, Result.andThen_ok, run_sliceBound j3 m c hc, run_sliceBound j2 hh m hm]
    · simp only [Instr.sliceBounds, Sem.run_bind, Sem.run_pure, Result.andThen_ok, run_sliceBound j3 m c hc, run_sliceBound j2 hh m hm, run_sliceBound j1 l hh hl]
theorem optIE_ok {o : Option AV} {d e : IE} {u : Option Value} (h : optIE o d = some e) (ho : OptR ρ E o u) : (u = none ∧ o = none ∧ e = d) ∨ ∃ j, u = some (.int j (e.den ρ)) ∧ o.isSome = true := by
  rcases ho with ⟨rfl, rfl⟩ | ⟨x, u, rfl, rfl, hc⟩
  · cases h; exact .inl ⟨rfl, rfl, rfl⟩
  · simp only [optIE, Option.map_eq_some_iff] at h
    obtain ⟨v, hv, rfl⟩ := h
    rw [asIE_cv hv] at hc
    cases hc
    exact .inr ⟨_, rfl, rfl⟩
theorem ofNat_toNat {z : Int} (h : 0 ≤ z) : z = Int.ofNat z.toNat := by
  have : Int.ofNat z.toNat = (z.toNat : Int) := rfl
  rw [this]; omega
theorem extract_bytesI (b : List Int) (l h : Nat) : (bytesI b).extract l h = bytesI ((b.take h).drop l) := by
  apply ByteArray.ext
  apply Array.ext'
  simp [bytesI, List.extract_eq_take_drop, List.drop_take]
theorem q_slSym {S n : IE} {lo hi mx : Option AV} {ulo uhi umx : Option Value} (ha : AsmOk ρ s.asm) (h : (slSym S n lo hi mx s k).run ρ = some r) (hn : n.den ρ = (S.sden ρ).length)
    (h1 : OptR ρ E lo ulo) (h2 : OptR ρ E hi uhi) (h3 : OptR ρ E mx umx) {t : TypeId} (ht : P.underlying t = some .string) : Qr P ρ E s w (Instr.sliceAt t (.string (bytesI (S.sden ρ))) ulo uhi umx) k r := by
  obtain ⟨el, hel, h⟩ := run_onSome h
  obtain ⟨eh, heh, h⟩ := run_onSome h
  obtain ⟨hg, h⟩ := run_guardB h
  simp only [Bool.and_eq_true] at hg
  obtain ⟨⟨⟨g0, g1⟩, g2⟩, g3⟩ := hg
  have hu : umx = none := by
    rcases h3 with ⟨_, e⟩ | ⟨x, u, e, _⟩
    · exact e
    · rw [e] at g0; cases g0
  subst hu
  have i1 := leqK_ok ha g1
  have i2 := leqK_ok ha g2
  have i3 := leqK_ok ha g3
  simp only [IE.den] at i1
  rw [hn] at i3
  have hb := sliceBounds_run (P := P) false (len := (bytesI (S.sden ρ)).size) (c := (bytesI (S.sden ρ)).size) (l := (el.den ρ).toNat) (hh := (eh.den ρ).toNat) (m := (bytesI (S.sden ρ)).size) (by omega) (by rw [size_bytesI]; omega) (Nat.le_refl _)
    (ulo := ulo) (uhi := uhi) (umx := none) (by
      rcases optIE_ok hel h1 with ⟨e1, _, e2⟩ | ⟨j, e1, _⟩
      · exact .inl ⟨e1, by rw [e2]; rfl⟩
      · exact .inr ⟨j, by rw [e1, ← ofNat_toNat i1]⟩) (by
      rcases optIE_ok heh h2 with ⟨e1, _, e2⟩ | ⟨j, e1, _⟩
      · exact .inl ⟨e1, by rw [e2, hn, size_bytesI]; omega⟩
      · exact .inr ⟨j, by rw [e1, ← ofNat_toNat (by omega)]⟩) (.inl ⟨rfl, rfl⟩) w
  refine .mk ha (v := .sstr (.sub S el eh)) (u := .string (bytesI (((S.sden ρ).take (eh.den ρ).toNat).drop (el.den ρ).toNat))) (by simp only [cv, IE.sden]) ?_ h
  simp only [Instr.sliceAt, Sem.run_bind, run_underlying ht, Result.andThen_ok, Instr.slice, Option.isSome_none, Bool.false_eq_true, if_false, hb, Sem.run_pure, extract_bytesI]
theorem q_slice {sk : SlK} {x : AV} {ux : Value} {lo hi mx : Option AV} {ulo uhi umx : Option Value} (ha : AsmOk ρ s.asm) (h : (doSlice sk x lo hi mx s k).run ρ = some r) (hx : cv ρ E x = some ux)
    (h1 : OptR ρ E lo ulo) (h2 : OptR ρ E hi uhi) (h3 : OptR ρ E mx umx) {t : TypeId} (ht : SlOk P t sk) : Qr P ρ E s w (Instr.sliceAt t ux ulo uhi umx) k r := by
  cases sk with
  | str =>
    rcases run_onSomeOr h with ⟨b, hb, h⟩ | ⟨_, h⟩
    case inr =>
      obtain ⟨S, hS, h⟩ := run_onSome h
      rw [asSstr_eq hS] at hx
      simp only [cv, Option.some.injEq] at hx
      subst hx
      exact q_slSym ha h (by simp [IE.den]) h1 h2 h3 ht
    case inl =>
    rcases run_ifB h with ⟨_, h⟩ | ⟨_, h⟩
    case inr =>
      rw [asStr_eq hb] at hx
      simp only [cv, Option.some.injEq] at hx
      subst hx
      have := q_slSym (w := w) (P := P) ha h (by simp [IE.den, IE.sden]) h1 h2 h3 ht
      simpa [IE.sden, bytesI_lit] using this
    case inl =>
    obtain ⟨hmx, h⟩ := run_guardB h
    rw [asStr_eq hb] at hx
    simp at hx; subst hx
    have hmx' : mx = none := by cases mx <;> simp_all
    obtain ⟨l, hh, m, g1, g2, g3, g4, g5, g6, g7, g8, g9⟩ := run_bounds (P := P) (E := E) h h1 h2 (umx := none) (.inl ⟨rfl, rfl⟩)
    have hu : umx = none := by rcases h3 with ⟨_, e⟩ | ⟨x, u, e, _⟩ <;> simp_all
    subst hu
    have hm := g5 rfl
    subst hm
    refine .mk ha cv_str ?_ g4
    have hrun := g9 false w b.length (Nat.le_refl _)
    simp only [if_true] at hrun
    rw [takeN_eq, dropN_eq]
    simp only [Instr.sliceAt, Sem.run_bind, run_underlying (show P.underlying t = some .string from ht), Result.andThen_ok, Instr.slice, Option.isSome_none, Bool.false_eq_true, if_false, size_bytesOf, hrun, Sem.run_pure, extract_bytesOf, pure_bind]
  | arr n sz =>
    obtain ⟨a, ha', h⟩ := run_onSome h
    rw [asPtr_eq ha'] at hx
    obtain ⟨c, o, hb, rfl⟩ := cv_ptr hx
    obtain ⟨l, hh, m, g1, g2, g3, g4, g5, g6, g7, g8, g9⟩ := run_bounds (P := P) (E := E) h h1 h2 h3
    obtain ⟨e, i, hi, hsz, ht⟩ := ht
    have hrun := g9 false w n (Nat.le_refl _)
    have hm : (if mx = none then n else m) = m := by split <;> simp_all
    rw [hm] at hrun
    refine .mk ha (cv_slc_mk hb rfl) ?_ g4
    rcases ht with ht | ⟨arr, ht, ht2⟩
    · simp only [Instr.sliceAt, Sem.run_bind, run_underlying ht, Result.andThen_ok, Instr.sureAddr, Sem.run_pure, hrun, sizeOf, typeInfo, run_program, hi, hsz, add_addr]
      rw [atOff_eq]
      split <;> simp [Nat.add_assoc]
    · simp only [Instr.sliceAt, Instr.slice, Sem.run_bind, run_underlying ht, run_underlying ht2, Result.andThen_ok, asAddr, Sem.run_pure, hrun, sizeOf, typeInfo, run_program, hi, hsz, add_addr]
      rw [atOff_eq]
      split <;> simp [Nat.add_assoc]
  | slc sz =>
    obtain ⟨e, i, ht, hin, hsz⟩ := ht
    rcases run_ifB h with ⟨hn, h⟩ | ⟨_, h⟩
    · rw [isNil2 hn] at hx
      simp at hx; subst hx
      obtain ⟨l, hh, m, g1, g2, g3, g4, g5, g6, g7, g8, g9⟩ := run_bounds (P := P) (E := E) h h1 h2 h3
      have hrun := g9 true w 0 (Nat.le_refl _)
      refine .mk ha cv_nils ?_ g4
      simp only [Instr.sliceAt, Instr.slice, Sem.run_bind, run_underlying ht, Result.andThen_ok, hrun, sizeOf, typeInfo, run_program, hin, Sem.run_pure, Option.map_none, ite_self]
      have : m = 0 := by omega
      have : l = 0 := by omega
      have : hh = 0 := by omega
      subst_vars
      simp
    · rcases run_onSomeOr h with ⟨a, ha', h⟩ | ⟨_, h⟩
      case inr =>
        obtain ⟨a, ha', h⟩ := run_onSome h
        obtain ⟨el, hel, h⟩ := run_onSome h
        obtain ⟨eh, heh, h⟩ := run_onSome h
        obtain ⟨hg, hk0⟩ := run_guardB h
        clear h
        simp only [Bool.and_eq_true] at hg
        obtain ⟨⟨⟨⟨⟨⟨g0, g1⟩, g2⟩, g3⟩, g4⟩, g5⟩, g6⟩ := hg
        have hsz1 : sz = 1 := by simpa using g0
        subst hsz1
        have i2 := leqK_ok ha g2
        have i3 := leqK_ok ha g3
        have i4 := leqK_ok ha g4
        simp only [IE.den] at i2
        rw [asSslc_eq ha'] at hx
        obtain ⟨c, o, hbk, c1, c2, c3, rfl⟩ := cv_sslc hx
        have hlo : a.lo.den ρ = 0 := by rw [sameE_eq g1]; rfl
        rw [hlo] at c1 c2 ⊢
        simp only [Int.toNat_zero, Nat.add_zero, Int.sub_zero, Nat.sub_zero]
        have fin : ∀ (m : Nat) (v : AV), (eh.den ρ).toNat ≤ m → m ≤ capE ρ E a.p a.cp → ((umx = none ∧ m = capE ρ E a.p a.cp) ∨ ((∃ j, umx = some (.int j (Int.ofNat m))) ∧ ∃ j, uhi = some (.int j (Int.ofNat (eh.den ρ).toNat)))) → (k v s).run ρ = some r →
            cv ρ E v = some (.slice (some ⟨c, o + (el.den ρ).toNat, none⟩) (eh.den ρ - el.den ρ).toNat (m - (el.den ρ).toNat)) →
            Qr P ρ E s w (Instr.sliceAt t (.slice (some ⟨c, o, none⟩) (a.hi.den ρ).toNat (capE ρ E a.p a.cp)) ulo uhi umx) k r := by
          intro m v hm1 hm2 hmx hk hv
          have hb := sliceBounds_run (P := P) true (len := (a.hi.den ρ).toNat) (c := capE ρ E a.p a.cp) (l := (el.den ρ).toNat) (hh := (eh.den ρ).toNat) (m := m) (by omega) hm1 hm2
            (ulo := ulo) (uhi := uhi) (umx := umx) (by
              rcases optIE_ok hel h1 with ⟨e1, _, e2⟩ | ⟨j, e1, _⟩
              · exact .inl ⟨e1, by rw [e2]; rfl⟩
              · exact .inr ⟨j, by rw [e1, ← ofNat_toNat i2]⟩) (by
              rcases optIE_ok heh h2 with ⟨e1, _, e2⟩ | ⟨j, e1, _⟩
              · exact .inl ⟨e1, by rw [e2]⟩
              · exact .inr ⟨j, by rw [e1, ← ofNat_toNat (by omega)]⟩) hmx w
          refine .mk ha hv ?_ hk
          have hbase : (if m = (el.den ρ).toNat then (some ⟨c, o, none⟩ : Option Addr) else some ⟨c, o + (el.den ρ).toNat, none⟩) = some ⟨c, o + (el.den ρ).toNat, none⟩ := by
            by_cases e : m = (el.den ρ).toNat
            · rw [if_pos e]
              rw [Bool.or_eq_true] at g5
              rcases g5 with g5 | g5
              · rw [sameE_eq g5]; simp [IE.den]
              · have := lssK_ok ha g5
                omega
            · rw [if_neg e]
          have hln : (eh.den ρ).toNat - (el.den ρ).toNat = (eh.den ρ - el.den ρ).toNat := by omega
          simp only [Instr.sliceAt, Instr.slice, Sem.run_bind, run_underlying ht, Result.andThen_ok, hb, sizeOf, typeInfo, run_program, hin, Sem.run_pure, Option.map_some, add_addr, hsz, Nat.mul_one, hbase, hln]
        cases mx with
        | none =>
          have hu : umx = none := by rcases h3 with ⟨_, e⟩ | ⟨x, u, e, _⟩ <;> simp_all
          obtain ⟨hg, hk1⟩ := run_guardB hk0
          refine fin (capE ρ E a.p a.cp) _ (by omega) (Nat.le_refl _) (.inl ⟨hu, rfl⟩) hk1 ?_
          exact cv_sslc_mk hbk i2 i3 (by omega)
        | some mv =>
          obtain ⟨e, he, hk1⟩ := run_onSome hk0
          obtain ⟨hg, hk2⟩ := run_guardB hk1
          have hee := sameE_eq hg
          rcases h3 with ⟨e3, _⟩ | ⟨x3, u3, e3, e4, hc3⟩
          · cases e3
          · cases e3
            rw [asIE_cv he] at hc3
            cases hc3
            have hhi : ∃ j, uhi = some (.int j (Int.ofNat (eh.den ρ).toNat)) := by
              rcases optIE_ok heh h2 with ⟨e1, e0, e2⟩ | ⟨j, e1, _⟩
              · rw [e0] at g6; cases g6
              · exact ⟨j, by rw [e1, ← ofNat_toNat (by omega)]⟩
            refine fin (eh.den ρ).toNat _ (Nat.le_refl _) (by omega) (.inr ⟨⟨e.k, by rw [e4, hee, ← ofNat_toNat (by omega)]⟩, hhi⟩) hk2 ?_
            have := cv_sslc_mk (E := E) (cp := some eh) hbk i2 i3 (by simp [capE])
            rw [this]
            simp only [capE]
      case inl =>
      rw [asSlc_eq ha'] at hx
      obtain ⟨c, o, cp, hb, hcp, rfl⟩ := cv_slc hx
      have fin : ∀ (l hh m' : Nat) (v : AV), (k v s).run ρ = some r → (Instr.sliceBounds true a.len cp ulo uhi umx).run P w = .ok (l, hh, m') w →
          cv ρ E v = some (.slice (if m' = l then some ⟨c, o + a.off, none⟩ else some ⟨c, o + (a.off + l * sz), none⟩) (hh - l) (m' - l)) →
          Qr P ρ E s w (Instr.sliceAt t (.slice (some ⟨c, o + a.off, none⟩) a.len cp) ulo uhi umx) k r := by
        intro l hh m' v hk hrun hv
        refine .mk ha hv ?_ hk
        simp only [Instr.sliceAt, Instr.slice, Sem.run_bind, run_underlying ht, Result.andThen_ok, hrun, sizeOf, typeInfo, run_program, hin, Sem.run_pure, Option.map_some, add_addr, hsz, Nat.add_assoc]
      obtain ⟨ap, aoff, alen, acap⟩ := a
      cases acap with
      | ex c0 =>
        simp only [capOf, Option.some.injEq] at hcp
        subst hcp
        have h' : (bounds alen c0 lo hi mx fun l h m => k (.slc ap (atOff aoff l m sz) (h - l) (.ex (m - l))) s).run ρ = some r := h
        obtain ⟨l, hh, m, g1, g2, g3, g4, g5, g6, g7, g8, g9⟩ := run_bounds (P := P) (E := E) h' h1 h2 h3
        have hrun := g9 true w c0 (Nat.le_refl _)
        have hm : (if mx = none then c0 else m) = m := by split <;> simp_all
        rw [hm] at hrun
        refine fin l hh m _ g4 hrun ?_
        rw [base_eq]
        exact cv_slc_mk hb rfl
      | op d =>
        simp only [capOf] at hcp
        by_cases hle : alen + d ≤ E.cap ap
        · rw [if_pos hle] at hcp
          simp only [Option.some.injEq] at hcp
          have hlc : alen ≤ cp := by omega
          have h' : (slOp sz ⟨ap, aoff, alen, .op d⟩ lo hi mx s k d).run ρ = some r := h
          rcases run_ifB h' with ⟨hs, h'⟩ | ⟨hs, h'⟩
          · obtain ⟨l, hh, m, g1, g2, g3, g4, g5, g6, g7, g8, g9⟩ := run_bounds (P := P) (E := E) h' h1 h2 h3
            have hrun := g9 true w cp hlc
            have hmx : mx ≠ none := fun e => by rw [e] at hs; cases hs
            rw [if_neg hmx] at hrun
            refine fin l hh m _ g4 hrun ?_
            rw [base_eq]
            exact cv_slc_mk hb rfl
          · have hmx : mx = none := by cases mx <;> simp_all
            have hu : umx = none := by rcases h3 with ⟨_, e⟩ | ⟨x, u, e, _⟩ <;> simp_all
            subst hu
            obtain ⟨l, hh, m, g1, g2, g3, g4, g5, g6, g7, g8, g9⟩ := run_bounds (P := P) (E := E) h' h1 h2 (umx := none) (.inl ⟨rfl, rfl⟩)
            have hm := g5 rfl
            have hrun := g9 true w cp hlc
            simp only [if_true] at hrun
            rcases run_ifB g4 with ⟨hl, g4⟩ | ⟨hl, g4⟩
            · have hl0 : l = 0 := by simpa using hl
              subst hl0
              refine fin 0 hh cp _ g4 hrun ?_
              simp only [Nat.zero_mul, Nat.add_zero, ite_self, Nat.sub_zero]
              refine cv_slc_mk hb ?_
              simp only [capOf]
              have hm' : m = alen := hm
              rw [if_pos (by omega), hcp]
            · obtain ⟨hlt, g4⟩ := run_guardB g4
              have hlt' : l < alen := by simpa using hlt
              refine fin l hh cp _ g4 hrun ?_
              rw [if_neg (by omega)]
              refine cv_slc_mk hb ?_
              have hm' : m = alen := hm
              simp only [capOf]
              rw [if_pos (by show hh - l + (d + l) ≤ _; omega)]
              congr 1
              show E.cap ap - (d + l) = cp - l
              omega
        · rw [if_neg hle] at hcp; cases hcp

/-! ### lengths -/
/-- what a length of the kind asks of its type -/
def LenOk (P : Program) (t : TypeId) : LenK → Prop
  | .str => P.underlying t = some .string
  | .num n => (∃ e, P.underlying t = some (.array n e)) ∨ ∃ a e, P.underlying t = some (.pointer a) ∧ P.underlying a = some (.array n e)
  | .slc => ∃ e, P.underlying t = some (.slice e)
  | .map => ∃ a b, P.underlying t = some (.map a b)
theorem St.mapAt_eq {p : Pos} {m : MapB} (h : s.mapAt p = some m) : s.heap.get p = some (.map m.es m.clock) := by
  unfold St.mapAt at h
  obtain ⟨b, hb, h⟩ := Option.bind_eq_some_iff.1 h
  cases b <;> simp [Blk.asMap] at h
  rw [hb, ← h]
theorem centries_length : ∀ {es : List Ent} {us : List MapEntry}, centries ρ E es = some us → us.length = es.length
  | [], _, h => by simp [centries] at h; subst h; rfl
  | e :: l, us, h => by
    simp only [centries, Option.bind_eq_some_iff, Option.map_eq_some_iff] at h
    obtain ⟨x, _, y, hy, rfl⟩ := h
    simp [centries_length hy]
theorem cv_map {p : Pos} {u : Value} (h : cv ρ E (.map p) = some u) : ∃ c o, E.blk p = some (c, o) ∧ u = .map (some c) := by
  simp only [cv, Option.map_eq_some_iff] at h
  obtain ⟨c, hc, rfl⟩ := h
  exact ⟨c.1, c.2, hc, rfl⟩
theorem run_kLen {n : Nat} (h : (kLen k s n).run ρ = some r) : (k (.int .i64 (.ofNat n)) s).run ρ = some r := run_kInt h
theorem q_len {lk : LenK} {x : AV} {ux : Value} (hr : HRel ρ E s w) (h : (doLen lk x s k).run ρ = some r) (hx : cv ρ E x = some ux) {t : TypeId} (ht : LenOk P t lk) (ty : TypeId) :
    Qr P ρ E s w (Builtin.len_ #[t] ty #[ux]) k r := by
  cases lk with
  | num n =>
    refine .mk hr.asm cv_int ?_ (run_kLen h)
    rcases ht with ⟨e, ht⟩ | ⟨a, e, ht, ht2⟩
    · simp [Builtin.len_, run_underlying ht, goInt]
    · simp [Builtin.len_, run_underlying ht, run_underlying ht2, goInt]
  | str =>
    rcases run_onSomeOr h with ⟨l, hl, h⟩ | ⟨_, h⟩
    · rw [asStr_eq hl] at hx
      simp at hx; subst hx
      refine .mk hr.asm cv_int ?_ (run_kLen h)
      simp [Builtin.len_, run_underlying (show P.underlying t = some .string from ht), goInt, size_bytesOf]
    · obtain ⟨S, hS, h⟩ := run_onSome h
      rw [asSstr_eq hS] at hx
      simp only [cv, Option.some.injEq] at hx
      subst hx
      refine .mk hr.asm (v := .sint .i64 (.len S)) rfl ?_ h
      simp [Builtin.len_, run_underlying (show P.underlying t = some .string from ht), goInt, size_bytesI, IE.den]
  | slc =>
    obtain ⟨e, ht⟩ := ht
    rcases run_ifB h with ⟨hn, h⟩ | ⟨_, h⟩
    · rw [isNil2 hn] at hx
      simp at hx; subst hx
      exact .mk hr.asm cv_int (by simp [Builtin.len_, run_underlying ht, goInt]) (run_kLen h)
    · rcases run_onSomeOr h with ⟨a, ha, h⟩ | ⟨_, h⟩
      · rw [asSlc_eq ha] at hx
        obtain ⟨c, o, cp, hb, hcp, rfl⟩ := cv_slc hx
        exact .mk hr.asm cv_int (by simp [Builtin.len_, run_underlying ht, goInt]) (run_kLen h)
      · rcases run_onSomeOr h with ⟨a, ha, h⟩ | ⟨_, h⟩
        case inl =>
          obtain ⟨hg, h⟩ := run_guardB h
          rw [asSslc_eq ha] at hx
          obtain ⟨c, o, hbk, c1, c2, c3, rfl⟩ := cv_sslc hx
          have hlo : a.lo.den ρ = 0 := by rw [sameE_eq hg]; rfl
          rw [hlo] at c2
          refine .mk hr.asm (mkS_cv _ a.hi) ?_ h
          have : ((a.hi.den ρ).toNat : Int) = a.hi.den ρ := by omega
          simp [Builtin.len_, run_underlying ht, goInt, hlo, this]
          try omega
        case inr =>
        obtain ⟨z, hz, h⟩ := run_onSome h
        rw [asOpq_eq hz] at hx
        simp only [cv] at hx
        split at hx
        · next hn =>
          cases hx
          refine .mk hr.asm (v := .sint .i64 (.v z)) rfl ?_ h
          have : ((ρ.iv z).toNat : Int) = ρ.iv z := by omega
          simp [Builtin.len_, run_underlying ht, goInt, IE.den, this]
        · cases hx
  | map =>
    obtain ⟨a, b, ht⟩ := ht
    rcases run_ifB h with ⟨hn, h⟩ | ⟨_, h⟩
    · rw [isNil3 hn] at hx
      simp at hx; subst hx
      exact .mk hr.asm cv_int (by simp [Builtin.len_, run_underlying ht, goInt]) (run_kLen h)
    · obtain ⟨p, hp, h⟩ := run_onSome h
      obtain ⟨m, hm, h⟩ := run_onSome h
      rw [asMap_eq hp] at hx
      obtain ⟨c, o, hb, rfl⟩ := cv_map hx
      obtain ⟨c', o', us, hb', hus, hheap⟩ := hr.blks p _ (St.mapAt_eq hm)
      rw [hb] at hb'; cases hb'
      refine .mk hr.asm cv_int ?_ (run_kLen h)
      simp [Builtin.len_, run_underlying ht, goInt, getObj, Sem.run, hheap, centries_length hus]
theorem q_cap {n : Option Nat} {x : AV} {ux : Value} (ha : AsmOk ρ s.asm) (h : (doCap n x s k).run ρ = some r) (hx : cv ρ E x = some ux) {t : TypeId}
    (ht : match n with | some n => LenOk P t (.num n) | none => LenOk P t .slc) (ty : TypeId) : Qr P ρ E s w (Builtin.cap_ #[t] ty #[ux]) k r := by
  rcases run_onSomeOr h with ⟨n, rfl, h⟩ | ⟨rfl, h⟩
  · refine .mk ha cv_int ?_ (run_kLen h)
    rcases ht with ⟨e, ht⟩ | ⟨a, e, ht, ht2⟩
    · simp [Builtin.cap_, run_underlying ht, goInt]
    · simp [Builtin.cap_, run_underlying ht, run_underlying ht2, goInt]
  · obtain ⟨e, ht⟩ := ht
    rcases run_ifB h with ⟨hn, h⟩ | ⟨_, h⟩
    · rw [isNil2 hn] at hx
      simp at hx; subst hx
      exact .mk ha cv_int (by simp [Builtin.cap_, run_underlying ht, goInt]) (run_kLen h)
    · rcases run_onSomeOr h with ⟨a, ha', h⟩ | ⟨_, h⟩
      case inr =>
        obtain ⟨a, ha', h⟩ := run_onSome h
        obtain ⟨cc, hc, h⟩ := run_onSome h
        obtain ⟨hg, h⟩ := run_guardB h
        rw [asSslc_eq ha'] at hx
        obtain ⟨c, o, hbk, c1, c2, c3, rfl⟩ := cv_sslc hx
        rw [Bool.and_eq_true] at hg
        have hlo : a.lo.den ρ = 0 := by rw [sameE_eq hg.1]; rfl
        have hpos := leqK_ok ha hg.2
        simp only [IE.den] at hpos
        refine .mk ha (mkS_cv _ cc) ?_ h
        have : ((cc.den ρ).toNat : Int) = cc.den ρ := by omega
        simp [Builtin.cap_, run_underlying ht, goInt, hlo, hc, capE, this]
        try omega
      case inl =>
      obtain ⟨cc, hc, h⟩ := run_onSome h
      rw [asSlc_eq ha'] at hx
      obtain ⟨c, o, cp, hb, hcp, rfl⟩ := cv_slc hx
      obtain ⟨ap, aoff, alen, acap⟩ := a
      cases acap with
      | op d => cases hc
      | ex c0 =>
        cases hc
        simp only [capOf, Option.some.injEq] at hcp
        subst hcp
        exact .mk ha cv_int (by simp [Builtin.cap_, run_underlying ht, goInt]) (run_kLen h)

/-! ### min, max -/
theorem q_mm2 {mx : Bool} {x y : AV} {ux uy : Value} (ha : AsmOk ρ s.asm) (h : (mm2 mx x y s k).run ρ = some r) (hx : cv ρ E x = some ux) (hy : cv ρ E y = some uy) :
    ∃ v u s', More ρ s s' ∧ cv ρ E v = some u ∧ (∀ w : World, ((if mx then Builtin.max2 else Builtin.min2) ux uy).run P w = .ok u w) ∧ (k v s').run ρ = some r := by
  rcases run_litOr h with ⟨a, b, rfl, rfl, h⟩ | h
  · simp at hx hy; subst hx hy
    rcases run_ifB h with ⟨hc, h⟩ | ⟨hc, h⟩
    · refine ⟨_, _, s, .refl ha, cv_int, fun w => ?_, h⟩
      cases mx with
      | true => simp only [cond_true, ilt_eq, decide_eq_true_eq] at hc; simp [Builtin.max2, hc]
      | false => simp only [cond_false, ilt_eq, decide_eq_true_eq] at hc; simp [Builtin.min2, hc]
    · refine ⟨_, _, s, .refl ha, cv_int, fun w => ?_, h⟩
      cases mx with
      | true => simp only [cond_true, ilt_eq, decide_eq_false_iff_not] at hc; simp [Builtin.max2, hc]
      | false => simp only [cond_false, ilt_eq, decide_eq_false_iff_not] at hc; simp [Builtin.min2, hc]
  · obtain ⟨a, b, ha', hb', h⟩ := run_two h
    obtain ⟨hk, h⟩ := run_guardB h
    have hk := (kEq_iff _ _).1 hk
    obtain ⟨s', hm, h⟩ := run_brOn ha h
    have hx0 := hx; have hy0 := hy
    rw [asIE_cv ha'] at hx; rw [asIE_cv hb'] at hy
    cases hx; cases hy
    rcases run_ifB h with ⟨hc, h⟩ | ⟨hc, h⟩
    · refine ⟨_, _, s', hm, hy0, fun w => ?_, h⟩
      rw [← hk]
      cases mx with
      | true => simp only [cond_true, BE.den, cmpF, lssF, ilt_eq, decide_eq_true_eq] at hc; simp [Builtin.max2, hc]
      | false => simp only [cond_false, BE.den, cmpF, lssF, ilt_eq, decide_eq_true_eq] at hc; simp [Builtin.min2, hc]
    · refine ⟨_, _, s', hm, hx0, fun w => ?_, h⟩
      cases mx with
      | true => simp only [cond_true, BE.den, cmpF, lssF, ilt_eq, decide_eq_false_iff_not] at hc; simp [Builtin.max2, hc]
      | false => simp only [cond_false, BE.den, cmpF, lssF, ilt_eq, decide_eq_false_iff_not] at hc; simp [Builtin.min2, hc]
theorem q_mmL {mx : Bool} : ∀ {l : List AV} {us : List Value} {x : AV} {ux : Value} {s : St}, AsmOk ρ s.asm → (mmL mx l x s k).run ρ = some r → cv ρ E x = some ux → cvs ρ E l = some us →
    ∃ v u s', More ρ s s' ∧ cv ρ E v = some u ∧ (∀ w : World, (us.foldlM (if mx then Builtin.max2 else Builtin.min2) ux).run P w = .ok u w) ∧ (k v s').run ρ = some r
  | [], us, x, ux, s, ha, h, hx, hl => by
    rw [cvs_nil hl]
    exact ⟨x, ux, s, .refl ha, hx, fun w => rfl, h⟩
  | y :: l, us, x, ux, s, ha, h, hx, hl => by
    obtain ⟨uy, us, rfl, hy, hl⟩ := cvs_cons hl
    have h' : (mm2 mx x y s fun z s => mmL mx l z s k).run ρ = some r := h
    obtain ⟨v, u, s', hm, hv, hrun, h⟩ := q_mm2 (P := P) ha h' hx hy
    obtain ⟨v', u', s'', hm', hv', hrun', h⟩ := q_mmL (l := l) hm.asm h hv hl
    refine ⟨v', u', s'', hm.trans hm', hv', fun w => ?_, h⟩
    simp only [List.foldlM_cons, Sem.run_bind, hrun w, Result.andThen_ok]
    exact hrun' w

/-! ### interface values -/
theorem okV_cv {ok b : Bool} {v : AV} {u : Value} (h : cv ρ E v = some u) : cv ρ E (okV ok v b) = some (if ok then .tuple #[u, .bool b] else u) := by
  cases ok with
  | true => simp [okV, cv, cvs, h]
  | false => simpa [okV] using h
theorem q_assertT {t xt : TypeId} {z : AV} {uz : Value} {ok : Bool} {x : AV} {ux : Value} (ha : AsmOk ρ s.asm) (h : (doAssertT t z ok x s k).run ρ = some r) (hx : cv ρ E x = some ux) {d : TypeDesc}
    (ht : P.underlying t = some d) (hd : ∀ ms, d ≠ .interface ms) (hz : cv ρ E z = some uz) {i : TypeInfo} (hi : P.info? t = some i) (hiz : i.zero = some uz) : Qr P ρ E s w (Instr.typeAssert ux xt t ok) k r := by
  have zv : (zeroValue t).run P w = .ok uz w := by simp [zeroValue, typeInfo, hi, hiz]
  have hpair : cv ρ E (.tup [z, .bool false]) = some (.tuple #[uz, .bool false]) := by simp [cv, cvs, hz]
  rcases run_ifB h with ⟨hn, h⟩ | ⟨_, h⟩
  · obtain ⟨hok, h⟩ := run_guardB h
    subst hok
    rw [isNil5 hn] at hx
    simp at hx; subst hx
    refine .mk ha hpair ?_ h
    cases d <;> first | (exact absurd rfl (hd _)) | (simp [Instr.typeAssert, run_underlying ht, zv])
  · obtain ⟨a, ha', h⟩ := run_onSome h
    rw [asIf_eq ha'] at hx
    simp only [cv, Option.map_eq_some_iff] at hx
    obtain ⟨u, hu, rfl⟩ := hx
    rcases run_ifB h with ⟨he, h⟩ | ⟨he, h⟩
    · have he : a.t = t := by simpa using he
      refine .mk ha (okV_cv hu) ?_ h
      cases d <;> first | (exact absurd rfl (hd _)) | (cases ok <;> simp [Instr.typeAssert, run_underlying ht, he])
    · obtain ⟨hok, h⟩ := run_guardB h
      subst hok
      have he : a.t ≠ t := by intro e; rw [e] at he; simp at he
      refine .mk ha hpair ?_ h
      cases d <;> first | (exact absurd rfl (hd _)) | (simp [Instr.typeAssert, run_underlying ht, zv, he])
theorem missing_none {want : Array (String × TypeId)} {got : Array Method} (h : hasAll want got = true) : Instr.missingMethod want got = none := by
  unfold hasAll at h
  unfold Instr.missingMethod
  have : (want.toList.filter fun (x : String × TypeId) => !got.any fun m => m.name == x.1 && m.sig == x.2) = [] := by
    rw [List.filter_eq_nil_iff]
    intro x hx
    simp only [List.all_eq_true] at h
    simp [h x hx]
  simp only [this]
  rfl
theorem q_assertI {t xt : TypeId} {ok : Bool} {x : AV} {ux : Value} (ha : AsmOk ρ s.asm) (h : (doAssertI P t ok x s k).run ρ = some r) (hx : cv ρ E x = some ux) {want : Array (String × TypeId)}
    (ht : P.underlying t = some (.interface want)) (hz : ∀ i, P.info? t = some i → i.zero = some .nilIface) (hit : (P.info? t).isSome) : Qr P ρ E s w (Instr.typeAssert ux xt t ok) k r := by
  obtain ⟨it, hit⟩ := Option.isSome_iff_exists.1 hit
  have zv : (zeroValue t).run P w = .ok .nilIface w := by simp [zeroValue, typeInfo, hit, hz it hit]
  have hpair : cv ρ E (.tup [.nili, .bool false]) = some (.tuple #[.nilIface, .bool false]) := by simp [cv, cvs]
  rcases run_ifB h with ⟨hn, h⟩ | ⟨_, h⟩
  · obtain ⟨hok, h⟩ := run_guardB h
    subst hok
    rw [isNil5 hn] at hx
    simp at hx; subst hx
    exact .mk ha hpair (by simp [Instr.typeAssert, run_underlying ht, zv]) h
  · obtain ⟨a, ha', h⟩ := run_onSome h
    have hx0 := hx
    rw [asIf_eq ha'] at hx
    simp only [cv, Option.map_eq_some_iff] at hx
    obtain ⟨u, hu, rfl⟩ := hx
    obtain ⟨at', av⟩ := a
    cases at' with
    | zero => cases h
    | succ n =>
      have h' : (onSome 102 (implT P t (n + 1)) fun b => guardB b 101 (k (okV ok x true) s)).run ρ = some r := h
      obtain ⟨b, hb, h⟩ := run_onSome h'
      unfold implT at hb
      cases hu1 : undA P t with
      | none => rw [hu1] at hb; cases hb
      | some d =>
        have := undA_eq hu1
        rw [ht] at this; cases this
        rw [hu1] at hb
        cases hi : infoA P (n + 1) with
        | none => rw [hi] at hb; cases hb
        | some i =>
          rw [hi] at hb
          simp only [Option.some.injEq] at hb
          have hi' := infoA_eq hi
          obtain ⟨he, h⟩ := run_guardB h
          subst he
          refine .mk ha (okV_cv hx0) ?_ h
          cases ok <;> simp [Instr.typeAssert, run_underlying ht, typeInfo, hi', missing_none hb]
end Go.Ab
end

section
namespace Go.Ab
variable {β : Type} {P : Program} {ρ : Val} {E : Mem} {s : St} {w : World} {r : β} {k : Kv β}

/-! ### equality -/
theorem run_sameAddr_same (c o a b : Nat) : (sameAddr ⟨c, o + a, none⟩ ⟨c, o + b, none⟩).run P w = .ok (Nat.beq a b) w := by
  unfold sameAddr
  have : ((⟨c, o + a, none⟩ : Addr) == ⟨c, o + b, none⟩) = Nat.beq a b := by
    rw [Bool.eq_iff_iff, beq_iff_eq, Nat.beq_eq]
    constructor
    · intro h; have := congrArg Addr.off h; simp at this; exact this
    · intro h; rw [h]
  simp [this]
theorem run_sameAddr_apart {a b : Addr} (hne : a.block ≠ b.block) {ca cb : Array Value} {ta tb : TypeId} (ha : w.heap[a.block]? = some (.cells ca ta (0, 0))) (hb : w.heap[b.block]? = some (.cells cb tb (0, 0))) :
    (sameAddr a b).run P w = .ok false w := by
  have hne' : (a.block == b.block) = false := by simpa using hne
  have fa : ∀ o, w.frozen? { block := a.block, off := o } = false := fun o => by simp [World.frozen?, ha]
  have fb : ∀ o, w.frozen? { block := b.block, off := o } = false := fun o => by simp [World.frozen?, hb]
  have fa' : w.frozen? a = false := by simp [World.frozen?, ha]
  have fb' : w.frozen? b = false := by simp [World.frozen?, hb]
  have sa : w.shape? a.block = some (ta, ca.size) := by simp [World.shape?, ha]
  have sb : w.shape? b.block = some (tb, cb.size) := by simp [World.shape?, hb]
  simp [sameAddr, hne', fa', noView, viewAt, sa, sb, mayBeOne, stringish, fa, fb, fb']
theorem plainAt_eq {p : Pos} (h : plainAt s p = true) : ∃ cs, s.heap.get p = some (.cells cs true) := by
  unfold plainAt at h
  cases hb : s.heap.get p with
  | none => rw [hb] at h; cases h
  | some b =>
    rw [hb] at h
    have h : plainB b = true := h
    cases b with
    | cells cs q => simp only [plainB] at h; subst h; exact ⟨cs, rfl⟩
    | _ => simp [plainB] at h
theorem eqPtr_ok (hr : HRel ρ E s w) {a b : VP} {f : Bool → St → Tree β} (h : (eqPtr s a b f).run ρ = some r) {ca oa cb ob : Nat} (ha : E.blk a.p = some (ca, oa)) (hb : E.blk b.p = some (cb, ob)) :
    ∃ t, (sameAddr ⟨ca, oa + a.off, none⟩ ⟨cb, ob + b.off, none⟩).run P w = .ok t w ∧ (f t s).run ρ = some r := by
  rcases run_ifB h with ⟨he, h⟩ | ⟨he, h⟩
  · have he := (Pos.beq_eq _ _).1 he
    rw [he, hb] at ha; cases ha
    exact ⟨_, run_sameAddr_same _ _ _ _, h⟩
  · obtain ⟨hg, h⟩ := run_guardB h
    simp only [Bool.and_eq_true] at hg
    obtain ⟨cs1, h1⟩ := plainAt_eq hg.1
    obtain ⟨cs2, h2⟩ := plainAt_eq hg.2
    obtain ⟨c1, o1, us1, pre1, rest1, t1, fz1, g1, g2, g3, g4, g5, g6⟩ := hr.blks _ _ h1
    obtain ⟨c2, o2, us2, pre2, rest2, t2, fz2, k1, k2, k3, k4, k5, k6⟩ := hr.blks _ _ h2
    rw [ha] at g1; cases g1
    rw [hb] at k1; cases k1
    rw [g6 rfl] at g3; rw [k6 rfl] at k3
    refine ⟨false, run_sameAddr_apart (fun e => ?_) g3 k3, h⟩
    have e : ca = cb := e
    subst e
    have := (hr.inj _ _ _ _ _ _ _ h1 h2 (by simp [Live]) (by simp [Live]) ha hb).resolve_right (fun e => by cases e.1)
    rw [this] at he
    rw [(Pos.beq_eq _ _).2 rfl] at he
    cases he
theorem run_eqNil {α : Type} {n : Nat} {f : AV → Option α} {why : Nat} {x y : AV} {g : Bool → St → Tree β} {both : α → α → Tree β} (h : (eqNil n f why x y s g both).run ρ = some r) :
    (x.isNil n = true ∧ y.isNil n = true ∧ (g true s).run ρ = some r) ∨ (x.isNil n = true ∧ (∃ b, f y = some b) ∧ (g false s).run ρ = some r) ∨ ((∃ a, f x = some a) ∧ y.isNil n = true ∧ (g false s).run ρ = some r) ∨
      (∃ a b, f x = some a ∧ f y = some b ∧ (both a b).run ρ = some r) := by
  rcases run_ifB h with ⟨h1, h⟩ | ⟨_, h⟩
  · rcases run_ifB h with ⟨h2, h⟩ | ⟨_, h⟩
    · exact .inl ⟨h1, h2, h⟩
    · obtain ⟨b, hb, h⟩ := run_onSome h
      exact .inr (.inl ⟨h1, ⟨b, hb⟩, h⟩)
  · obtain ⟨a, ha, h⟩ := run_onSome h
    rcases run_ifB h with ⟨h2, h⟩ | ⟨_, h⟩
    · exact .inr (.inr (.inl ⟨⟨a, ha⟩, h2, h⟩))
    · obtain ⟨b, hb, h⟩ := run_onSome h
      exact .inr (.inr (.inr ⟨a, b, ha, hb, h⟩))
/-- what a comparison of two values comes to -/
def EqR (P : Program) (ρ : Val) (s : St) (w : World) (m : Sem Bool) (g : Bool → St → Tree β) (r : β) : Prop := ∃ b s', More ρ s s' ∧ m.run P w = .ok b w ∧ (g b s').run ρ = some r
def EqF.ok (P : Program) (ρ : Val) (E : Mem) (w : World) (eq : EqF β) (d : Nat) : Prop :=
  ∀ ⦃t : TypeId⦄ ⦃x y : AV⦄ ⦃s : St⦄ ⦃g : Bool → St → Tree β⦄ ⦃r : β⦄ ⦃ux uy : Value⦄, (eq t x y s g).run ρ = some r → HRel ρ E s w → cv ρ E x = some ux → cv ρ E y = some uy → EqR P ρ s w (Op.equalIn d t ux uy) g r
theorem partA_run {t : TypeId} {off : Nat} {cs : List AV} {us : List Value} {v : AV} (hc : cvs ρ E cs = some us) (h : partA P t off cs = some v) :
    ∃ u, cv ρ E v = some u ∧ ∀ w : World, (part t us.toArray off).run P w = .ok u w := by
  unfold partA at h
  obtain ⟨n, hn, hp⟩ := Option.bind_eq_some_iff.1 h
  exact run_part hn hc hp
theorem eqParts_ok {eq : EqF β} {d : Nat} (hq : EqF.ok P ρ E w eq d) {xs ys : List AV} {uxs uys : List Value} (hx : cvs ρ E xs = some uxs) (hy : cvs ρ E ys = some uys) :
    ∀ (fs : List Field) {s : St} {g : Bool → St → Tree β} {r : β}, (eqParts eq (partA P) (fs.filterMap fun f => if f.name ≠ "_" then some (f.type, f.offset) else none) xs ys s g).run ρ = some r → HRel ρ E s w →
      EqR P ρ s w (Op.eqFields d uxs.toArray uys.toArray fs) g r
  | [], s, g, r, h, hr => ⟨true, s, .refl hr.asm, rfl, h⟩
  | f :: fs, s, g, r, h, hr => by
    by_cases hn : f.name ≠ "_"
    · simp only [List.filterMap_cons, hn, if_true, eqParts, ne_eq, not_false_eq_true] at h
      obtain ⟨vx, hvx, h⟩ := run_onSome h
      obtain ⟨vy, hvy, h⟩ := run_onSome h
      obtain ⟨ux, hux, hpx⟩ := partA_run hx hvx
      obtain ⟨uy, huy, hpy⟩ := partA_run hy hvy
      obtain ⟨b, s', hm, hb, h⟩ := hq h hr hux huy
      rcases run_ifB h with ⟨hbt, h⟩ | ⟨hbf, h⟩
      · subst hbt
        obtain ⟨b', s'', hm', hb', h⟩ := eqParts_ok hq hx hy fs h (hr.more hm)
        refine ⟨b', s'', hm.trans hm', ?_, h⟩
        simp only [Op.eqFields, hn, ne_eq, not_false_eq_true, if_true, Sem.run_bind, hpx w, hpy w, hb, Result.andThen_ok, Bool.not_true, Bool.false_eq_true, if_false]
        exact hb'
      · subst hbf
        refine ⟨false, s', hm, ?_, h⟩
        simp [Op.eqFields, hn, Sem.run_bind, hpx w, hpy w, hb]
    · simp only [List.filterMap_cons, hn, if_false] at h
      obtain ⟨b', s'', hm', hb', h⟩ := eqParts_ok hq hx hy fs h hr
      refine ⟨b', s'', hm', ?_, h⟩
      simp only [Op.eqFields, hn, if_false]
      exact hb'
theorem eqT1_ok {ih : EqF β} {d : Nat} (hq : EqF.ok P ρ E w ih d) {t : TypeId} {de : TypeDesc} (ht : P.underlying t = some de) {x y : AV} {g : Bool → St → Tree β} {ux uy : Value}
    (h : (eqT1 P ih t de x y s g).run ρ = some r) (hr : HRel ρ E s w) (hx : cv ρ E x = some ux) (hy : cv ρ E y = some uy) : EqR P ρ s w (Op.equalIn (d + 1) t ux uy) g r := by
  have ha := hr.asm
  cases de with
  | int j =>
    rcases run_litOr h with ⟨a, b, rfl, rfl, h⟩ | h
    · obtain ⟨hk, h⟩ := run_guardB h
      have hk := (kEq_iff _ _).1 hk
      simp at hx hy; subst hx hy
      refine ⟨_, s, .refl ha, ?_, h⟩
      rw [hk, ieq_eq]
      exact run_equalIn_int w d t b.k j a.n b.n ht
    · obtain ⟨a, b, ha', hb', h⟩ := run_two h
      obtain ⟨hk, h⟩ := run_guardB h
      have hk := (kEq_iff _ _).1 hk
      obtain ⟨s', hm, h⟩ := run_brOn ha h
      rw [asIE_cv ha'] at hx; rw [asIE_cv hb'] at hy
      cases hx; cases hy
      refine ⟨_, s', hm, ?_, h⟩
      rw [hk]
      simp only [BE.den, cmpF, eqlF, ieq_eq]
      exact run_equalIn_int w d t b.k j _ _ ht
  | bool =>
    obtain ⟨a, s1, hx', hm1, h⟩ := run_onBool (E := E) ha h
    obtain ⟨b, s2, hy', hm2, h⟩ := run_onBool (E := E) hm1.asm h
    rw [hx'] at hx; rw [hy'] at hy
    cases hx; cases hy
    exact ⟨_, s2, hm1.trans hm2, run_equalIn_bool' w d t a b ht, h⟩
  | string =>
    rcases run_strOr h with ⟨a, b, ha', hb', h⟩ | h
    case inr =>
      obtain ⟨a, b, ha', hb', h⟩ := run_two h
      obtain ⟨s', hm, h⟩ := run_brOn ha h
      rw [asSE_cv ha'] at hx; rw [asSE_cv hb'] at hy
      cases hx; cases hy
      refine ⟨_, s', hm, ?_, h⟩
      simp only [BE.den]
      have := run_equalIn_string (P := P) w d t (bytesI (a.sden ρ)) (bytesI (b.sden ρ)) ht
      rw [bytes_eq] at this
      exact this
    case inl =>
    rw [asStr_eq ha'] at hx; rw [asStr_eq hb'] at hy
    simp at hx hy; subst hx hy
    refine ⟨_, s, .refl ha, ?_, h⟩
    rw [strEq_eq, ← toList_bytesOf, ← toList_bytesOf]
    exact run_equalIn_string w d t _ _ ht
  | pointer e =>
    rcases run_eqNil h with ⟨h1, h2, h⟩ | ⟨h1, ⟨b, hb⟩, h⟩ | ⟨⟨a, ha'⟩, h2, h⟩ | ⟨a, b, ha', hb', h⟩
    · rw [isNil1 h1] at hx; rw [isNil1 h2] at hy
      simp at hx hy; subst hx hy
      exact ⟨_, s, .refl ha, by simp [Op.equalIn, run_underlying ht], h⟩
    · rw [isNil1 h1] at hx; rw [asPtr_eq hb] at hy
      obtain ⟨c, o, _, rfl⟩ := cv_ptr hy
      simp at hx; subst hx
      exact ⟨_, s, .refl ha, by simp [Op.equalIn, run_underlying ht], h⟩
    · rw [isNil1 h2] at hy; rw [asPtr_eq ha'] at hx
      obtain ⟨c, o, _, rfl⟩ := cv_ptr hx
      simp at hy; subst hy
      exact ⟨_, s, .refl ha, by simp [Op.equalIn, run_underlying ht], h⟩
    · obtain ⟨i, hi, h⟩ := run_onSome h
      obtain ⟨hz, h⟩ := run_guardB h
      rw [asPtr_eq ha'] at hx; rw [asPtr_eq hb'] at hy
      obtain ⟨c, o, hb1, rfl⟩ := cv_ptr hx
      obtain ⟨c', o', hb2, rfl⟩ := cv_ptr hy
      obtain ⟨tt, htt, h⟩ := eqPtr_ok (P := P) hr h hb1 hb2
      have hz' : i.size ≠ 0 := by have : 0 < i.size := by simpa using hz
                                  omega
      refine ⟨tt, s, .refl ha, ?_, h⟩
      simp only [Op.equalIn, Sem.run_bind, run_underlying ht, Result.andThen_ok, sizeOf, typeInfo, run_program, infoA_eq hi, Sem.run_pure, hz', ne_eq, not_false_eq_true, if_true]
      exact htt
  | interface ms =>
    rcases run_eqNil h with ⟨h1, h2, h⟩ | ⟨h1, ⟨b, hb⟩, h⟩ | ⟨⟨a, ha'⟩, h2, h⟩ | ⟨a, b, ha', hb', h⟩
    · rw [isNil5 h1] at hx; rw [isNil5 h2] at hy
      simp at hx hy; subst hx hy
      exact ⟨_, s, .refl ha, by simp [Op.equalIn, run_underlying ht], h⟩
    · rw [isNil5 h1] at hx; rw [asIf_eq hb] at hy
      simp only [cv, Option.map_eq_some_iff] at hy
      obtain ⟨u, _, rfl⟩ := hy
      simp at hx; subst hx
      exact ⟨_, s, .refl ha, by simp [Op.equalIn, run_underlying ht], h⟩
    · rw [isNil5 h2] at hy; rw [asIf_eq ha'] at hx
      simp only [cv, Option.map_eq_some_iff] at hx
      obtain ⟨u, _, rfl⟩ := hx
      simp at hy; subst hy
      exact ⟨_, s, .refl ha, by simp [Op.equalIn, run_underlying ht], h⟩
    · rw [asIf_eq ha'] at hx; rw [asIf_eq hb'] at hy
      simp only [cv, Option.map_eq_some_iff] at hx hy
      obtain ⟨u, hu, rfl⟩ := hx
      obtain ⟨u', hu', rfl⟩ := hy
      rcases run_ifB h with ⟨he, h⟩ | ⟨he, h⟩
      · have he : a.t = b.t := by simpa using he
        obtain ⟨i, hi, h⟩ := run_onSome h
        obtain ⟨hc, h⟩ := run_guardB h
        obtain ⟨bb, s', hm, hb, h⟩ := hq h hr hu hu'
        refine ⟨bb, s', hm, ?_, h⟩
        rw [← he]
        simp only [Op.equalIn, Sem.run_bind, run_underlying ht, Result.andThen_ok, typeInfo, run_program, infoA_eq hi, Sem.run_pure, hc, ne_eq, not_true_eq_false, if_false, Bool.not_true, Bool.false_eq_true]
        exact hb
      · have he : a.t ≠ b.t := by intro e; rw [e] at he; simp at he
        exact ⟨_, s, .refl ha, by simp [Op.equalIn, run_underlying ht, he], h⟩
  | struct fs =>
    obtain ⟨a, b, ha', hb', h⟩ := run_two h
    obtain ⟨hst, h⟩ := run_guardB h
    rw [asAgg_eq ha'] at hx; rw [asAgg_eq hb'] at hy
    obtain ⟨us, hus, rfl⟩ := cv_agg hx
    obtain ⟨us', hus', rfl⟩ := cv_agg hy
    have hst' : P.stoodInHeld t = false := by simpa using hst
    have hfs : P.fieldsOf t = fs := by unfold Program.fieldsOf; rw [ht]
    obtain ⟨bb, s', hm, hb, h⟩ := eqParts_ok hq hus hus' fs.toList h hr
    refine ⟨bb, s', hm, ?_, h⟩
    rw [run_equalIn_struct w d t _ _ (by rw [hfs]; exact ht) hst', hfs]
    exact hb
  | slice e =>
    rcases run_eqNil h with ⟨h1, h2, h⟩ | ⟨h1, ⟨b, hb⟩, h⟩ | ⟨⟨a, ha'⟩, h2, h⟩ | ⟨a, b, ha', hb', h⟩
    · rw [isNil2 h1] at hx; rw [isNil2 h2] at hy
      simp at hx hy; subst hx hy
      exact ⟨_, s, .refl ha, by simp [Op.equalIn, run_underlying ht], h⟩
    · rw [isNil2 h1] at hx; rw [asSlc_eq hb] at hy
      obtain ⟨c, o, m, _, _, rfl⟩ := cv_slc hy
      simp at hx; subst hx
      exact ⟨_, s, .refl ha, by simp [Op.equalIn, run_underlying ht], h⟩
    · rw [isNil2 h2] at hy; rw [asSlc_eq ha'] at hx
      obtain ⟨c, o, m, _, _, rfl⟩ := cv_slc hx
      simp at hy; subst hy
      exact ⟨_, s, .refl ha, by simp [Op.equalIn, run_underlying ht], h⟩
    · cases h
  | map a' b' =>
    rcases run_eqNil h with ⟨h1, h2, h⟩ | ⟨h1, ⟨b, hb⟩, h⟩ | ⟨⟨a, ha'⟩, h2, h⟩ | ⟨a, b, ha', hb', h⟩
    · rw [isNil3 h1] at hx; rw [isNil3 h2] at hy
      simp at hx hy; subst hx hy
      exact ⟨_, s, .refl ha, by simp [Op.equalIn, run_underlying ht], h⟩
    · rw [isNil3 h1] at hx; rw [asMap_eq hb] at hy
      obtain ⟨c, o, _, rfl⟩ := cv_map hy
      simp at hx; subst hx
      exact ⟨_, s, .refl ha, by simp [Op.equalIn, run_underlying ht], h⟩
    · rw [isNil3 h2] at hy; rw [asMap_eq ha'] at hx
      obtain ⟨c, o, _, rfl⟩ := cv_map hx
      simp at hy; subst hy
      exact ⟨_, s, .refl ha, by simp [Op.equalIn, run_underlying ht], h⟩
    · cases h
  | func a' b' c' =>
    rcases run_eqNil h with ⟨h1, h2, h⟩ | ⟨h1, ⟨b, hb⟩, h⟩ | ⟨⟨a, ha'⟩, h2, h⟩ | ⟨a, b, ha', hb', h⟩
    · rw [isNil4 h1] at hx; rw [isNil4 h2] at hy
      simp at hx hy; subst hx hy
      exact ⟨_, s, .refl ha, by simp [Op.equalIn, run_underlying ht], h⟩
    · rw [isNil4 h1] at hx; rw [asFn_eq hb] at hy
      simp only [cv, Option.bind_eq_some_iff, Option.map_eq_some_iff] at hy
      obtain ⟨_, _, _, _, rfl⟩ := hy
      simp at hx; subst hx
      exact ⟨_, s, .refl ha, by simp [Op.equalIn, run_underlying ht], h⟩
    · rw [isNil4 h2] at hy; rw [asFn_eq ha'] at hx
      simp only [cv, Option.bind_eq_some_iff, Option.map_eq_some_iff] at hx
      obtain ⟨_, _, _, _, rfl⟩ := hx
      simp at hy; subst hy
      exact ⟨_, s, .refl ha, by simp [Op.equalIn, run_underlying ht], h⟩
    · cases h
  | _ => cases h
theorem eqT_ok : ∀ (n d : Nat), n ≤ d → EqF.ok P ρ E w (eqT (β := β) P n) d
  | 0, d, _ => by intro t x y s g r ux uy h; cases h
  | n + 1, 0, hd => by omega
  | n + 1, d + 1, hd => by
    intro t x y s g r ux uy h hr hx hy
    have h' : (onSome 43 (undA P t) fun de => eqT1 P (eqT P n) t de x y s g).run ρ = some r := h
    obtain ⟨de, hde, h⟩ := run_onSome h'
    exact eqT1_ok (eqT_ok n d (by omega)) (undA_eq hde) h hr hx hy
/-- a value that is no number and no text -/
def basic : AV → Bool
  | .bool _ | .sbool _ | .nilp | .ptr .. | .nils | .slc .. | .nilm | .map _ | .func .. | .nilf | .iface .. | .nili | .agg _ => true
  | _ => false
theorem onBool_basic {n : Nat} {v : AV} {f : Bool → St → Tree β} (h : (onBool n v s f).run ρ = some r) : basic v = true ∧ ∃ b s', (f b s').run ρ = some r := by
  rcases run_onSomeOr h with ⟨b, hb, h⟩ | ⟨_, h⟩
  · exact ⟨by rw [asB_eq hb]; rfl, b, s, h⟩
  · obtain ⟨c, hc, h⟩ := run_onSome h
    refine ⟨by rw [asSB_eq hc]; rfl, ?_⟩
    unfold brOn at h
    simp only at h
    split at h
    · exact ⟨_, _, h⟩
    · simp only [Tree.run] at h
      split at h
      · exact ⟨_, _, h⟩
      · exact ⟨_, _, h⟩
theorem eqT1_basic {ih : EqF β} {t : TypeId} {de : TypeDesc} {x y : AV} {g : Bool → St → Tree β} (hi : ∀ j, de ≠ .int j) (hs : de ≠ .string) (h : (eqT1 P ih t de x y s g).run ρ = some r) : basic x = true ∧ basic y = true := by
  have nilcase : ∀ {α : Type} {n : Nat} {f : AV → Option α} {why : Nat} {both : α → α → Tree β}, (∀ v a, f v = some a → basic v = true) → (∀ v : AV, v.isNil n = true → basic v = true) → (eqNil n f why x y s g both).run ρ = some r → basic x = true ∧ basic y = true := by
    intro α n f why both hf hn h
    rcases run_eqNil h with ⟨h1, h2, _⟩ | ⟨h1, ⟨b, hb⟩, _⟩ | ⟨⟨a, ha⟩, h2, _⟩ | ⟨a, b, ha, hb, _⟩
    · exact ⟨hn _ h1, hn _ h2⟩
    · exact ⟨hn _ h1, hf _ _ hb⟩
    · exact ⟨hf _ _ ha, hn _ h2⟩
    · exact ⟨hf _ _ ha, hf _ _ hb⟩
  cases de with
  | int j => exact absurd rfl (hi j)
  | string => exact absurd rfl hs
  | bool =>
    obtain ⟨h1, b, s1, h2⟩ := onBool_basic h
    exact ⟨h1, (onBool_basic h2).1⟩
  | struct fs => obtain ⟨a, b, ha, hb, _⟩ := run_two h; rw [asAgg_eq ha, asAgg_eq hb]; exact ⟨rfl, rfl⟩
  | pointer e => exact nilcase (fun v a hv => by rw [asPtr_eq hv]; rfl) (fun v hv => by rw [isNil1 hv]; rfl) h
  | interface ms => exact nilcase (fun v a hv => by rw [asIf_eq hv]; rfl) (fun v hv => by rw [isNil5 hv]; rfl) h
  | slice e => exact nilcase (fun v a hv => by rw [asSlc_eq hv]; rfl) (fun v hv => by rw [isNil2 hv]; rfl) h
  | map a b => exact nilcase (fun v a hv => by rw [asMap_eq hv]; rfl) (fun v hv => by rw [isNil3 hv]; rfl) h
  | func a b c => exact nilcase (fun v a hv => by rw [asFn_eq hv]; rfl) (fun v hv => by rw [isNil4 hv]; rfl) h
  | _ => cases h
/-- the forms that the model's values of these take -/
theorem basic_cv {x : AV} {u : Value} (h : basic x = true) (hx : cv ρ E x = some u) :
    (∃ b, u = .bool b) ∨ (∃ a, u = .pointer a) ∨ (∃ a l c, u = .slice a l c) ∨ (∃ m, u = .map m) ∨ (∃ f a c, u = .func f a c) ∨ u = .nilFunc ∨ (∃ t v, u = .iface t v) ∨ (u = .nilIface ∧ x.isNil 5 = true) ∨ (∃ cs, u = .agg cs ∧ x.asAgg.isSome = true) := by
  cases x <;> simp only [basic, Bool.false_eq_true] at h <;> simp only [cv, Option.some.injEq, Option.map_eq_some_iff, Option.bind_eq_some_iff] at hx
  case bool b => exact .inl ⟨b, hx.symm⟩
  case sbool b => exact .inl ⟨_, hx.symm⟩
  case nilp => exact .inr (.inl ⟨_, hx.symm⟩)
  case ptr => obtain ⟨_, _, rfl⟩ := hx; exact .inr (.inl ⟨_, rfl⟩)
  case nils => exact .inr (.inr (.inl ⟨_, _, _, hx.symm⟩))
  case slc => obtain ⟨_, _, _, _, rfl⟩ := hx; exact .inr (.inr (.inl ⟨_, _, _, rfl⟩))
  case nilm => exact .inr (.inr (.inr (.inl ⟨_, hx.symm⟩)))
  case map => obtain ⟨_, _, rfl⟩ := hx; exact .inr (.inr (.inr (.inl ⟨_, rfl⟩)))
  case func => obtain ⟨_, _, _, _, rfl⟩ := hx; exact .inr (.inr (.inr (.inr (.inl ⟨_, _, _, rfl⟩))))
  case nilf => exact .inr (.inr (.inr (.inr (.inr (.inl hx.symm)))))
  case iface => obtain ⟨_, _, rfl⟩ := hx; exact .inr (.inr (.inr (.inr (.inr (.inr (.inl ⟨_, _, rfl⟩))))))
  case nili => exact .inr (.inr (.inr (.inr (.inr (.inr (.inr (.inl ⟨hx.symm, rfl⟩)))))))
  case agg => obtain ⟨_, _, rfl⟩ := hx; exact .inr (.inr (.inr (.inr (.inr (.inr (.inr (.inr ⟨_, rfl, rfl⟩)))))))
theorem q_eq {neg cst : Bool} {t : TypeId} {x y : AV} {ux uy : Value} (hr : HRel ρ E s w) (h : (doEq P neg t cst x y s k).run ρ = some r) (hx : cv ρ E x = some ux) (hy : cv ρ E y = some uy) {px py : Operand}
    (hc : cst = true → isConstO px = true ∨ isConstO py = true) {de : TypeDesc} (ht : P.underlying t = some de) (hi : ∀ j, de ≠ .int j) (hs : de ≠ .string) :
    Qr P ρ E s w (do eqGuard (if neg then .neq else .eql) t px py ux uy; binOp (if neg then .neq else .eql) t ux uy) k r := by
  obtain ⟨hg, h⟩ := run_guardB h
  have h1 : (onSome 43 (undA P t) fun de => eqT1 P (eqT P 39) t de x y s fun b s => k (.bool (bif neg then !b else b)) s).run ρ = some r := h
  obtain ⟨de', hde, h1⟩ := run_onSome h1
  have hde' := undA_eq hde
  rw [ht] at hde'; cases hde'
  obtain ⟨bx, by'⟩ := eqT1_basic hi hs h1
  obtain ⟨b, s', hm, hb, hend⟩ := eqT_ok 40 10000 (by omega) h hr hx hy
  refine .more hm (.mk hm.asm cv_bool ?_ hend)
  have guard : (eqGuard (if neg then .neq else .eql) t px py ux uy).run P w = .ok () w := by
    have hg' : guardEq P t cst x y = true := hg
    unfold guardEq at hg'
    have cx := basic_cv bx hx
    have cy := basic_cv by' hy
    by_cases hnn : ux = .nilIface ∧ uy = .nilIface
    · obtain ⟨e1, e2⟩ := hnn
      have n1 : x.isNil 5 = true := by
        rcases cx with ⟨_, e⟩ | ⟨_, e⟩ | ⟨_, _, _, e⟩ | ⟨_, e⟩ | ⟨_, _, _, e⟩ | e | ⟨_, _, e⟩ | ⟨_, e⟩ | ⟨_, e, _⟩ <;> first | exact e | (rw [e1] at e; cases e)
      have n2 : y.isNil 5 = true := by
        rcases cy with ⟨_, e⟩ | ⟨_, e⟩ | ⟨_, _, _, e⟩ | ⟨_, e⟩ | ⟨_, _, _, e⟩ | e | ⟨_, _, e⟩ | ⟨_, e⟩ | ⟨_, e, _⟩ <;> first | exact e | (rw [e2] at e; cases e)
      rw [n1, n2] at hg'
      simp only [Bool.and_self, cond_true] at hg'
      rw [e1, e2]
      have hcc := hc hg'
      cases neg <;> cases px <;> cases py <;> simp [isConstO] at hcc <;> simp [eqGuard]
    · by_cases haa : (∃ a, ux = .agg a) ∧ ∃ a, uy = .agg a
      · obtain ⟨⟨a, e1⟩, ⟨a', e2⟩⟩ := haa
        have n0 : x.isNil 5 = false := by
          cases hn : x.isNil 5 with
          | false => rfl
          | true => rw [isNil5 hn] at hx; simp at hx; rw [e1] at hx; cases hx
        have n1 : x.asAgg.isSome = true := by
          rcases cx with ⟨_, e⟩ | ⟨_, e⟩ | ⟨_, _, _, e⟩ | ⟨_, e⟩ | ⟨_, _, _, e⟩ | e | ⟨_, _, e⟩ | ⟨e, _⟩ | ⟨_, _, e⟩ <;> first | exact e | (rw [e1] at e; cases e)
        have n2 : y.asAgg.isSome = true := by
          rcases cy with ⟨_, e⟩ | ⟨_, e⟩ | ⟨_, _, _, e⟩ | ⟨_, e⟩ | ⟨_, _, _, e⟩ | e | ⟨_, _, e⟩ | ⟨e, _⟩ | ⟨_, _, e⟩ <;> first | exact e | (rw [e2] at e; cases e)
        rw [n0, n1, n2] at hg'
        simp only [Bool.false_and, cond_false, Bool.and_self, cond_true, Bool.not_eq_true'] at hg'
        rw [e1, e2]
        exact run_eqGuard_agg w _ t px py a a' hg'
      · unfold eqGuard
        cases neg <;> (cases ux <;> cases uy <;> first | (exact absurd ⟨rfl, rfl⟩ hnn) | (exact absurd ⟨⟨_, rfl⟩, _, rfl⟩ haa) | rfl)
  simp only [Sem.run_bind, guard, Result.andThen_ok]
  have beq : binOp (if neg then .neq else .eql) t ux uy = (Op.equal t ux uy >>= fun b => pure (.bool (if neg then !b else b))) := by
    have cx := basic_cv bx hx
    cases neg <;> (rcases cx with ⟨_, rfl⟩ | ⟨_, rfl⟩ | ⟨_, _, _, rfl⟩ | ⟨_, rfl⟩ | ⟨_, _, _, rfl⟩ | rfl | ⟨_, _, rfl⟩ | ⟨rfl, _⟩ | ⟨_, rfl, _⟩ <;> rfl)
  have hb' : (Op.equal t ux uy).run P w = .ok b w := hb
  rw [beq]
  cases neg <;> simp [hb']
end Go.Ab
end

section
namespace Go.Ab
variable {β : Type} {P : Program} {ρ : Val} {E : Mem} {s : St} {w : World} {r : β} {k : Kv β}

/-! ### keys -/
theorem run_checkKey : ∀ (n d : Nat), n ≤ d → ∀ (t : TypeId) (x : AV) (u : Value) (e : Bool), keyFits P n t x = true → cv ρ E x = some u → (Instr.checkKey e d t u).run P w = .ok () w
  | 0, d, _, t, x, u, e, h, _ => by simp [keyFits] at h
  | n + 1, 0, hd, _, _, _, _, _, _ => by omega
  | n + 1, d + 1, hd, t, x, u, e, h, hx => by
    unfold keyFits at h
    cases hde : undA P t with
    | none => rw [hde] at h; cases h
    | some de =>
      rw [hde] at h
      have ht := undA_eq hde
      cases de <;> simp only [Bool.false_eq_true] at h
      case int j => simp [Instr.checkKey, run_underlying ht]
      case bool => simp [Instr.checkKey, run_underlying ht]
      case string => simp [Instr.checkKey, run_underlying ht]
      case struct fs =>
        cases ha : x.asAgg with
        | none => rw [ha] at h; cases h
        | some cs =>
          rw [ha] at h
          rw [asAgg_eq ha] at hx
          obtain ⟨us, hus, rfl⟩ := cv_agg hx
          simp only [Instr.checkKey, Sem.run_bind, run_underlying ht, Result.andThen_ok]
          rw [← Array.forIn_toList]
          unfold fieldsEq at h
          generalize fs.toList = l at h
          clear ht hde
          induction l with
          | nil => rfl
          | cons f l ih =>
            by_cases hn : f.name ≠ "_"
            · simp only [List.filterMap_cons, hn, if_true, ne_eq, not_false_eq_true, List.all_cons, Bool.and_eq_true] at h
              obtain ⟨h1, h2⟩ := h
              cases hp : partA P f.type f.offset cs with
              | none => rw [hp] at h1; cases h1
              | some v =>
                rw [hp] at h1
                obtain ⟨uv, huv, hrun⟩ := partA_run hus hp
                have := run_checkKey n d (by omega) f.type v uv e h1 huv
                simp only [List.forIn_cons, Sem.run_bind, hn, ne_eq, not_false_eq_true, if_true, hrun w, Result.andThen_ok, this, Sem.run_pure]
                exact ih h2
            · simp only [List.filterMap_cons, hn, if_false] at h
              simp only [List.forIn_cons, Sem.run_bind, hn, if_false, Sem.run_pure, Result.andThen_ok]
              exact ih h
/-- which entry a search finds -/
def FindR (P : Program) (w : World) (kt : TypeId) (key : Value) : List MapEntry → Nat → Option (Nat × MapEntry) → Prop
  | [], _, res => res = none
  | e :: l, i, res => ∃ b, (Op.equal kt key e.key).run P w = .ok b w ∧ if b then res = some (i, e) else FindR P w kt key l (i + 1) res
theorem FindR.asking {kt : TypeId} {key : Value} : ∀ {l : List MapEntry} {i : Nat} {res : Option (Nat × MapEntry)}, FindR P w kt key l i res → (Instr.findAsking kt key l i).run P w = .ok (res.map fun x => (x.1, x.2.val)) w
  | [], i, res, h => by rw [show res = none from h]; rfl
  | e :: l, i, res, h => by
    obtain ⟨b, hb, h⟩ := h
    cases b with
    | true => rw [if_pos rfl] at h; subst h; simp [Instr.findAsking, hb]
    | false =>
      rw [if_neg (by simp)] at h
      simp only [Instr.findAsking, Sem.run_bind, hb, Result.andThen_ok, Bool.false_eq_true, if_false]
      exact FindR.asking h
theorem sameNow_equal {kt : TypeId} {d : TypeDesc} (ht : P.underlying kt = some d) {a b : Value} {x y : Bool} (h : Instr.sameNow d a b = some x) (h' : (Op.equal kt a b).run P w = .ok y w) : x = y := by
  cases d <;> cases a <;> cases b <;> simp only [Instr.sameNow, reduceCtorEq, Option.some.injEq] at h
  · rename_i b1 b2
    have e : (Op.equal kt (.bool b1) (.bool b2)).run P w = .ok (b1 == b2) w := run_equalIn_bool' w 9999 kt b1 b2 ht
    rw [e] at h'
    simp only [Result.ok.injEq, and_true] at h'
    rw [← h, h']
  · rename_i j k1 n1 k2 n2
    split at h
    · rename_i hk
      subst hk
      have e : (Op.equal kt (.int k1 n1) (.int k1 n2)).run P w = .ok (n1 == n2) w := run_equalIn_int w 9999 kt k1 j n1 n2 ht
      rw [e] at h'
      simp only [Result.ok.injEq, and_true] at h'
      simp only [Option.some.injEq] at h
      rw [← h, h']
    · cases h
  · rename_i s1 s2
    have e : (Op.equal kt (.string s1) (.string s2)).run P w = .ok (s1.toList == s2.toList) w := run_equalIn_string w 9999 kt s1 s2 ht
    rw [e] at h'
    simp only [Result.ok.injEq, and_true] at h'
    rw [← h, ← h', beq_toListBytes]
theorem FindR.now {kt : TypeId} {d : TypeDesc} (ht : P.underlying kt = some d) {key : Value} : ∀ {l : List MapEntry} {i : Nat} {res : Option (Nat × MapEntry)} {x : Option (Nat × Value)}, FindR P w kt key l i res → Instr.findNow d key l i = some x →
    x = res.map fun x => (x.1, x.2.val)
  | [], i, res, x, h, hx => by rw [show res = none from h]; simp [Instr.findNow] at hx; rw [← hx]; rfl
  | e :: l, i, res, x, h, hx => by
    obtain ⟨b, hb, h⟩ := h
    unfold Instr.findNow at hx
    cases hs : Instr.sameNow d key e.key with
    | none => rw [hs] at hx; cases hx
    | some y =>
      have := sameNow_equal ht hs hb
      subst this
      rw [hs] at hx
      cases y with
      | true => rw [if_pos rfl] at h; subst h; simp at hx; rw [← hx]; rfl
      | false => rw [if_neg (by simp)] at h; exact FindR.now ht h hx
theorem FindR.findKey {kt : TypeId} {d : TypeDesc} (ht : P.underlying kt = some d) {key : Value} {l : List MapEntry} {res : Option (Nat × MapEntry)} (h : FindR P w kt key l 0 res) :
    (Instr.findKey kt key l).run P w = .ok (res.map fun x => (x.1, x.2.val)) w := by
  simp only [Instr.findKey, Sem.run_bind, run_underlying ht, Result.andThen_ok]
  cases hn : Instr.findNow d key l 0 with
  | none => simp only; exact h.asking
  | some x => simp only [Sem.run_pure]; rw [h.now ht hn]
theorem keyFits_und {n : Nat} {t : TypeId} {x : AV} (h : keyFits P n t x = true) : ∃ d, P.underlying t = some d := by
  cases n with
  | zero => simp [keyFits] at h
  | succ n =>
    unfold keyFits at h
    cases hde : undA P t with
    | none => rw [hde] at h; cases h
    | some de => exact ⟨de, undA_eq hde⟩
theorem findE_ok {kt : TypeId} {key : AV} {ukey : Value} (hk : cv ρ E key = some ukey) : ∀ (es : List Ent) (ues : List MapEntry) (i : Nat) {s : St} {f : Option Found → St → Tree β} {r : β},
    (findE (eqT P 40 kt) key es i s f).run ρ = some r → HRel ρ E s w → centries ρ E es = some ues →
    ∃ res ures s', More ρ s s' ∧ FindR P w kt ukey ues i ures ∧ (f res s').run ρ = some r ∧
      ((res = none ∧ ures = none) ∨ ∃ n e ue, res = some ⟨i + n, e⟩ ∧ ures = some (i + n, ue) ∧ es[n]? = some e ∧ ues[n]? = some ue ∧ centry ρ E e = some ue)
  | [], ues, i, s, f, r, h, hr, hes => by
    simp [centries] at hes; subst hes
    exact ⟨none, none, s, .refl hr.asm, rfl, h, .inl ⟨rfl, rfl⟩⟩
  | e :: es, ues, i, s, f, r, h, hr, hes => by
    simp only [centries, Option.bind_eq_some_iff, Option.map_eq_some_iff] at hes
    obtain ⟨ue, hue, l, hl, rfl⟩ := hes
    have hue0 := hue
    simp only [centry, Option.bind_eq_some_iff, Option.map_eq_some_iff] at hue
    obtain ⟨uk, huk, uv, huv, rfl⟩ := hue
    obtain ⟨b, s', hm, hb, h⟩ := eqT_ok 40 10000 (by omega) (P := P) (w := w) (E := E) h hr hk huk
    rcases run_ifB h with ⟨hbt, h⟩ | ⟨hbf, h⟩
    · subst hbt
      exact ⟨some ⟨i, e⟩, _, s', hm, ⟨true, hb, rfl⟩, h, .inr ⟨0, e, _, rfl, rfl, rfl, rfl, hue0⟩⟩
    · subst hbf
      obtain ⟨res, ures, s'', hm', hf, h, hres⟩ := findE_ok hk es l (i + 1) h (hr.more hm) hl
      refine ⟨res, ures, s'', hm.trans hm', ⟨false, hb, hf⟩, h, ?_⟩
      rcases hres with ⟨e1, e2⟩ | ⟨n, e', ue', e1, e2, e3, e4, e5⟩
      · exact .inl ⟨e1, e2⟩
      · exact .inr ⟨n + 1, e', ue', by rw [e1]; congr 2; omega, by rw [e2]; congr 2; omega, by simpa using e3, by simpa using e4, e5⟩
theorem findI_eq {kt : TypeId} {kd : IntKind} {n : Int} {ik : IntKind} (hu : undA P kt = some (.int ik)) {s : St} {k : Option Found → St → Tree β} : ∀ (es : List Ent) (i : Nat) {r : Option Found}, findI kd n es i = some r → findE (eqT P 40 kt) (.int kd n) es i s k = k r s
  | [], i, r, h => by cases h; rfl
  | e :: es, i, r, h => by
    have h : (match e.key with
      | .int k m => bif kEq kd k then (bif ieq n m then some (some ⟨i, e⟩) else findI kd n es (i + 1)) else none
      | _ => none) = some r := h
    have h0 : ∀ k' : Bool → St → Tree β, eqT P 40 kt (.int kd n) e.key s k' = eqInt (.int kd n) e.key s k' := fun k' => by
      show eqTs P (eqT P 39) kt (.int kd n) e.key s k' = eqInt (.int kd n) e.key s k'
      unfold eqTs; rw [hu]; rfl
    have h1 : findE (eqT P 40 kt) (.int kd n) (e :: es) i s k = eqT P 40 kt (.int kd n) e.key s fun b s => ifB b (k (some ⟨i, e⟩) s) (findE (eqT P 40 kt) (.int kd n) es (i + 1) s k) := rfl
    rw [h1, h0]
    cases hk : e.key with
    | int k2 m =>
      rw [hk] at h
      simp only at h
      cases hq : kEq kd k2 with
      | false => rw [hq] at h; cases h
      | true =>
        rw [hq] at h
        simp only [cond_true] at h
        have h2 : ∀ k' : Bool → St → Tree β, eqInt (.int kd n) (.int k2 m) s k' = k' (ieq n m) s := fun k' => by
          show guardB (kEq kd k2) 25 (k' (ieq n m) s) = k' (ieq n m) s
          rw [hq]; rfl
        rw [h2]
        cases hm : ieq n m with
        | true => rw [hm] at h; cases h; rfl
        | false => rw [hm] at h; exact findI_eq hu es (i + 1) h
    | _ => rw [hk] at h; cases h
theorem nthEnt_cons (n : Nat) (e : Ent) (l : List Ent) : nthEnt (n + 1) (e :: l) = nthEnt n l := rfl
theorem findK_eq {kd : IntKind} {m : Nat} : ∀ (es : List Ent) (i : Nat) {r : Option Nat}, findK (m + 1) (keysOf kd es) i = some r →
    (r = none ∧ findI kd (.ofNat m) es i = some none) ∨ ∃ j, r = some (i + j) ∧ ∀ e, nthEnt j es = some e → findI kd (.ofNat m) es i = some (some ⟨i + j, e⟩)
  | [], i, r, h => by cases h; exact .inl ⟨rfl, rfl⟩
  | e :: es, i, r, h => by
    have hk : ∀ c, keyN kd e = c + 1 → ∃ k, e.key = .int k (.ofNat c) ∧ kEq kd k = true := by
      intro c hc
      unfold keyN at hc
      split at hc
      · next k m' he =>
        cases hq : kEq kd k with
        | false => rw [hq] at hc; cases hc
        | true => rw [hq] at hc; simp only [cond_true, Nat.succ_eq_add_one, Nat.add_right_cancel_iff] at hc; subst hc; exact ⟨k, he, hq⟩
      · cases hc
    have hI : findI kd (.ofNat m) (e :: es) i = (match e.key with
      | .int k m' => bif kEq kd k then (bif ieq (.ofNat m) m' then some (some ⟨i, e⟩) else findI kd (.ofNat m) es (i + 1)) else none
      | _ => none) := rfl
    have h : Bool.rec (motive := fun _ => Option (Option Nat)) (Nat.rec (motive := fun _ => Option (Option Nat)) none (fun _ _ => findK (m + 1) (keysOf kd es) (i + 1)) (keyN kd e)) (some (some i)) (Nat.beq (keyN kd e) (m + 1)) = some r := h
    cases hb : Nat.beq (keyN kd e) (m + 1) with
    | true =>
      rw [hb] at h
      cases h
      obtain ⟨k, hk1, hk2⟩ := hk m (Nat.eq_of_beq_eq_true hb)
      refine .inr ⟨0, rfl, fun e' he' => ?_⟩
      cases he'
      rw [hI, hk1]
      simp [hk2, ieq]
    | false =>
      rw [hb] at h
      cases hn : keyN kd e with
      | zero => rw [hn] at h; cases h
      | succ c =>
        rw [hn] at h
        have h : findK (m + 1) (keysOf kd es) (i + 1) = some r := h
        obtain ⟨k, hk1, hk2⟩ := hk c hn
        have hne : ieq (.ofNat m) (.ofNat c) = false := by
          show Nat.beq m c = false
          cases hmc : Nat.beq m c with
          | false => rfl
          | true =>
            have := Nat.eq_of_beq_eq_true hmc
            subst this
            rw [hn] at hb
            simp at hb
        have hI2 : findI kd (.ofNat m) (e :: es) i = findI kd (.ofNat m) es (i + 1) := by
          rw [hI, hk1]
          simp only [hk2, hne, cond_true, cond_false]
        rcases findK_eq es (i + 1) h with ⟨h1, h2⟩ | ⟨j, h1, h2⟩
        · exact .inl ⟨h1, by rw [hI2, h2]⟩
        · refine .inr ⟨j + 1, by rw [h1]; congr 1; omega, fun e' he' => ?_⟩
          rw [hI2, h2 e' he']
          congr 3; omega
theorem findJ_eq {kd : IntKind} {n : Int} {es : List Ent} {r : Option Found} (h : findJ kd n es = some r) : findI kd n es 0 = some r := by
  unfold findJ at h
  split at h
  · next m =>
    split at h
    · next i hi =>
      rcases findK_eq es 0 hi with ⟨h1, _⟩ | ⟨j, h1, h2⟩
      · cases h1
      · split at h
        · next e he =>
          cases h
          have : i = j := by simpa using h1
          subst this
          have := h2 e he
          simpa using this
        · cases h
    · next hi =>
      cases h
      rcases findK_eq es 0 hi with ⟨_, h2⟩ | ⟨j, h1, _⟩
      · exact h2
      · cases h1
    · cases h
  · cases h
theorem findX_eq {kt : TypeId} {key : AV} {es : List Ent} {s : St} {k : Option Found → St → Tree β} : findX P kt key es s k = findE (eqT P 40 kt) key es 0 s k := by
  unfold findX
  split
  · split
    · next kd n ik hu =>
      split
      · next r hr => exact (findI_eq hu es 0 (findJ_eq hr)).symm
      · rfl
    · rfl
  · rfl
theorem q_lookup {kt et t : TypeId} {z : AV} {uz : Value} {ok : Bool} {m key : AV} {um ukey : Value} (hr : HRel ρ E s w) (h : (doLookup P kt z ok m key s k).run ρ = some r) (hm : cv ρ E m = some um) (hk : cv ρ E key = some ukey)
    (ht : P.underlying t = some (.map kt et)) (hz : cv ρ E z = some uz) {i : TypeInfo} (hi : P.info? et = some i) (hiz : i.zero = some uz) : Qr P ρ E s w (Instr.lookup t um ukey ok) k r := by
  have zv : ∀ w : World, (zeroValue et).run P w = .ok uz w := fun w => by simp [zeroValue, typeInfo, hi, hiz]
  obtain ⟨hf, h⟩ := run_guardB h
  have hck : ∀ (e : Bool) , (Instr.checkKey e 10000 kt ukey).run P w = .ok () w := fun e => run_checkKey 10 10000 (by omega) kt key ukey e hf hk
  obtain ⟨d, hd⟩ := keyFits_und hf
  rcases run_ifB h with ⟨hn, h⟩ | ⟨_, h⟩
  · rw [isNil3 hn] at hm
    simp at hm; subst hm
    refine .mk hr.asm (okV_cv hz) ?_ h
    have hfk : (Instr.findKey kt ukey []).run P w = .ok none w := by
      have := FindR.findKey (P := P) (w := w) (kt := kt) hd (key := ukey) (l := []) (res := none) rfl
      simpa using this
    cases ok <;> simp [Instr.lookup, run_underlying ht, hck, hfk, zv]
  · obtain ⟨p, hp, h⟩ := run_onSome h
    obtain ⟨b, hb, h⟩ := run_onSome h
    rw [asMap_eq hp] at hm
    obtain ⟨c, o, hbk, rfl⟩ := cv_map hm
    obtain ⟨c', o', us, hb', hus, hheap⟩ := hr.blks p _ (St.mapAt_eq hb)
    rw [hbk] at hb'; cases hb'
    obtain ⟨res, ures, s', hmore, hfr, h, hres⟩ := findE_ok (P := P) hk b.es us 0 (findX_eq (P := P) ▸ h) hr hus
    have hfk := hfr.findKey hd
    have hobj : (getObj c).run P w = .ok (.map us.toArray b.clock) w := by simp [getObj, Sem.run, hheap]
    rcases hres with ⟨rfl, rfl⟩ | ⟨n, e, ue, rfl, rfl, _, _, hce⟩
    · refine .more hmore (.mk hmore.asm (okV_cv hz) ?_ h)
      simp only [Option.map_none] at hfk
      cases ok <;> simp [Instr.lookup, run_underlying ht, hobj, hck, hfk, zv]
    · simp only [centry, Option.bind_eq_some_iff, Option.map_eq_some_iff] at hce
      obtain ⟨uk, huk, uv, huv, rfl⟩ := hce
      refine .more hmore (.mk hmore.asm (okV_cv huv) ?_ h)
      simp only [Option.map_some] at hfk
      cases ok <;> simp [Instr.lookup, run_underlying ht, hobj, hck, hfk]

/-! ### methods -/
structure MethR (P : Program) (t : TypeId) (name : String) (m : Meth) : Prop where
  same : m.deref = none → ∀ (v : Value) (w : World) (n : Nat), (method (n + 1) t v name).run P w = .ok (m.f, v) w
  ahead : m.deref = none → ∀ (v : Value) (w : World) (n : Nat), (nilAhead (n + 1) t v name).run P w = .ok (some false) w
theorem methodA_ok {t : TypeId} {name : String} {m : Meth} (h : methodA P t name = some m) : MethR P t name m := by
  unfold methodA at h
  cases hi : infoA P t with
  | none => rw [hi] at h; cases h
  | some i =>
    rw [hi] at h
    have hi' := infoA_eq hi
    simp only at h
    cases hf : i.methods.find? (·.name == name) with
    | none => rw [hf] at h; cases h
    | some me =>
      rw [hf] at h
      simp only at h
      cases hp : me.path.isEmpty with
      | false => rw [hp] at h; simp at h
      | true =>
        have hp' : me.path.toList = [] := by simpa using hp
        have hempty : me.path = #[] := by apply Array.ext'; simpa using hp'
        rw [hp] at h
        cases hfn : me.func with
        | none => rw [hfn] at h; simp at h
        | some ff =>
          obtain ⟨f, b⟩ := ff
          rw [hfn] at h
          cases hu : undA P t with
          | none => rw [hu] at h; cases b <;> simp at h
          | some d =>
            have hu' := undA_eq hu
            rw [hu] at h
            constructor
            · intro hde v w n
              cases b with
              | true =>
                cases d <;> simp at h
                subst h
                simp [method, typeInfo, hi', hf, hempty, follow, hfn, receiverAt, run_underlying hu', Place.get]
              | false =>
                cases d <;> simp at h
                case pointer e =>
                  cases ha : aggT P e with
                  | none => rw [ha] at h; cases h
                  | some n => rw [ha] at h; simp at h; rw [← h] at hde; cases hde
                all_goals
                  subst h
                  simp [method, typeInfo, hi', hf, hempty, follow, hfn, receiverAt, run_underlying hu', Place.get]
            · intro hde v w n
              cases b with
              | true =>
                cases d <;> simp at h
                subst h
                simp [nilAhead, typeInfo, hi', hf, hempty, followBlind, hfn]
              | false =>
                cases d <;> simp at h
                case pointer e =>
                  cases ha : aggT P e with
                  | none => rw [ha] at h; cases h
                  | some n => rw [ha] at h; simp at h; rw [← h] at hde; cases hde
                all_goals
                  subst h
                  simp [nilAhead, typeInfo, hi', hf, hempty, followBlind, hfn, run_underlying hu']
theorem run_onMethod {t : TypeId} {name : String} {f : Meth → Tree β} (h : (onMethod P t name f).run ρ = some r) : ∃ m, MethR P t name m ∧ (f m).run ρ = some r := by
  cases t with
  | zero => cases h
  | succ n =>
    have h' : (onSome 131 (methodA P (n + 1) name) f).run ρ = some r := h
    obtain ⟨m, hm, h⟩ := run_onSome h'
    exact ⟨m, methodA_ok hm, h⟩
/-- the operation 'nilCheck' -/
def nilckSem (v : Value) : Sem Next :=
  match v with
  | .pointer none | .nilIface | .nilFunc => runtimePanic .nilDeref
  | .func (.method name) first captured =>
    match (first[0]? : Option Value) with
    | some .nilIface => runtimePanic .nilDeref
    | some (.iface t w) => do
      if (← nilAhead ((← program).types.size + Made.depth) t w name) != some false then
        unsupported (.noEntry "op/nilCheck.the method's receiver behind this interface value is a nil pointer, or cannot be seen to be none, and the arguments act or may panic (ledger 612)")
      pure (.value (.func (.method name) first captured))
    | _ => pure (.value (.func (.method name) first captured))
  | x => pure (.value x)
theorem q_nilck {x : AV} {ux : Value} (ha : AsmOk ρ s.asm) (h : (doNilck P x s k).run ρ = some r) (hx : cv ρ E x = some ux) : (nilckSem ux).run P w = .ok (.value ux) w ∧ (k x s).run ρ = some r := by
  rcases run_ifB h with ⟨hc, h⟩ | ⟨_, h⟩
  · refine ⟨?_, h⟩
    simp only [Bool.or_eq_true] at hc
    rcases q_nilck_id (E := E) hx hc with ⟨a, rfl⟩ | ⟨t, v, rfl⟩ <;> rfl
  · obtain ⟨f, hf, h⟩ := run_onSome h
    rw [asFn_eq hf] at hx
    simp only [cv, Option.bind_eq_some_iff, Option.map_eq_some_iff] at hx
    obtain ⟨us, hus, vs, hvs, rfl⟩ := hx
    rcases run_onSomeOr h with ⟨n, hn, h⟩ | ⟨hn, h⟩
    · obtain ⟨v, hv, h⟩ := run_onSome h
      obtain ⟨m, hm, h⟩ := run_onMethod h
      obtain ⟨hd, h⟩ := run_guardB h
      have hd' : m.deref = none := by simpa using hd
      have hfn : f.fn = .method n := by cases hff : f.fn <;> rw [hff] at hn <;> simp [Fn.asMethod] at hn; rw [hn]
      refine ⟨?_, h⟩
      rw [hfn]
      cases hfi : f.first with
      | nil => rw [hfi] at hv; cases hv
      | cons a l =>
        rw [hfi] at hv hus
        obtain ⟨ua, ul, rfl, hua, hul⟩ := cvs_cons hus
        have hv' : a.asIf = some v := hv
        rw [asIf_eq hv'] at hua
        simp only [cv, Option.map_eq_some_iff] at hua
        obtain ⟨u, hu, rfl⟩ := hua
        have := hm.ahead hd' u w (P.types.size + Made.depth - 1)
        have hpos : P.types.size + Made.depth - 1 + 1 = P.types.size + Made.depth := by
          have : 0 < Made.depth := by decide
          omega
        rw [hpos] at this
        simp [nilckSem, this]
    · refine ⟨?_, h⟩
      cases hff : f.fn <;> rw [hff] at hn <;> simp [Fn.asMethod] at hn <;> rfl
end Go.Ab
end

section
namespace Go.Ab
variable {β : Type} {P : Program} {ρ : Val} {E : Mem} {s : St} {w : World} {r : β} {k : Kv β}

/-! ### operands -/
/-- the operands, as they are translated, are the frame's -/
def Res (ρ : Val) (E : Mem) (ds : List (Option Nat)) (ls : List AV) (fr : Fr) (a : Act) : Prop := ∀ x v, argV (trArg ds x) ls fr = some v → cv ρ E v = some (a.eval x)
variable {ds : List (Option Nat)} {ls : List AV} {fr : Fr} {a : Act} {call : CallT β}
theorem run_onArg {x : Operand} {f : AV → Tree β} (hres : Res ρ E ds ls fr a) (h : (onArg (trArg ds x) ls fr f).run ρ = some r) : ∃ v, cv ρ E v = some (a.eval x) ∧ (f v).run ρ = some r := by
  obtain ⟨v, hv, h⟩ := run_onSome h
  exact ⟨v, hres x v hv, h⟩
theorem run_on2 {x y : Operand} {f : AV → AV → Tree β} (hres : Res ρ E ds ls fr a) (h : (on2 (trArg ds x) (trArg ds y) ls fr f).run ρ = some r) :
    ∃ v u, cv ρ E v = some (a.eval x) ∧ cv ρ E u = some (a.eval y) ∧ (f v u).run ρ = some r := by
  obtain ⟨v, hv, h⟩ := run_onArg hres h
  obtain ⟨u, hu, h⟩ := run_onArg hres h
  exact ⟨v, u, hv, hu, h⟩
theorem run_onArgsL (hres : Res ρ E ds ls fr a) : ∀ {l : List Operand} {f : List AV → Tree β}, (onArgs (l.map (trArg ds)) ls fr f).run ρ = some r → ∃ vs, cvs ρ E vs = some (l.map a.eval) ∧ (f vs).run ρ = some r
  | [], f, h => ⟨[], by simp [cvs], h⟩
  | x :: l, f, h => by
    have h' : (onArg (trArg ds x) ls fr fun v => onArgs (l.map (trArg ds)) ls fr fun vs => f (v :: vs)).run ρ = some r := h
    obtain ⟨v, hv, h⟩ := run_onArg hres h'
    obtain ⟨vs, hvs, h⟩ := run_onArgsL hres h
    exact ⟨v :: vs, by simp [cvs, hv, hvs], h⟩
theorem run_onArgs {xs : Array Operand} (hres : Res ρ E ds ls fr a) {f : List AV → Tree β} (h : (onArgs (trArgs ds xs) ls fr f).run ρ = some r) :
    ∃ vs, cvs ρ E vs = some (xs.map a.eval).toList ∧ (f vs).run ρ = some r := by
  obtain ⟨vs, hvs, h⟩ := run_onArgsL hres h
  exact ⟨vs, by rw [hvs]; simp, h⟩
theorem run_onOpt {x : Option Operand} {f : Option AV → Tree β} (hres : Res ρ E ds ls fr a) (h : (onOpt (trOpt ds x) ls fr f).run ρ = some r) : ∃ v, OptR ρ E v (x.map a.eval) ∧ (f v).run ρ = some r := by
  cases x with
  | none => exact ⟨none, .inl ⟨rfl, rfl⟩, h⟩
  | some x =>
    have h' : (onArg (trArg ds x) ls fr fun v => f (some v)).run ρ = some r := h
    obtain ⟨v, hv, h⟩ := run_onArg hres h'
    exact ⟨some v, .inr ⟨v, _, rfl, rfl, hv⟩, h⟩

/-! ### literals of structs and arrays -/
theorem foldl_set : ∀ (vs : List Value) (off j : Nat) (cells : List Value), off + j + vs.length ≤ cells.length →
    ((vs.zipIdx j).foldl (fun (cs : Array Value) (x : Value × Nat) => cs.setIfInBounds (off + x.2) x.1) cells.toArray).toList = cells.take (off + j) ++ vs ++ cells.drop (off + j + vs.length)
  | [], off, j, cells, h => by simp
  | v :: vs, off, j, cells, h => by
    simp only [List.zipIdx_cons, List.foldl_cons]
    have hset : cells.toArray.setIfInBounds (off + j) v = (cells.set (off + j) v).toArray := by simp
    rw [hset, foldl_set vs off (j + 1) (cells.set (off + j) v) (by simp at h ⊢; omega)]
    simp only [List.length_cons] at h ⊢
    rw [List.take_set, List.drop_set, if_pos (by omega)]
    rw [show off + (j + 1) = off + j + 1 from by omega]
    have : (cells.take (off + j + 1)).set (off + j) v = cells.take (off + j) ++ [v] := by
      rw [List.take_add_one, List.set_append, if_neg (by simp; omega)]
      have hl : (cells.take (off + j)).length = off + j := by simp; omega
      rw [hl, Nat.sub_self]
      have : cells[off + j]? = some cells[off + j] := List.getElem?_eq_getElem (by omega)
      rw [this]; rfl
    rw [this, show off + j + 1 + vs.length = off + j + (vs.length + 1) from by omega]
    simp
/-- the parts of a literal, as translated -/
inductive PartsR (ds : List (Option Nat)) (place : Nat → Option (Nat × Nat)) : List Part → List (Nat × Operand) → Prop
  | nil : PartsR ds place [] []
  | cons {i off size : Nat} {x : Operand} {ps : List Part} {l : List (Nat × Operand)} : place i = some (off, size) → PartsR ds place ps l → PartsR ds place (⟨off, size, trArg ds x⟩ :: ps) ((i, x) :: l)
theorem q_fill (hres : Res ρ E ds ls fr a) {place : Nat → Option (Nat × Nat)} : ∀ {ps : List Part} {l : List (Nat × Operand)} {z : List AV} {uz : List Value} {f : List AV → Tree β}, PartsR ds place ps l → cvs ρ E z = some uz →
    (fillA ps ls fr z f).run ρ = some r → ∃ z' uz', cvs ρ E z' = some uz' ∧ Instr.fill place uz.toArray (l.map fun x => (x.1, a.eval x.2)) = some uz'.toArray ∧ (f z').run ρ = some r
  | _, _, z, uz, f, .nil, hz, h => ⟨z, uz, hz, rfl, h⟩
  | _, _, z, uz, f, .cons (i := i) (off := off) (size := size) (x := x) (ps := ps) (l := l) hp hr, hz, h => by
    have h' : (onArg (trArg ds x) ls fr fun v => guardB (Nat.beq v.cells.length size) 83 (onSome 82 (spliceL off v.cells z) fun z => fillA ps ls fr z f)).run ρ = some r := h
    obtain ⟨v, hv, h⟩ := run_onArg hres h'
    obtain ⟨hsz, h⟩ := run_guardB h
    obtain ⟨z1, hz1, h⟩ := run_onSome h
    obtain ⟨hle, rfl⟩ := spliceL_eq _ _ _ _ hz1
    have hc := cells_cv hv
    have hlc := cvs_length hc
    have hlz := cvs_length hz
    have hsz' : v.cells.length = size := by simpa using hsz
    have hcv : cvs ρ E (z.take off ++ v.cells ++ z.drop (off + v.cells.length)) = some (uz.take off ++ (a.eval x).cells.toList ++ uz.drop (off + v.cells.length)) :=
      cvs_append (cvs_append (cvs_take off hz) hc) (cvs_drop _ hz)
    obtain ⟨z', uz', h1, h2, h3⟩ := q_fill hres hr hcv h
    refine ⟨z', uz', h1, ?_, h3⟩
    rw [List.map_cons]
    unfold Instr.fill
    simp only [hp]
    have hsize : (a.eval x).cells.size = size := by rw [← hsz', ← hlc]; simp
    have hcond : ((decide ((a.eval x).cells.size ≠ size) || decide (off + (a.eval x).cells.size > uz.toArray.size)) : Bool) = false := by
      simp [hsize]; omega
    rw [if_neg (by rw [hcond]; simp)]
    rw [← h2]
    congr 1
    apply Array.ext'
    have := foldl_set (a.eval x).cells.toList off 0 uz (by simp; omega)
    simp only [Nat.add_zero] at this
    rw [show (a.eval x).cells.zipIdx = ((a.eval x).cells.toList.zipIdx 0).toArray from by apply Array.ext'; simp]
    rw [List.foldl_toArray, this, show (a.eval x).cells.toList.length = v.cells.length from hlc]
theorem abstF_cv : ∀ (n : Nat) {v : Value} {u : Value}, cv ρ E (abstF n v) = some u → u = v
  | 0, v, u, h => by simp [abstF, cv] at h
  | n + 1, v, u, h => by
    have hl : ∀ (l : List Value) (us : List Value), cvs ρ E (l.map (abstF n)) = some us → us = l := by
      intro l
      induction l with
      | nil => intro us h; exact cvs_nil h
      | cons x l ih =>
        intro us h
        obtain ⟨y, ys, rfl, hy, hys⟩ := cvs_cons h
        rw [abstF_cv n hy, ih ys hys]
    unfold abstF at h
    split at h
    all_goals (first | (simp only [cv_bool, cv_int, cv_nilp, cv_nils, cv_nilm, cv_nilf, cv_nili, Option.some.injEq] at h; exact h.symm) | skip)
    · rename_i s
      simp only [cv_str, Option.some.injEq] at h
      rw [← h]
      congr 1
      apply ByteArray.ext
      apply Array.ext'
      simp [bytesOf, natsOf, Function.comp_def]
    · simp only [cv, Option.bind_eq_some_iff, Option.map_eq_some_iff] at h
      obtain ⟨x, hx, y, hy, rfl⟩ := h
      rw [hl _ _ hx, hl _ _ hy]
    · simp only [cv, Option.map_eq_some_iff] at h
      obtain ⟨x, hx, rfl⟩ := h
      rw [abstF_cv n hx]
    · simp only [cv, Option.map_eq_some_iff] at h
      obtain ⟨x, hx, rfl⟩ := h
      rw [hl _ _ hx]
    · simp only [cv, Option.map_eq_some_iff] at h
      obtain ⟨x, hx, rfl⟩ := h
      rw [hl _ _ hx]
    · simp [cv] at h
theorem closedF_cv : ∀ (n : Nat) {v : AV}, closedF n v = true → ∃ u, cv ρ E v = some u
  | 0, v, h => by simp [closedF] at h
  | n + 1, v, h => by
    have hl : ∀ (l : List AV), l.all (closedF n) = true → ∃ us, cvs ρ E l = some us := by
      intro l
      induction l with
      | nil => intro _; exact ⟨[], by simp [cvs]⟩
      | cons x l ih =>
        intro h
        simp only [List.all_cons, Bool.and_eq_true] at h
        obtain ⟨u, hu⟩ := closedF_cv n h.1
        obtain ⟨us, hus⟩ := ih h.2
        exact ⟨u :: us, by simp [cvs, hu, hus]⟩
    unfold closedF at h
    split at h
    all_goals (first | exact ⟨_, cv_bool⟩ | exact ⟨_, cv_int⟩ | exact ⟨_, cv_str⟩ | exact ⟨_, cv_nilp⟩ | exact ⟨_, cv_nils⟩ | exact ⟨_, cv_nilm⟩ | exact ⟨_, cv_nilf⟩ | exact ⟨_, cv_nili⟩ | skip)
    · obtain ⟨us, hus⟩ := hl _ h; exact ⟨_, cv_agg_mk hus⟩
    · obtain ⟨us, hus⟩ := hl _ h; exact ⟨_, cv_tup_mk hus⟩
    · cases h
theorem abst_cv {v : Value} {u : Value} (h : cv ρ E (abst v) = some u) : u = v := abstF_cv 8 h
end Go.Ab
end

section
namespace Go.Ab
variable {β : Type} {P : Program} {ρ : Val} {E : Mem} {s : St} {w : World} {r : β} {k : Kv β}
variable {ds : List (Option Nat)} {ls : List AV} {fr : Fr} {a : Act} {call : CallT β}

/-- a quiet operation, carried out -/
def QN (P : Program) (ρ : Val) (E : Mem) (s : St) (w : World) (m : Sem Next) (k : Kv β) (r : β) : Prop :=
  ∃ v u s', More ρ s s' ∧ cv ρ E v = some u ∧ m.run P w = .ok (.value u) w ∧ (k v s').run ρ = some r
theorem QN.of {m : Sem Value} (h : Qr P ρ E s w m k r) : QN P ρ E s w (do pure (.value (← m))) k r := by
  obtain ⟨v, u, s', h1, h2, h3, h4⟩ := h
  exact ⟨v, u, s', h1, h2, by simp [h3], h4⟩
theorem QN.mk {m : Sem Next} {v : AV} {u : Value} (ha : AsmOk ρ s.asm) (hv : cv ρ E v = some u) (hm : m.run P w = .ok (.value u) w) (hk : (k v s).run ρ = some r) : QN P ρ E s w m k r :=
  ⟨v, u, s, .refl ha, hv, hm, hk⟩
theorem no_run {n : Nat} (h : (evOp P (.no n) call ls fr s k).run ρ = some r) : False := by cases h

/-! ### what the tables say -/
theorem sizeA_eq {t : TypeId} {n : Nat} (h : sizeA P t = some n) : ∃ i, P.info? t = some i ∧ i.size = n := by
  unfold sizeA at h
  obtain ⟨i, hi, rfl⟩ := Option.map_eq_some_iff.1 h
  exact ⟨i, infoA_eq hi, rfl⟩
theorem zeroOf_eq {t : TypeId} {z : List AV} (h : zeroOf P t = some z) : ∃ i uz, P.info? t = some i ∧ i.zero = some uz ∧ i.size = z.length ∧ cvs ρ E z = some uz.cells.toList := by
  unfold zeroOf at h
  cases hi : infoA P t with
  | none => rw [hi] at h; cases h
  | some i =>
    rw [hi] at h
    simp only at h
    cases hz : i.zero with
    | none => rw [hz] at h; cases h
    | some uz =>
      rw [hz] at h
      simp only at h
      cases hc : Nat.beq (abst uz).cells.length i.size && closedF 8 (abst uz) with
      | false => rw [hc] at h; cases h
      | true =>
        rw [hc] at h
        simp only [cond_true, Option.some.injEq] at h
        simp only [Bool.and_eq_true, Nat.beq_eq] at hc
        obtain ⟨u, hu⟩ := closedF_cv (ρ := ρ) (E := E) 8 hc.2
        have := abst_cv hu
        subst this
        exact ⟨i, u, infoA_eq hi, hz, by rw [← h]; exact hc.1.symm, by rw [← h]; exact cells_cv hu⟩
theorem zeroVal_eq {t : TypeId} {z : AV} (h : zeroVal P t = some z) : ∃ i uz, P.info? t = some i ∧ i.zero = some uz ∧ cv ρ E z = some uz := by
  unfold zeroVal at h
  cases hi : infoA P t with
  | none => rw [hi] at h; cases h
  | some i =>
    rw [hi] at h
    obtain ⟨uz, hz, h⟩ := Option.bind_eq_some_iff.1 h
    cases hc : closedF 8 (abst uz) with
    | false => rw [hc] at h; cases h
    | true =>
      rw [hc] at h
      simp only [cond_true, Option.some.injEq] at h
      obtain ⟨u, hu⟩ := closedF_cv (ρ := ρ) (E := E) 8 hc
      have := abst_cv hu
      subst this
      exact ⟨i, u, infoA_eq hi, hz, by rw [← h]; exact hu⟩

theorem run_places (fs : Array Field) (h : sizesOk P fs = true) : (fs.mapM fun f => (do pure (f.offset, ← sizeOf f.type) : Sem (Nat × Nat))).run P w = .ok (fs.map fun f => (f.offset, P.cellsOf f.type)) w := by
  have key : ∀ fl : List Field, (fl.all fun f => (infoA P f.type).isSome) = true →
      (fl.mapM fun f => (do pure (f.offset, ← sizeOf f.type) : Sem (Nat × Nat))).run P w = .ok (fl.map fun f => (f.offset, P.cellsOf f.type)) w := by
    intro fl
    induction fl with
    | nil => intro _; rfl
    | cons f fl ih =>
      intro h
      simp only [List.all_cons, Bool.and_eq_true] at h
      obtain ⟨j, hj⟩ := Option.isSome_iff_exists.1 h.1
      have hj' := infoA_eq hj
      have hs : (sizeOf f.type).run P w = .ok (P.cellsOf f.type) w := by simp [sizeOf, typeInfo, hj', Program.cellsOf]
      rw [List.mapM_cons]
      simp only [Sem.run_bind, hs, Result.andThen_ok, Sem.run_pure, ih h.2, List.map_cons]
  have := key fs.toList h
  obtain ⟨fl⟩ := fs
  rw [List.mapM_toArray]
  simp only [Sem.run_map, this]
  simp
theorem partsS_ok (fs : Array Field) : ∀ (pl : List (Nat × Operand)) (l : List Part), partsS P ds fs pl = some l → PartsR ds ((fs.map fun f => (f.offset, P.cellsOf f.type))[·]?) l pl
  | [], l, hp => by simp [partsS] at hp; subst hp; exact .nil
  | (j, x) :: pl, l, hp => by
    unfold partsS at hp
    cases hf : fs[j]? with
    | none => rw [hf] at hp; cases hp
    | some f =>
      rw [hf] at hp
      simp only at hp
      cases hs : sizeA P f.type with
      | none => rw [hs] at hp; cases hp
      | some n =>
        cases hr' : partsS P ds fs pl with
        | none => rw [hs, hr'] at hp; cases hp
        | some l' =>
          rw [hs, hr'] at hp
          simp only [Option.some.injEq] at hp
          subst hp
          obtain ⟨ii, hii, hsz'⟩ := sizeA_eq hs
          refine .cons ?_ (partsS_ok fs pl l' hr')
          simp [hf, Program.cellsOf, hii, hsz']
/-! ### the operations, one by one -/
section
variable (hres : Res ρ E ds ls fr a) (hr : HRel ρ E s w)
include hres hr
theorem ex_move {x : Operand} (h : (evOp P (.mv (trArg ds x)) call ls fr s k).run ρ = some r) : QN P ρ E s w (pure (.value (a.eval x))) k r := by
  obtain ⟨v, hv, h⟩ := run_onArg hres h
  exact .mk hr.asm hv rfl h
theorem ex_pick {c x y : Operand} (h : (evOp P (.pick (trArg ds c) (trArg ds x) (trArg ds y)) call ls fr s k).run ρ = some r) :
    QN P ρ E s w (do pure (.value (if ← asBool (a.eval c) then a.eval x else a.eval y))) k r := by
  obtain ⟨v, hv, h⟩ := run_onArg hres h
  obtain ⟨b, s', hb, hm, h⟩ := run_onBool (E := E) hr.asm h
  have hv := Option.some.inj (hv.symm.trans hb)
  cases b with
  | true =>
    obtain ⟨u, hu, h⟩ := run_onArg (x := x) hres h
    exact ⟨u, _, s', hm, hu, by simp [asBool, hv], h⟩
  | false =>
    obtain ⟨u, hu, h⟩ := run_onArg (x := y) hres h
    exact ⟨u, _, s', hm, hu, by simp [asBool, hv], h⟩
theorem ex_nilck {x : Operand} (h : (evOp P (.nilck (trArg ds x)) call ls fr s k).run ρ = some r) : QN P ρ E s w (nilckSem (a.eval x)) k r := by
  obtain ⟨v, hv, h⟩ := run_onArg hres h
  obtain ⟨h1, h2⟩ := q_nilck (P := P) (w := w) hr.asm h hv
  exact .mk hr.asm hv h1 h2
theorem ex_load {t : TypeId} {x : Operand} (h : (evOp P (trOp P ds (.load t x)) call ls fr s k).run ρ = some r) : QN P ρ E s w (do pure (.value (← Instr.loadAt t (a.eval x)))) k r := by
  simp only [trOp] at h
  cases hn : aggT P t with
  | none => rw [hn] at h; cases h
  | some n =>
    rw [hn] at h
    obtain ⟨v, hv, h⟩ := run_onArg hres h
    exact .of (q_ld hr h hv hn)
theorem ex_fadr {t : TypeId} {x : Operand} {f : Nat} (h : (evOp P (trFadr P ds t x f) call ls fr s k).run ρ = some r) : QN P ρ E s w (do pure (.value (← Instr.fieldAt t (a.eval x) f))) k r := by
  unfold trFadr at h
  cases hu : undA P t with
  | none => rw [hu] at h; cases h
  | some d =>
    rw [hu] at h
    cases d <;> try (cases h; done)
    rename_i fs
    simp only at h
    cases hf : fs[f]? with
    | none => rw [hf] at h; cases h
    | some g =>
      rw [hf] at h
      simp only at h
      cases hs : sizeA P g.type with
      | none => rw [hs] at h; cases h
      | some n =>
        rw [hs] at h
        cases n with
        | zero => cases h
        | succ n =>
          obtain ⟨i, hi, hsz⟩ := sizeA_eq hs
          obtain ⟨v, hv, h⟩ := run_onArg hres h
          exact .of (q_fadr hr.asm h hv (undA_eq hu) hf hi (by omega) rfl)
theorem ex_fld {t : TypeId} {x : Operand} {f : Nat} (h : (evOp P (trFld P ds t x f) call ls fr s k).run ρ = some r) : QN P ρ E s w (do pure (.value (← Instr.field t (a.eval x) f))) k r := by
  unfold trFld at h
  cases hu : undA P t with
  | none => rw [hu] at h; cases h
  | some d =>
    rw [hu] at h
    cases d <;> try (cases h; done)
    rename_i fs
    simp only at h
    cases hf : fs[f]? with
    | none => rw [hf] at h; cases h
    | some g =>
      rw [hf] at h
      simp only at h
      cases hs : aggT P g.type with
      | none => rw [hs] at h; cases h
      | some n =>
        rw [hs] at h
        obtain ⟨v, hv, h⟩ := run_onArg hres h
        exact .of (q_fld hr.asm h hv (undA_eq hu) hf hs rfl)
theorem ex_ixa {t : TypeId} {x i : Operand} (h : (evOp P (trIxa P ds t x i) call ls fr s k).run ρ = some r) : QN P ρ E s w (do pure (.value (← Instr.indexAt t (a.eval x) (a.eval i)))) k r := by
  unfold trIxa at h
  cases hu : undA P t with
  | none => rw [hu] at h; cases h
  | some d =>
    rw [hu] at h
    cases d <;> try (cases h; done)
    all_goals
      simp only at h
      rename_i e
      cases hs : sizeA P e with
      | none => rw [hs] at h; cases h
      | some z =>
        rw [hs] at h
        obtain ⟨i, hi, hsz⟩ := sizeA_eq hs
        obtain ⟨v, u, hv, huv, h⟩ := run_on2 hres h
        first
          | exact .of (q_ixa_arr hr.asm h hv huv (undA_eq hu) hi hsz)
          | exact .of (q_ixa_slc hr h hv huv (undA_eq hu) hi hsz)
theorem ex_ix {t : TypeId} {x i : Operand} (h : (evOp P (trIx P ds t x i) call ls fr s k).run ρ = some r) : QN P ρ E s w (do pure (.value (← Instr.index t (a.eval x) (a.eval i)))) k r := by
  unfold trIx at h
  cases hu : undA P t with
  | none => rw [hu] at h; cases h
  | some d =>
    rw [hu] at h
    cases d <;> try (cases h; done)
    case string =>
      obtain ⟨v, u, hv, huv, h⟩ := run_on2 hres h
      exact .of (q_ixs hr.asm h hv huv (undA_eq hu))
    case array n e =>
      simp only at h
      cases hs : sizeA P e with
      | none => rw [hs] at h; cases h
      | some z =>
        cases hm : aggT P e with
        | none => rw [hs, hm] at h; cases h
        | some m =>
          rw [hs, hm] at h
          obtain ⟨i, hi, hsz⟩ := sizeA_eq hs
          obtain ⟨v, u, hv, huv, h⟩ := run_on2 hres h
          exact .of (q_ixv hr.asm h hv huv (undA_eq hu) hi hsz hm)
theorem ex_bin {o : BinOp} {t : TypeId} {x y : Operand} (h : (evOp P (trBin P ds o t x y) call ls fr s k).run ρ = some r) :
    QN P ρ E s w (do pure (.value (← (do eqGuard o t x y (a.eval x) (a.eval y); binOp o t (a.eval x) (a.eval y))))) k r := by
  unfold trBin at h
  cases hu : undA P t with
  | none => rw [hu] at h; cases h
  | some d =>
    rw [hu] at h
    have heq : ∀ (hi : ∀ j, d ≠ .int j) (hs : d ≠ .string) (h : (evOp P (eqOpA o t (isConstO x || isConstO y) (trArg ds x) (trArg ds y)) call ls fr s k).run ρ = some r),
        QN P ρ E s w (do pure (.value (← (do eqGuard o t x y (a.eval x) (a.eval y); binOp o t (a.eval x) (a.eval y))))) k r := by
      intro hi hs h
      cases o <;> try (cases h; done)
      case eql =>
        obtain ⟨v, u, hv, huv, h⟩ := run_on2 hres h
        have := q_eq (neg := false) (w := w) (px := x) (py := y) hr h hv huv (by intro hc; simpa using hc) (undA_eq hu) hi hs
        exact .of (by simpa using this)
      case neq =>
        obtain ⟨v, u, hv, huv, h⟩ := run_on2 hres h
        have := q_eq (neg := true) (w := w) (px := x) (py := y) hr h hv huv (by intro hc; simpa using hc) (undA_eq hu) hi hs
        exact .of (by simpa using this)
    cases d with
    | int j =>
      simp only [binOpA] at h
      cases o
      case shl =>
        obtain ⟨v, u, hv, huv, h⟩ := run_on2 hres h
        have := q_shift (left := true) (P := P) (w := w) hr.asm h hv huv t x y
        exact .of (by simpa using this)
      case shr =>
        obtain ⟨v, u, hv, huv, h⟩ := run_on2 hres h
        have := q_shift (left := false) (P := P) (w := w) hr.asm h hv huv t x y
        exact .of (by simpa using this)
      case eql | neq | lss | leq | gtr | geq =>
        obtain ⟨v, u, hv, huv, h⟩ := run_on2 hres h
        exact .of (q_cmp rfl hr.asm h hv huv t x y)
      all_goals
        obtain ⟨v, u, hv, huv, h⟩ := run_on2 hres h
        exact .of (q_arith hr.asm h hv huv t x y)
    | string =>
      obtain ⟨v, u, hv, huv, h⟩ := run_on2 hres h
      exact .of (q_strop hr.asm h hv huv t x y)
    | _ => exact heq (by simp) (by simp) h
theorem ex_un {o : UnOp} {t : TypeId} {x : Operand} (h : (evOp P (.un o (trArg ds x)) call ls fr s k).run ρ = some r) : QN P ρ E s w (do pure (.value (← Op.unary o (a.eval x)))) k r := by
  obtain ⟨v, hv, h⟩ := run_onArg hres h
  exact .of (q_un hr.asm h hv)
theorem ex_mkif {t : TypeId} {x : Operand} (h : (evOp P (trOp P ds (.makeInterface t x)) call ls fr s k).run ρ = some r) : QN P ρ E s w (do pure (.value (← Instr.makeInterface t (a.eval x)))) k r := by
  simp only [trOp] at h
  cases hu : undA P t with
  | none => rw [hu] at h; cases h
  | some d =>
    rw [hu] at h
    have hcon : (∀ ms, d ≠ .interface ms) → P.concrete t = true := by
      intro hd
      unfold Program.concrete
      rw [undA_eq hu]
      cases d <;> first | rfl | exact absurd rfl (hd _)
    cases d <;> try (cases h; done)
    all_goals
      obtain ⟨v, hv, h⟩ := run_onArg hres h
      exact .of (.mk hr.asm (by simp [cv, hv]) (run_makeInterface w t _ (hcon (by simp))) h)
theorem ex_mkfn {fn : Fn} {xs ys : Array Operand} (h : (evOp P (.mkfn fn (trArgs ds xs) (trArgs ds ys)) call ls fr s k).run ρ = some r) :
    QN P ρ E s w (do pure (.value (← Instr.makeFunc fn (xs.map a.eval) (ys.map a.eval)))) k r := by
  obtain ⟨vs, hvs, h⟩ := run_onArgs hres h
  obtain ⟨us, hus, h⟩ := run_onArgs hres h
  exact .of (.mk (u := .func fn (xs.map a.eval) (ys.map a.eval)) hr.asm (by simp only [cv, hvs, hus, Option.bind_some, Option.map_some, Option.some.injEq, Value.func.injEq, true_and]; try simp) (by simp [Instr.makeFunc]) h)
theorem ex_ext {x : Operand} {i : Nat} (h : (evOp P (.ext (trArg ds x) i) call ls fr s k).run ρ = some r) : QN P ρ E s w (do pure (.value (← Instr.extract (a.eval x) i))) k r := by
  obtain ⟨v, hv, h⟩ := run_onArg hres h
  obtain ⟨vs, hvs, h⟩ := run_onSome h
  obtain ⟨y, hy, h⟩ := run_onSome h
  rw [asTup_eq hvs] at hv
  obtain ⟨us, hus, he⟩ := cv_tup hv
  rw [nthL_eq] at hy
  obtain ⟨u, hu, hcu⟩ := cvs_get i hus hy
  exact .of (.mk hr.asm hcu (by rw [he]; simp [Instr.extract, hu]) h)
theorem ex_slice {t : TypeId} {x : Operand} {lo hi mx : Option Operand} (h : (evOp P (trSlice P ds t x lo hi mx) call ls fr s k).run ρ = some r) :
    QN P ρ E s w (do pure (.value (← Instr.sliceAt t (a.eval x) (lo.map a.eval) (hi.map a.eval) (mx.map a.eval)))) k r := by
  have fin : ∀ sk, SlOk P t sk → (evOp P (.slice sk (trArg ds x) (trOpt ds lo) (trOpt ds hi) (trOpt ds mx)) call ls fr s k).run ρ = some r →
      QN P ρ E s w (do pure (.value (← Instr.sliceAt t (a.eval x) (lo.map a.eval) (hi.map a.eval) (mx.map a.eval)))) k r := by
    intro sk hsk h
    obtain ⟨v, hv, h⟩ := run_onArg hres h
    obtain ⟨vl, hvl, h⟩ := run_onOpt hres h
    obtain ⟨vh, hvh, h⟩ := run_onOpt hres h
    obtain ⟨vm, hvm, h⟩ := run_onOpt hres h
    exact .of (q_slice hr.asm h hv hvl hvh hvm hsk)
  unfold trSlice at h
  cases hu : undA P t with
  | none => rw [hu] at h; cases h
  | some d =>
    rw [hu] at h
    have hu' := undA_eq hu
    cases d <;> try (cases h; done)
    case string => exact fin .str hu' h
    case array n e =>
      simp only at h
      cases hs : sizeA P e with
      | none => rw [hs] at h; cases h
      | some z =>
        rw [hs] at h
        obtain ⟨i, hi', hsz⟩ := sizeA_eq hs
        exact fin (.arr n z) ⟨e, i, hi', hsz, .inl hu'⟩ h
    case slice e =>
      simp only at h
      cases hs : sizeA P e with
      | none => rw [hs] at h; cases h
      | some z =>
        rw [hs] at h
        obtain ⟨i, hi', hsz⟩ := sizeA_eq hs
        exact fin (.slc z) ⟨e, i, hu', hi', hsz⟩ h
    case pointer ar =>
      simp only at h
      cases hua : undA P ar with
      | none => rw [hua] at h; cases h
      | some d =>
        rw [hua] at h
        cases d <;> try (cases h; done)
        rename_i n e
        simp only at h
        cases hs : sizeA P e with
        | none => rw [hs] at h; cases h
        | some z =>
          rw [hs] at h
          obtain ⟨i, hi', hsz⟩ := sizeA_eq hs
          exact fin (.arr n z) ⟨e, i, hi', hsz, .inr ⟨ar, hu', undA_eq hua⟩⟩ h
theorem ex_build {t : TypeId} {ps : Array (Nat × Operand)} (h : (evOp P (trBuild P ds t ps) call ls fr s k).run ρ = some r) :
    QN P ρ E s w (do pure (.value (← Instr.build t (ps.map fun (i, x) => (i, a.eval x))))) k r := by
  have hmap : (ps.map fun (i, x) => (i, a.eval x)).toList = ps.toList.map fun x => (x.1, a.eval x.2) := by simp
  unfold trBuild at h
  cases hz : zeroOf P t with
  | none => rw [hz] at h; cases h
  | some z =>
    obtain ⟨i, uz, hi, hiz, hsz, hcz⟩ := zeroOf_eq (ρ := ρ) (E := E) hz
    rw [hz] at h
    cases hu : undA P t with
    | none => rw [hu] at h; cases h
    | some d =>
      rw [hu] at h
      have hu' := undA_eq hu
      have zv : (zeroValue t).run P w = .ok uz w := by simp [zeroValue, typeInfo, hi, hiz]
      cases d <;> try (cases h; done)
      case struct fs =>
        simp only at h
        cases hp : partsS P ds fs ps.toList with
        | none => rw [hp] at h; cases h
        | some l =>
          rw [hp] at h
          simp only at h
          cases hso : sizesOk P fs with
          | false => rw [hso] at h; cases h
          | true =>
            rw [hso] at h
            -- the places of the fields
            have hplaces := run_places (P := P) (w := w) fs hso
            have hpr := partsS_ok (ds := ds) fs ps.toList l hp
            obtain ⟨z', uz', h1, h2, h3⟩ := q_fill hres hpr hcz h
            refine .of (.mk hr.asm (cv_agg_mk h1) ?_ h3)
            rw [show uz.cells.toList.toArray = uz.cells from by simp] at h2
            rw [← hmap] at h2
            have hb : (Instr.build t (ps.map fun (i, x) => (i, a.eval x))).run P w = .ok (.agg uz'.toArray) w := by
              unfold Instr.build
              simp only [Sem.run_bind, zv, run_underlying hu', Result.andThen_ok, hplaces, h2, Sem.run_pure]
            exact hb
      case array n e =>
        simp only at h
        cases hs : sizeA P e with
        | none => rw [hs] at h; cases h
        | some m =>
          rw [hs] at h
          obtain ⟨ie, hie, hsz'⟩ := sizeA_eq hs
          have hpr : PartsR ds (fun i => some (i * m, m)) (partsA ds m ps.toList) ps.toList := by
            generalize ps.toList = pl
            induction pl with
            | nil => exact .nil
            | cons x pl ih => obtain ⟨j, x⟩ := x; exact .cons rfl ih
          obtain ⟨z', uz', h1, h2, h3⟩ := q_fill hres hpr hcz h
          refine .of (.mk hr.asm (cv_agg_mk h1) ?_ h3)
          simp only [Instr.build, Sem.run_bind, zv, run_underlying hu', Result.andThen_ok, hmap, sizeOf, typeInfo, run_program, hie, Sem.run_pure, hsz']
          rw [show uz.cells.toList.toArray = uz.cells from by simp] at h2
          simp [h2]
theorem ex_assert {x : Operand} {xt t : TypeId} {ok : Bool} (h : (evOp P (trAssert P ds x t ok) call ls fr s k).run ρ = some r) :
    QN P ρ E s w (do pure (.value (← Instr.typeAssert (a.eval x) xt t ok))) k r := by
  unfold trAssert at h
  cases hu : undA P t with
  | none => rw [hu] at h; cases h
  | some d =>
    rw [hu] at h
    have hu' := undA_eq hu
    have hcase : (∀ ms, d ≠ .interface ms) → (evOp P (match zeroVal P t with | some z => .assertT t z ok (trArg ds x) | none => .no 327) call ls fr s k).run ρ = some r →
        QN P ρ E s w (do pure (.value (← Instr.typeAssert (a.eval x) xt t ok))) k r := by
      intro hd h
      cases hz : zeroVal P t with
      | none => rw [hz] at h; cases h
      | some z =>
        rw [hz] at h
        obtain ⟨i, uz, hi, hiz, hcz⟩ := zeroVal_eq (ρ := ρ) (E := E) hz
        obtain ⟨v, hv, h⟩ := run_onArg hres h
        exact .of (q_assertT hr.asm h hv hu' hd hcz hi hiz)
    cases d with
    | interface ms =>
      simp only at h
      cases hz : zeroVal P t with
      | none => rw [hz] at h; cases h
      | some z =>
        rw [hz] at h
        simp only at h
        cases hzn : z.isNil 5 with
        | false => rw [hzn] at h; cases h
        | true =>
          rw [hzn] at h
          obtain ⟨i, uz, hi, hiz, hcz⟩ := zeroVal_eq (ρ := ρ) (E := E) hz
          rw [isNil5 hzn] at hcz
          simp at hcz
          obtain ⟨v, hv, h⟩ := run_onArg hres h
          exact .of (q_assertI hr.asm h hv hu' (fun j hj => by rw [hi] at hj; cases hj; rw [hiz, hcz]) (by rw [hi]; rfl))
    | _ => exact hcase (by simp) h
theorem ex_lookup {t : TypeId} {x i : Operand} {ok : Bool} (h : (evOp P (trLookup P ds t x i ok) call ls fr s k).run ρ = some r) :
    QN P ρ E s w (do pure (.value (← Instr.lookup t (a.eval x) (a.eval i) ok))) k r := by
  unfold trLookup at h
  cases hu : undA P t with
  | none => rw [hu] at h; cases h
  | some d =>
    rw [hu] at h
    cases d <;> try (cases h; done)
    rename_i kt et
    simp only at h
    cases hz : zeroVal P et with
    | none => rw [hz] at h; cases h
    | some z =>
      rw [hz] at h
      obtain ⟨ii, uz, hi, hiz, hcz⟩ := zeroVal_eq (ρ := ρ) (E := E) hz
      obtain ⟨v, u, hv, huv, h⟩ := run_on2 hres h
      exact .of (q_lookup hr h hv huv (undA_eq hu) hcz hi hiz)
end
end Go.Ab
end

section
namespace Go.Ab
variable {β : Type} {P : Program} {ρ : Val} {E : Mem} {s : St} {w : World} {r : β} {k : Kv β}
variable {ds : List (Option Nat)} {ls : List AV} {fr : Fr} {a : Act} {call : CallT β}

section
variable (hres : Res ρ E ds ls fr a) (hr : HRel ρ E s w)
include hres hr
theorem ex_conv {st dt : TypeId} {x : Operand} (hc : (trConv P ds st dt x).cls = 0) (h : (evOp P (trConv P ds st dt x) call ls fr s k).run ρ = some r) : QN P ρ E s w (do pure (.value (← convert st dt (a.eval x)))) k r := by
  unfold trConv at h hc
  cases hs : undA P st with
  | none => rw [hs] at h; cases h
  | some d1 =>
    cases hd : undA P dt with
    | none => rw [hs, hd] at h; cases d1 <;> cases h
    | some d2 =>
      rw [hs, hd] at h hc
      have hs' := undA_eq hs
      have hd' := undA_eq hd
      cases d1 with
      | int j =>
        cases d2 <;> try (cases h; done)
        · obtain ⟨v, hv, h⟩ := run_onArg hres h
          exact .of (q_cvInt hr.asm h hv hs' hd')
        · obtain ⟨v, hv, h⟩ := run_onArg hres h
          exact .of (q_cvR2s hr.asm h hv hs' hd')
      | string =>
        cases d2 <;> try (cases h; done)
        · obtain ⟨v, hv, h⟩ := run_onArg hres h
          exact .of (q_cvStr hr.asm h hv hs' hd')
        · rename_i e
          simp only at h hc
          cases hu : undA P e with
          | none => rw [hu] at h; cases h
          | some d =>
            cases hi : infoA P e with
            | none => rw [hu, hi] at h; cases d <;> first | cases h | (rename_i k; cases k <;> cases h)
            | some i =>
              rw [hu, hi] at h hc
              cases d <;> try (cases h; done)
              rename_i kk
              cases kk <;> first | (cases h; done) | cases hc
      | slice e =>
        cases d2 <;> try (cases h; done)
        simp only at h hc
        cases hu : undA P e with
        | none => rw [hu] at h; cases h
        | some d =>
          rw [hu] at h
          cases d <;> try (cases h; done)
          rename_i kk
          cases kk <;> try (cases h; done)
          obtain ⟨v, hv, h⟩ := run_onArg hres h
          exact .of (q_cvB2s hr h hv hs' (undA_eq hu) hd')
      | _ => cases h
end
theorem lenKind_ok {t : TypeId} {lk : LenK} (h : lenKind P t = some lk) : LenOk P t lk := by
  unfold lenKind at h
  cases hu : undA P t with
  | none => rw [hu] at h; cases h
  | some d =>
    rw [hu] at h
    have hu' := undA_eq hu
    cases d <;> try (cases h; done)
    case string => cases h; exact hu'
    case array n e => cases h; exact .inl ⟨e, hu'⟩
    case slice e => cases h; exact ⟨e, hu'⟩
    case map a b => cases h; exact ⟨a, b, hu'⟩
    case pointer ar =>
      simp only at h
      cases hua : undA P ar with
      | none => rw [hua] at h; cases h
      | some d =>
        rw [hua] at h
        cases d <;> try (cases h; done)
        cases h
        exact .inr ⟨ar, _, hu', undA_eq hua⟩
theorem not_quiet {o : AOp} (h2 : o.cls = 2 ∨ ∃ n, o = .no n) (hc : o.cls = 0) (h : (evOp P o call ls fr s k).run ρ = some r) : False := by
  rcases h2 with h2 | ⟨n, rfl⟩
  · rw [h2] at hc; cases hc
  · cases h
theorem trAppend_cls (ds : List (Option Nat)) (t u : TypeId) (x y : Operand) : (trAppend P ds t u x y).cls = 2 ∨ ∃ n, trAppend P ds t u x y = .no n := by
  unfold trAppend
  split
  · unfold appOp
    split
    · exact .inl rfl
    · exact .inr ⟨_, rfl⟩
  · exact .inr ⟨_, rfl⟩
theorem trCopy_cls (ds : List (Option Nat)) (t : TypeId) (x y : Operand) : (trCopy P ds t x y).cls = 2 ∨ ∃ n, trCopy P ds t x y = .no n := by
  unfold trCopy
  split
  · exact .inl rfl
  · exact .inr ⟨_, rfl⟩
theorem trDelete_cls (ds : List (Option Nat)) (t : TypeId) (x y : Operand) : (trDelete P ds t x y).cls = 2 ∨ ∃ n, trDelete P ds t x y = .no n := by
  unfold trDelete
  split
  · exact .inl rfl
  · exact .inr ⟨_, rfl⟩
section
variable (hres : Res ρ E ds ls fr a) (hr : HRel ρ E s w)
include hres hr
/-- the quiet built-in functions -/
theorem ex_builtin {b : Builtin} {args : Array Operand} {ts : Array TypeId} {ty : TypeId} {cs : Array Bool} (hc : (trBuiltin P ds b args ts).cls = 0) (h : (evOp P (trBuiltin P ds b args ts) call ls fr s k).run ρ = some r) :
    QN P ρ E s w (builtin b ts ty cs (args.map a.eval)) k r := by
  obtain ⟨al⟩ := args
  obtain ⟨tl⟩ := ts
  unfold trBuiltin at h hc
  simp only at h hc
  split at h
  · -- len
    rename_i x t
    cases hk : lenKind P t with
    | none => rw [hk] at h; cases h
    | some lk =>
      rw [hk] at h
      obtain ⟨v, hv, h⟩ := run_onArg hres h
      have := q_len hr h hv (lenKind_ok hk) ty
      exact QN.of (by simpa using this)
  · -- cap
    rename_i x t
    cases hk : lenKind P t with
    | none => rw [hk] at h; cases h
    | some lk =>
      rw [hk] at h
      cases lk <;> try (cases h; done)
      · obtain ⟨v, hv, h⟩ := run_onArg hres h
        have := q_cap (n := some _) (w := w) hr.asm h hv (lenKind_ok hk) ty
        exact QN.of (by simpa using this)
      · obtain ⟨v, hv, h⟩ := run_onArg hres h
        have := q_cap (n := none) (w := w) hr.asm h hv (lenKind_ok hk) ty
        exact QN.of (by simpa using this)
  · -- append: no quiet one
    exact (not_quiet (trAppend_cls ..) hc h).elim
  · -- copy
    exact (not_quiet (trCopy_cls ..) hc h).elim
  · -- min
    rename_i x l
    have h' : (onArg (trArg ds x) ls fr fun x => onArgs (l.map (trArg ds)) ls fr fun l => mmL false l x s k).run ρ = some r := h
    obtain ⟨v, hv, h⟩ := run_onArg hres h'
    obtain ⟨vs, hvs, h⟩ := run_onArgsL hres h
    obtain ⟨v', u', s', hm, hv', hrun, h⟩ := q_mmL (mx := false) (P := P) hr.asm h hv hvs
    refine ⟨v', u', s', hm, hv', ?_, h⟩
    have := hrun w
    simp only [Bool.false_eq_true, if_false] at this
    simp [builtin, Builtin.min_, this]
  · -- max
    rename_i x l
    have h' : (onArg (trArg ds x) ls fr fun x => onArgs (l.map (trArg ds)) ls fr fun l => mmL true l x s k).run ρ = some r := h
    obtain ⟨v, hv, h⟩ := run_onArg hres h'
    obtain ⟨vs, hvs, h⟩ := run_onArgsL hres h
    obtain ⟨v', u', s', hm, hv', hrun, h⟩ := q_mmL (mx := true) (P := P) hr.asm h hv hvs
    refine ⟨v', u', s', hm, hv', ?_, h⟩
    have := hrun w
    simp only [if_true] at this
    simp [builtin, Builtin.max_, this]
  · -- delete
    exact (not_quiet (trDelete_cls ..) hc h).elim
  · cases h
end

/-! ### frames that are rounds, or are not -/
/-- the fence that asks nothing, in a round or not -/
def Fw : Option Nat → Fence | none => .wide | some l => Fence.wide.inRound l
theorem fw_round (rd : Option Nat) : (Fw rd).round = rd := by cases rd <;> rfl
theorem fw_fn (rd : Option Nat) (f : FuncId) : (Fw rd).fn f := by cases rd <;> exact trivial
theorem fw_depth (rd : Option Nat) : (Fw rd).depth = none := by cases rd <;> rfl
theorem fw_room (rd : Option Nat) (n : Nat) : (Fw rd).room n := by cases rd <;> exact room_wide n
theorem fw_fenced (rd : Option Nat) (P : Program) : Machine.fenced P (Fw rd) = Machine.fenced P Fence.wide := by cases rd <;> rfl
theorem fw_calls {rd : Option Nat} {n : Nat} {f : FuncId} {args : Array Value} {w : World} {R : Ending → World → Prop} (h : Calls P f args w R) : CallsIn (Fw rd) n P f args w R := by
  have h2 : CallsIn Fence.wide n P f args w R := callsIn_wide.2 h
  cases rd <;> exact h2
/-! ### what every operation comes to -/
/-- what an operation's outcome yields -/
def YieldsR (P : Program) (x : Result Next) (R : Value → World → Prop) : Prop :=
  match x with
  | .ok (.value u) w' => R u w'
  | .ok .skip w' => R undef w'
  | .ok (.enter f args) w' => Calls P f args w' fun e w'' => ∃ u, e = .returned u ∧ R u w''
  | .ok (.round l f tmps assign body) w' => RoundIn Fence.wide 0 P l f tmps assign body w' fun e w'' => ∃ u, e = .returned u ∧ R u w''
  | _ => False
/-- the operation yields a value in a world, as R says -/
def Yields (P : Program) (o : Oper) (a : Act) (w : World) (R : Value → World → Prop) : Prop := YieldsR P ((execOp a.eval o).run P w) R
theorem fw_roundIn {rd : Option Nat} {n : Nat} {l : Nat} {f : FuncId} {tmps : Array Value} {assign body : Code} {w : World} {R : Ending → World → Prop} (h : RoundIn Fence.wide 0 P l f tmps assign body w R) : RoundIn (Fw rd) n P l f tmps assign body w R := by
  have h2 : RoundIn Fence.wide n P l f tmps assign body w R := ⟨h.1, fun c cs _ => h.2 c cs (room_wide _)⟩
  cases rd <;> exact h2
theorem Yields.wpIn {rd : Option Nat} {n : Nat} {o : Oper} {R : Value → World → Prop} {K : Act → World → Prop} {Q : Exit → Act → World → Prop} (hnd : rd = none ∨ ∀ c, o.op ≠ .defer c) (h : Yields P o a w R) (hK : ∀ u w', R u w' → K (a.put o.dst u) w') : o.wpIn (Fw rd) n P a w K Q := by
  unfold Yields at h
  unfold Oper.wpIn
  refine ⟨fun f _ => fw_fn rd f, ?_⟩
  have hs : o.semAt (Fw rd).round a.eval = execOp a.eval o := by
    rw [fw_round]
    rcases hnd with rfl | hnd
    · rfl
    · exact Oper.semAt_eq rd a.eval o hnd
  rw [hs]
  generalize (execOp a.eval o).run P w = x at h
  cases x with
  | halt _ _ => exact h.elim
  | ok n' w' =>
    cases n' <;> try (exact (h : False).elim)
    case value u => exact hK _ _ h
    case skip => exact hK _ _ h
    case enter f args =>
      rw [Oper.uponIn_enter]
      refine ⟨fun hd => (by rw [fw_depth] at hd; cases hd), fw_calls (Calls.mono (h : Calls P f args w' _) ?_)⟩
      rintro e w'' ⟨u, rfl, hu⟩
      exact hK _ _ hu
    case round l f tmps assign body =>
      rw [Oper.uponIn_round]
      refine ⟨fun hd => (by rw [fw_depth] at hd; cases hd), fw_roundIn (RoundIn.mono (h : RoundIn Fence.wide 0 P l f tmps assign body w' _) ?_)⟩
      rintro e w'' ⟨u, rfl, hu⟩
      exact hK _ _ hu
theorem Yields.round {o : Oper} {l : Nat} {f : FuncId} {tmps : Array Value} {assign body : Code} {R : Value → World → Prop} (h : (execOp a.eval o).run P w = .ok (.round l f tmps assign body) w) (hR : RoundIn Fence.wide 0 P l f tmps assign body w fun e w' => ∃ u, e = .returned u ∧ R u w') : Yields P o a w R := by
  unfold Yields; rw [h]; exact hR
theorem Yields.value {o : Oper} {w' : World} {u : Value} {R : Value → World → Prop} (h : (execOp a.eval o).run P w = .ok (.value u) w') (hR : R u w') : Yields P o a w R := by
  unfold Yields; rw [h]; exact hR
theorem Yields.skip {o : Oper} {w' : World} {R : Value → World → Prop} (h : (execOp a.eval o).run P w = .ok .skip w') (hR : R undef w') : Yields P o a w R := by
  unfold Yields; rw [h]; exact hR
theorem Yields.enter {o : Oper} {f : FuncId} {args : Array Value} {R : Value → World → Prop} (h : (execOp a.eval o).run P w = .ok (.enter f args) w) (hR : Calls P f args w fun e w' => ∃ u, e = .returned u ∧ R u w') : Yields P o a w R := by
  unfold Yields; rw [h]; exact hR
/-- the step of an operation -/
def ER (P : Program) (ρ : Val) (E : Mem) (s : St) (w : World) (o : Oper) (a : Act) (k : Kv β) (r : β) : Prop :=
  Yields P o a w fun u w' => ∃ v s' E', cv ρ E' v = some u ∧ Step E s w E' s' w' ∧ HRel ρ E' s' w' ∧ (k v s').run ρ = some r
theorem ER.quiet {o : Oper} (hr : HRel ρ E s w) (h : QN P ρ E s w (execOp a.eval o) k r) : ER P ρ E s w o a k r := by
  obtain ⟨v, u, s', hm, hv, hrun, hk⟩ := h
  exact .value hrun ⟨v, s', E, hv, .more hm, hr.more hm, hk⟩
/-- an operation that makes one block -/
def AN (P : Program) (ρ : Val) (E : Mem) (s : St) (m : Sem Next) (k : Kv β) (r : β) : Prop :=
  ∃ v b s1, More ρ s s1 ∧ Live b ∧ (k v (s1.new b)).run ρ = some r ∧ ∀ w : World, ∃ obj u, m.run P w = .ok (.value u) (w.alloc obj) ∧
    ∀ E', Mem.Le E E' → E'.blk s.next = some (w.heap.size, 0) → cv ρ E' v = some u ∧ ∀ w' : World, w'.heap[w.heap.size]? = some obj → BRel ρ E' s.next b w'
theorem ER.alloc {o : Oper} (hr : HRel ρ E s w) (h : AN P ρ E s (execOp a.eval o) k r) : ER P ρ E s w o a k r := by
  obtain ⟨v, b, s1, hm, _, hk, hw⟩ := h
  obtain ⟨obj, u, hrun, hE⟩ := hw w
  have hr1 := hr.more hm
  have hfree := free_next hr1
  obtain ⟨hcv, hb⟩ := hE (E.add s1.next w.heap.size 0) (Mem.le_addAt hfree) (by rw [hm.next]; simp [Mem.add])
  have hb' := hb (w.alloc obj) (heap_alloc_new w obj)
  rw [← hm.next] at hb'
  obtain ⟨h1, h2⟩ := hr1.alloc b obj 0 hb'
  exact .value hrun ⟨v, _, _, hcv, (Step.more hm).trans h2, h1, hk⟩
theorem cells_new {E' : Mem} {p : Pos} {c : Nat} {cs : List AV} {us : List Value} {t : TypeId} {w' : World} (hb : E'.blk p = some (c, 0)) (hc : cvs ρ E' cs = some us) (hw : w'.heap[c]? = some (.cells us.toArray t (0, 0))) :
    BRel ρ E' p (.cells cs true) w' :=
  ⟨c, 0, us, [], [], t, (0, 0), hb, hc, by simpa using hw, rfl, fun i _ _ => by simp, fun _ => rfl⟩
section
variable (hres : Res ρ E ds ls fr a) (ha : AsmOk ρ s.asm)
include hres ha
theorem an_alloc {e : TypeId} (h : (evOp P (trOp P ds (.alloc e)) call ls fr s k).run ρ = some r) : AN P ρ E s (do pure (.value (← Instr.alloc e true (.tuple #[])))) k r := by
  simp only [trOp] at h
  cases hz : zeroOf P e with
  | none => rw [hz] at h; cases h
  | some z =>
    rw [hz] at h
    obtain ⟨i, uz, hi, hiz, hsz, _⟩ := zeroOf_eq (ρ := ρ) (E := E) hz
    refine ⟨_, _, s, .refl ha, by simp [Live], h, fun w => ⟨.cells uz.cells e, .pointer (some ⟨w.heap.size, 0, none⟩), ?_, fun E' hE hb => ⟨?_, fun w' hw' => ?_⟩⟩⟩
    · simp [Instr.alloc, zeroValue, typeInfo, hi, hiz, newVar, newRow, World.alloc_eq]
    · rw [cv_ptr_mk hb]
    · obtain ⟨_, uz', hi', hiz', _, hcz⟩ := zeroOf_eq (ρ := ρ) (E := E') hz
      rw [hi] at hi'; cases hi'
      rw [hiz] at hiz'; cases hiz'
      exact cells_new hb hcz (by simpa using hw')
theorem an_box {e : TypeId} {x : Operand} (h : (evOp P (.box (trArg ds x)) call ls fr s k).run ρ = some r) : AN P ρ E s (do pure (.value (← Instr.box e (a.eval x)))) k r := by
  obtain ⟨v, hv, h⟩ := run_onArg hres h
  refine ⟨_, _, s, .refl ha, by simp [Live], h, fun w => ⟨.cells (a.eval x).cells e, .pointer (some ⟨w.heap.size, 0, none⟩), ?_, fun E' hE hb => ⟨?_, fun w' hw' => ?_⟩⟩⟩
  · simp [Instr.box, newVar, newRow, World.alloc_eq]
  · rw [cv_ptr_mk hb]
  · exact cells_new hb (cvs_mono hE (cells_cv hv)) (by simpa using hw')
theorem an_map {t : TypeId} (h : (evOp P .mkmap call ls fr s k).run ρ = some r) : AN P ρ E s (do pure (.value (← Instr.makeMap t none))) k r := by
  refine ⟨_, _, s, .refl ha, by simp [Live], h, fun w => ⟨.map #[] 0, .map (some w.heap.size), ?_, fun E' hE hb => ⟨?_, fun w' hw' => ?_⟩⟩⟩
  · simp [Instr.makeMap, World.alloc_eq]
  · simp [cv, hb]
  · exact ⟨_, 0, [], hb, rfl, by simpa using hw'⟩
end
end Go.Ab
end

section
namespace Go.Ab
variable {β : Type} {P : Program} {ρ : Val} {E : Mem} {s : St} {w : World} {r : β} {k : Kv β}
variable {ds : List (Option Nat)} {ls : List AV} {fr : Fr} {a : Act} {call : CallT β}

/-! ### rows of zeros -/
def repV (z : List Value) : Nat → List Value
  | 0 => []
  | n + 1 => z ++ repV z n
theorem cvs_rep {z : List AV} {uz : List Value} (h : cvs ρ E z = some uz) : ∀ n, cvs ρ E (repL z n) = some (repV uz n)
  | 0 => by simp [repL, repV, cvs]
  | n + 1 => by
    have : repL z (n + 1) = z ++ repL z n := rfl
    rw [this]
    exact cvs_append h (cvs_rep h n)
theorem repV_length (z : List Value) : ∀ n, (repV z n).length = n * z.length
  | 0 => by simp [repV]
  | n + 1 => by simp [repV, repV_length z n, Nat.succ_mul]; omega
theorem repV_nil (n : Nat) : repV [] n = [] := List.eq_nil_of_length_eq_zero (by simp [repV_length])
theorem repV_get (z : List Value) : ∀ n i, i < n * z.length → (repV z n)[i]? = z[i % z.length]?
  | 0, i, h => by simp at h
  | n + 1, i, h => by
    simp only [repV]
    rw [List.getElem?_append]
    by_cases hi : i < z.length
    · rw [if_pos hi, Nat.mod_eq_of_lt hi]
    · rw [if_neg hi, repV_get z n _ (by rw [Nat.succ_mul] at h; omega)]
      congr 1
      exact (Nat.mod_eq_sub_mod (by omega)).symm
theorem range_rep (z : Array Value) (n : Nat) : (Array.range (n * z.size)).map (fun i => z[i % z.size]!) = (repV z.toList n).toArray := by
  apply Array.ext
  · simp [repV_length]
  · intro i h1 h2
    have hi : i < n * z.toList.length := by simpa using h1
    have hz : i % z.size < z.size := Nat.mod_lt _ (by
      rcases Nat.eq_zero_or_pos z.size with h | h
      · rw [show z.toList.length = z.size from rfl, h] at hi; omega
      · exact h)
    have := repV_get z.toList n i hi
    simp only [List.getElem_toArray]
    have h3 : i < (repV z.toList n).length := by simpa using h2
    rw [List.getElem?_eq_getElem h3] at this
    simp only [Array.getElem_map, Array.getElem_range]
    rw [getElem!_pos z _ hz]
    rw [List.getElem?_eq_getElem (by simpa using hz)] at this
    simpa using this.symm
theorem range_rep' (z : Array Value) (n : Nat) (hn : n * z.size = 0) : (#[] : Array Value) = (repV z.toList n).toArray := by
  rcases Nat.mul_eq_zero.1 hn with h | h
  · subst h; rfl
  · have : z.toList = [] := by simpa using h
    rw [this, repV_nil]
theorem zero_size {e : TypeId} {i : TypeInfo} {uz : Value} {z : List AV} (h : cvs ρ E z = some uz.cells.toList) : uz.cells.size = z.length := by
  have := cvs_length h; simpa using this
theorem partsA_ok (m : Nat) : ∀ pl : List (Nat × Operand), PartsR ds (fun i => some (i * m, m)) (partsA ds m pl) pl
  | [] => .nil
  | (_, _) :: l => .cons rfl (partsA_ok m l)
theorem sliceE_eq {t e : TypeId} (h : sliceE P t = some e) : P.underlying t = some (.slice e) := by
  unfold sliceE at h
  split at h
  · rename_i hu
    cases h
    exact undA_eq hu
  · cases h
theorem cv_slc_ex {E' : Mem} {p : Pos} {c o len n : Nat} (hb : E'.blk p = some (c, o)) : cv ρ E' (.slc p 0 len (.ex n)) = some (.slice (some ⟨c, o, none⟩) len n) := by
  simp [cv, hb, capOf]
section
variable (hres : Res ρ E ds ls fr a) (ha : AsmOk ρ s.asm)
include hres ha
theorem an_bslice {t : TypeId} {len : Nat} {ps : Array (Nat × Operand)} (h : (evOp P (trBSlice P ds t len ps) call ls fr s k).run ρ = some r) :
    AN P ρ E s (do pure (.value (← Instr.buildSlice t len (ps.map fun (i, x) => (i, a.eval x))))) k r := by
  have hmap : (ps.map fun (i, x) => (i, a.eval x)).toList = ps.toList.map fun x => (x.1, a.eval x.2) := by simp
  unfold trBSlice at h
  cases hu : undA P t with
  | none => rw [hu] at h; cases h
  | some d =>
    rw [hu] at h
    cases d <;> try (cases h; done)
    rename_i e
    simp only at h
    cases hz : zeroOf P e with
    | none => rw [hz] at h; cases h
    | some z =>
      rw [hz] at h
      simp only at h
      obtain ⟨i, uz, hi, hiz, hsz, hcz⟩ := zeroOf_eq (ρ := ρ) (E := E) hz
      have hzs := zero_size (e := e) (i := i) hcz
      cases hb : Nat.ble (len * z.length) 16777216 with
      | false => rw [hb] at h; cases h
      | true =>
        rw [hb] at h
        have h' : (fillA (partsA ds z.length ps.toList) ls fr (repL z len) fun z => k (.slc s.next 0 len (.ex len)) (s.new (.cells z true))).run ρ = some r := h
        obtain ⟨z', uz', h1, h2, h3⟩ := q_fill hres (partsA_ok z.length ps.toList) (cvs_rep hcz len) h'
        refine ⟨_, _, s, .refl ha, by simp [Live], h3, fun w => ⟨.cells uz'.toArray e, .slice (some ⟨w.heap.size, 0, none⟩) len len, ?_, fun E' hE hb' => ⟨?_, fun w' hw' => ?_⟩⟩⟩
        · have hle : ¬ len * z.length > 16777216 := by have := Nat.le_of_ble_eq_true hb; omega
          rw [← hmap] at h2
          have hrun : (Instr.buildSlice t len (ps.map fun (i, x) => (i, a.eval x))).run P w = .ok (.slice (some ⟨w.heap.size, 0, none⟩) len len) (w.alloc (.cells uz'.toArray e)) := by
            generalize (ps.map fun (i, x) => (i, a.eval x)) = L at h2 ⊢
            obtain ⟨L⟩ := L
            by_cases hn : len * z.length = 0
            · rw [← range_rep' uz.cells len (by rw [hzs]; exact hn)] at h2
              simp at h2
              simp [Instr.buildSlice, run_underlying (undA_eq hu), sizeOf, typeInfo, hi, hsz, hn, h2, newRow, World.alloc_eq, show Array.range 0 = #[] from rfl]
            · rw [← range_rep uz.cells len, hzs] at h2
              simp at h2
              have hle' : ¬ 16777216 < len * z.length := hle
              simp [Instr.buildSlice, run_underlying (undA_eq hu), sizeOf, typeInfo, hi, hsz, hn, hle', zeroValue, hiz, hzs, h2, newRow, World.alloc_eq, show Array.range 0 = #[] from rfl]
          simp [hrun]
        · rw [cv_slc_ex hb']
        · exact cells_new hb' (cvs_mono hE h1) (by simpa using hw')
theorem an_mksl {t : TypeId} {l c : Operand} (h : (evOp P (trMkSl P ds t l c) call ls fr s k).run ρ = some r) :
    AN P ρ E s (do pure (.value (← Instr.makeSlice t (a.eval l) (a.eval c)))) k r := by
  unfold trMkSl at h
  cases hu : undA P t with
  | none => rw [hu] at h; cases h
  | some d =>
    rw [hu] at h
    cases d <;> try (cases h; done)
    rename_i e
    simp only at h
    cases hi0 : infoA P e with
    | none => rw [hi0] at h; cases h
    | some i =>
    cases hz : zeroOf P e with
    | none => rw [hi0, hz] at h; cases h
    | some z =>
      rw [hi0, hz] at h
      simp only at h
      obtain ⟨i', uz, hi, hiz, hsz, hcz⟩ := zeroOf_eq (ρ := ρ) (E := E) hz
      have := infoA_eq hi0
      rw [hi] at this; cases this
      have hzs := zero_size (e := e) (i := i) hcz
      obtain ⟨vl, vc, hvl, hvc, h⟩ := run_on2 hres h
      rcases run_ifB h with ⟨_, h⟩ | ⟨_, h⟩
      case inl =>
        obtain ⟨nl, hnl, h⟩ := run_onSome h
        obtain ⟨ec, hec, h⟩ := run_onSome h
        obtain ⟨kd, hkd, h⟩ := run_onSome h
        obtain ⟨hg, hk0⟩ := run_guardB h
        clear h
        simp only [Bool.and_eq_true, Nat.ble_eq] at hg
        obtain ⟨⟨⟨⟨g0, g1⟩, g2⟩, g3⟩, g4⟩ := hg
        have hnl0 : nl = 0 := by simpa using g0
        subst hnl0
        have hz1 : i.size = 1 := by simpa using g1
        have i2 := leqK_ok ha g2
        have i3 := leqK_ok ha g3
        simp only [IE.den] at i2 i3
        obtain ⟨jl, ejl⟩ := asNat_eq hnl
        rw [ejl] at hvl
        rw [asIE_cv hec] at hvc
        simp only [cv_int, Option.some.injEq] at hvl hvc
        have hzk : z = [.int kd (.ofNat 0)] := by
          unfold zeroK at hkd
          split at hkd
          · cases hkd; rfl
          · cases hkd
        obtain ⟨nc, hnc⟩ : ∃ nc, nc = (ec.e.den ρ).toNat := ⟨_, rfl⟩
        have hncI : ec.e.den ρ = (nc : Int) := by omega
        refine ⟨_, _, s, .refl ha, by simp [Live], hk0, fun w => ⟨.cells (repV uz.cells.toList nc).toArray e, .slice (some ⟨w.heap.size, 0, none⟩) 0 nc, ?_, fun E' hE hb' => ⟨?_, fun w' hw' => ?_⟩⟩⟩
        · have hx := range_rep uz.cells nc
          rw [hzs] at hx
          have wl : IntKind.i64.wrap (0 : Int) = (0 : Int) := by decide
          have wc : IntKind.i64.wrap (nc : Int) = (nc : Int) := by rw [IntKind.wrap_i64]; omega
          have hm : nc * i.bytes ≤ 1000000000 := by
            calc nc * i.bytes ≤ 1000000 * 1000 := Nat.mul_le_mul (by omega) g4
              _ = 1000000000 := rfl
          have hmi : (i.bytes : Int) * (nc : Int) ≤ 1000000000 := by
            rw [Int.mul_comm, ← Int.natCast_mul]; exact Int.ofNat_le.2 hm
          have n1 : ¬ ((nc : Int) < 0) := by omega
          have n2 : ¬ (281474976710656 < (i.bytes : Int) * (nc : Int)) := by omega
          have n4' : ¬ (nc < 0) := by omega
          have n5 : ¬ (140737488355328 < nc * i.bytes) := by omega
          have hrun : (Instr.makeSlice t (a.eval l) (a.eval c)).run P w = .ok (.slice (some ⟨w.heap.size, 0, none⟩) 0 nc) (w.alloc (.cells (repV uz.cells.toList nc).toArray e)) := by
            rw [← hvl, ← hvc, hncI]
            by_cases hn : nc * z.length = 0
            · have hx' := range_rep' uz.cells nc (by rw [hzs]; exact hn)
              rw [← hx']
              simp [Instr.makeSlice, run_underlying (undA_eq hu), asInt, asIntOf, typeInfo, hi, sizeOf, wl, wc, n1, n2, n4', n5, hn, newRow, askRoom, roomBytes, hsz, World.alloc_eq, show Array.range 0 = #[] from rfl]
            · rw [← hx]
              simp [Instr.makeSlice, run_underlying (undA_eq hu), asInt, asIntOf, typeInfo, hi, sizeOf, wl, wc, n1, n2, n4', n5, hn, newRow, askRoom, roomBytes, hsz, World.alloc_eq, zeroValue, hiz, hzs]
          simp [hrun]
        · have := cv_sslc_mk (ρ := ρ) (E := E') (lo := .c 0) (hi := .c 0) (cp := some ec.e) hb' (by simp [IE.den]) (by simp [IE.den]) (by simp [IE.den])
          rw [this]
          simp [IE.den, capE, hnc]
        · refine ⟨w.heap.size, 0, [], repV uz.cells.toList nc, e, (0, 0), hb', ?_, rfl, ?_, fun i _ _ h => by simp at h⟩
          · rw [hw']; simp [IE.sden]
          · have hzl : uz.cells.size = 1 := by rw [hzs, ← hsz, hz1]
            simp [IE.sden, capE, hnc, repV_length, hzl]
      case inr =>
      obtain ⟨nl, hnl, h⟩ := run_onSome h
      obtain ⟨nc, hnc, h⟩ := run_onSome h
      obtain ⟨hg, h⟩ := run_guardB h
      simp only [Bool.and_eq_true, Nat.ble_eq] at hg
      obtain ⟨⟨⟨hg1, hg2⟩, hg3⟩, -⟩ := hg
      obtain ⟨jl, ejl⟩ := asNat_eq hnl
      obtain ⟨jc, ejc⟩ := asNat_eq hnc
      rw [ejl] at hvl
      rw [ejc] at hvc
      simp only [cv_int, Option.some.injEq] at hvl hvc
      refine ⟨_, _, s, .refl ha, by simp [Live], h, fun w => ⟨.cells (repV uz.cells.toList nc).toArray e, .slice (some ⟨w.heap.size, 0, none⟩) nl nc, ?_, fun E' hE hb' => ⟨?_, fun w' hw' => ?_⟩⟩⟩
      · have hx := range_rep uz.cells nc
        rw [hzs] at hx
        have wl : IntKind.i64.wrap (nl : Int) = (nl : Int) := by rw [IntKind.wrap_i64]; omega
        have wc : IntKind.i64.wrap (nc : Int) = (nc : Int) := by rw [IntKind.wrap_i64]; omega
        have hm : nc * i.bytes ≤ 1000000000 := hg2
        have hmi : (i.bytes : Int) * (nc : Int) ≤ 1000000000 := by
          rw [Int.mul_comm, ← Int.natCast_mul]; exact Int.ofNat_le.2 hm
        have n1 : ¬ ((nc : Int) < 0) := by omega
        have n2 : ¬ (281474976710656 < (i.bytes : Int) * (nc : Int)) := by omega
        have n3 : ¬ ((nl : Int) < 0) := by omega
        have n4 : ¬ ((nc : Int) < (nl : Int)) := by omega
        have n4' : ¬ (nc < nl) := by omega
        have n5 : ¬ (140737488355328 < nc * i.bytes) := by omega
        have hrun : (Instr.makeSlice t (a.eval l) (a.eval c)).run P w = .ok (.slice (some ⟨w.heap.size, 0, none⟩) nl nc) (w.alloc (.cells (repV uz.cells.toList nc).toArray e)) := by
          rw [← hvl, ← hvc]
          by_cases hn : nc * z.length = 0
          · have hx' := range_rep' uz.cells nc (by rw [hzs]; exact hn)
            rw [← hx']
            simp [Instr.makeSlice, run_underlying (undA_eq hu), asInt, asIntOf, typeInfo, hi, sizeOf, wl, wc, n1, n2, n3, n4, n4', n5, hn, newRow, askRoom, roomBytes, hsz, World.alloc_eq, show Array.range 0 = #[] from rfl]
          · rw [← hx]
            simp [Instr.makeSlice, run_underlying (undA_eq hu), asInt, asIntOf, typeInfo, hi, sizeOf, wl, wc, n1, n2, n3, n4, n4', n5, hn, newRow, askRoom, roomBytes, hsz, World.alloc_eq, zeroValue, hiz, hzs]
        simp [hrun]
      · rw [cv_slc_ex hb']
      · exact cells_new hb' (cvs_mono hE (cvs_rep hcz nc)) (by simpa using hw')
end
/-! ### quiet operations and new memory, all -/
/-- an operation that is not of the class is none -/
def Cls (n : Nat) (o : AOp) : Prop := o.cls = n ∨ ∃ m, o = .no m
theorem Cls.ne {n m : Nat} {o : AOp} (hn : Cls n o) (h' : n ≠ m) (hc : o.cls = m) (h : (evOp P o call ls fr s k).run ρ = some r) : False := by
  rcases hn with hn | ⟨j, rfl⟩
  · exact h' (hn.symm.trans hc)
  · cases h
theorem Cls.no {n m : Nat} : Cls n (.no m) := .inr ⟨_, rfl⟩
theorem cls_alloc (e : TypeId) : Cls 1 (trOp P ds (.alloc e)) := by
  simp only [trOp]; split <;> first | exact .inl rfl | exact .no
theorem cls_bslice (t : TypeId) (n : Nat) (ps : Array (Nat × Operand)) : Cls 1 (trBSlice P ds t n ps) := by
  unfold trBSlice; split
  · split
    · cases Nat.ble _ _
      · exact .no
      · exact .inl rfl
    · exact .no
  · exact .no
theorem cls_mksl (t : TypeId) (x y : Operand) : Cls 1 (trMkSl P ds t x y) := by
  unfold trMkSl; split
  · split
    · exact .inl rfl
    · exact .no
  · exact .no
theorem cls_store (t : TypeId) (x y : Operand) : Cls 2 (trOp P ds (.store t x y)) := by
  simp only [trOp]; split <;> first | exact .inl rfl | exact .no
theorem cls_upd (t : TypeId) (x y z : Operand) : Cls 2 (trOp P ds (.mapUpdate t x y z)) := by
  simp only [trOp]; split <;> first | exact .inl rfl | exact .no
theorem cls_ins (t : TypeId) (x y z : Operand) : Cls 2 (trOp P ds (.insert t x y z)) := cls_upd t x y z
theorem cls_range (t : TypeId) (x : Operand) : Cls 2 (trOp P ds (.range t x)) := by
  simp only [trOp]; split <;> first | exact .inl rfl | exact .no
theorem cls_next (x : Operand) (b : Bool) : Cls 2 (trOp P ds (.next x b)) := by
  cases b
  · exact .inl rfl
  · exact .inl rfl
theorem cls_entry (x : Operand) : Cls 2 (trOp P ds (.entry x)) := .inl rfl
theorem cls_defer (c : Call) : Cls 2 (trOp P ds (.defer c)) := by
  simp only [trOp]; split <;> first | exact .inl rfl | exact .no
theorem quiet_ok {o : Oper} (hres : Res ρ E ds ls fr a) (hr : HRel ρ E s w) (hc : (trOp P ds o.op).cls = 0) (h : (evOp P (trOp P ds o.op) call ls fr s k).run ρ = some r) : QN P ρ E s w (execOp a.eval o) k r := by
  obtain ⟨dst, op, ty, pos, af, gd⟩ := o
  cases op with
  | move x => exact ex_move hres hr h
  | assign x => exact ex_move hres hr h
  | pick c x y => exact ex_pick hres hr h
  | alloc e => exact ((cls_alloc e).ne (by decide) hc h).elim
  | box e x => cases hc
  | build t ps => exact ex_build hres hr h
  | buildSlice t n ps => exact ((cls_bslice t n ps).ne (by decide) hc h).elim
  | load t x => exact ex_load hres hr h
  | store t x y => exact ((cls_store t x y).ne (by decide) hc h).elim
  | nilCheck x => exact ex_nilck hres hr h
  | binOp o t x y => exact ex_bin hres hr h
  | unOp o t x => exact ex_un (t := t) hres hr h
  | makeInterface t x => exact ex_mkif hres hr h
  | makeFunc f x y => exact ex_mkfn hres hr h
  | makeMap t x =>
    cases x with
    | none => cases hc
    | some x => cases h
  | makeSlice t x y => exact ((cls_mksl t x y).ne (by decide) hc h).elim
  | slice t x lo hi mx => exact ex_slice hres hr h
  | fieldAddr t x f => exact ex_fadr hres hr h
  | field t x f => exact ex_fld hres hr h
  | indexAddr t x i => exact ex_ixa hres hr h
  | index t x i => exact ex_ix hres hr h
  | lookup t x i ok => exact ex_lookup hres hr h
  | mapUpdate t x y z => exact ((cls_upd t x y z).ne (by decide) hc h).elim
  | insert t x y z => exact ((cls_ins t x y z).ne (by decide) hc h).elim
  | range t x => exact ((cls_range t x).ne (by decide) hc h).elim
  | next x b => exact ((cls_next x b).ne (by decide) hc h).elim
  | typeAssert x xt t ok => exact ex_assert hres hr h
  | extract x i => exact ex_ext hres hr h
  | convert x y z => exact ex_conv hres hr hc h
  | call c =>
    obtain ⟨cal, args, tys⟩ := c
    cases cal with
    | value f => cases f <;> cases hc
    | invoke x n => cases hc
    | builtin b =>
      have h' := fun cs => ex_builtin (ty := ty) (cs := cs) hres hr (b := b) (args := args) (ts := tys) hc h
      simp only [execOp, resolve, invoke, pure_bind]
      exact h' _
  | defer c => exact ((cls_defer c).ne (by decide) hc h).elim
  | entry x => exact ((cls_entry x).ne (by decide) hc h).elim
  | _ => cases h
theorem n1_build (t : TypeId) (ps : Array (Nat × Operand)) (hc : (trBuild P ds t ps).cls = 1) : False := by
  unfold trBuild at hc
  split at hc
  · split at hc
    · cases hb : sizesOk P _ <;> (rw [hb] at hc; cases hc)
    · cases hc
  · split at hc <;> cases hc
  · cases hc
theorem n1_bin (o : BinOp) (t : TypeId) (x y : Operand) (hc : (trBin P ds o t x y).cls = 1) : False := by
  unfold trBin at hc
  split at hc
  · cases o <;> cases hc
  · cases hc
  · cases o <;> cases hc
  · cases hc
theorem n1_assert (x : Operand) (t : TypeId) (ok : Bool) (hc : (trAssert P ds x t ok).cls = 1) : False := by
  unfold trAssert at hc
  split at hc
  · split at hc
    · rename_i z _
      cases hb : z.isNil 5 <;> (rw [hb] at hc; cases hc)
    · cases hc
  · split at hc <;> cases hc
  · cases hc
theorem Cls.ne' {n m : Nat} {o : AOp} (hn : Cls n o) (h' : n ≠ m) (h0 : 0 ≠ m) (hc : o.cls = m) : False := by
  rcases hn with hn | ⟨j, rfl⟩
  · exact h' (hn.symm.trans hc)
  · exact h0 hc
theorem n1_call (c : Call) (hc : (trCall P ds c).cls = 1) : False := by
  obtain ⟨cal, ⟨al⟩, ⟨tl⟩⟩ := c
  cases cal with
  | value f => cases f <;> cases hc
  | invoke x n => cases hc
  | builtin b =>
    have hc : (trBuiltin P ds b ⟨al⟩ ⟨tl⟩).cls = 1 := hc
    unfold trBuiltin at hc
    simp only at hc
    split at hc
    · split at hc <;> cases hc
    · split at hc <;> cases hc
    · exact Cls.ne' (trAppend_cls ..) (by decide) (by decide) hc
    · exact Cls.ne' (trCopy_cls ..) (by decide) (by decide) hc
    · cases hc
    · cases hc
    · exact Cls.ne' (trDelete_cls ..) (by decide) (by decide) hc
    · cases hc
theorem alloc_ok {o : Oper} (hres : Res ρ E ds ls fr a) (ha : AsmOk ρ s.asm) (hc : (trOp P ds o.op).cls = 1) (h : (evOp P (trOp P ds o.op) call ls fr s k).run ρ = some r) : AN P ρ E s (execOp a.eval o) k r := by
  obtain ⟨dst, op, ty, pos, af, gd⟩ := o
  cases op with
  | alloc e => exact an_alloc hres ha h
  | box e x => exact an_box hres ha h
  | buildSlice t n ps => exact an_bslice hres ha h
  | makeMap t x =>
    cases x with
    | none => exact an_map hres ha h
    | some x => cases h
  | makeSlice t x y => exact an_mksl hres ha h
  | move x => cases hc
  | assign x => cases hc
  | pick c x y => cases hc
  | build t ps => exact (n1_build t ps hc).elim
  | load t x => exact (by revert hc; simp only [trOp]; split <;> (intro h; cases h) : False).elim
  | store t x y => exact ((cls_store t x y).ne (by decide) hc h).elim
  | nilCheck x => cases hc
  | binOp o t x y => exact (n1_bin o t x y hc).elim
  | unOp o t x => cases hc
  | makeInterface t x => exact (by revert hc; simp only [trOp]; split <;> (intro h; cases h) : False).elim
  | makeFunc f x y => cases hc
  | slice t x lo hi mx => exact (by revert hc; simp only [trOp]; unfold trSlice; (repeat' split) <;> (intro h; cases h) : False).elim
  | fieldAddr t x f => exact (by revert hc; simp only [trOp]; unfold trFadr; (repeat' split) <;> (intro h; cases h) : False).elim
  | field t x f => exact (by revert hc; simp only [trOp]; unfold trFld; (repeat' split) <;> (intro h; cases h) : False).elim
  | indexAddr t x i => exact (by revert hc; simp only [trOp]; unfold trIxa; (repeat' split) <;> (intro h; cases h) : False).elim
  | index t x i => exact (by revert hc; simp only [trOp]; unfold trIx; (repeat' split) <;> (intro h; cases h) : False).elim
  | lookup t x i ok => exact (by revert hc; simp only [trOp]; unfold trLookup; (repeat' split) <;> (intro h; cases h) : False).elim
  | mapUpdate t x y z => exact ((cls_upd t x y z).ne (by decide) hc h).elim
  | insert t x y z => exact ((cls_ins t x y z).ne (by decide) hc h).elim
  | range t x => exact ((cls_range t x).ne (by decide) hc h).elim
  | next x b => exact ((cls_next x b).ne (by decide) hc h).elim
  | typeAssert x xt t ok => exact (n1_assert x t ok hc).elim
  | extract x i => cases hc
  | convert x y z => exact (by revert hc; simp only [trOp]; unfold trConv; (repeat' split) <;> (intro h; cases h) : False).elim
  | call c => exact (n1_call c hc).elim
  | defer c => exact ((cls_defer c).ne (by decide) hc h).elim
  | entry x => exact ((cls_entry x).ne (by decide) hc h).elim
  | _ => cases h
end Go.Ab
end

section
namespace Go.Ab
variable {β : Type} {P : Program} {ρ : Val} {E : Mem} {s : St} {w : World} {r : β} {k : Kv β}
variable {ds : List (Option Nat)} {ls : List AV} {fr : Fr} {a : Act} {call : CallT β}

/-- a value comes, the memory changes -/
def Eff (P : Program) (ρ : Val) (E : Mem) (s : St) (w : World) (m : Sem Value) (k : Kv β) (r : β) : Prop :=
  ∃ u w' v s' E', m.run P w = .ok u w' ∧ cv ρ E' v = some u ∧ Step E s w E' s' w' ∧ HRel ρ E' s' w' ∧ (k v s').run ρ = some r
theorem Eff.er {o : Oper} {m : Sem Value} (h : Eff P ρ E s w m k r) (ho : execOp a.eval o = (do pure (.value (← m)))) : ER P ρ E s w o a k r := by
  obtain ⟨u, w', v, s', E', hm, hv, hs, hr, hk⟩ := h
  exact .value (by rw [ho]; simp [hm]) ⟨v, s', E', hv, hs, hr, hk⟩
theorem Eff.mk {m : Sem Value} {v : AV} {u : Value} (hr : HRel ρ E s w) (hm : m.run P w = .ok u w) (hv : cv ρ E v = some u) (hk : (k v s).run ρ = some r) : Eff P ρ E s w m k r :=
  ⟨u, w, v, s, E, hm, hv, .refl .., hr, hk⟩

/-! ### stores -/
theorem run_storesAt {c o : Nat} {us : List Value} (hthere : w.there c o us.length) (h1 : ∀ u ∈ us, u.oneCell' = true) : (storeCells ⟨c, o, none⟩ us).run P w = .ok () (w.setCells c o us) := by
  have := run_storeCells_cells (P := P) c o us 0 w (fun j hj => by simpa using (hthere j hj).1) (fun j hj => by simpa using (hthere j hj).2) h1
  simpa using this
theorem storeN_ok (hr : HRel ρ E s w) {p : Pos} {off : Nat} {vs : List AV} {us : List Value} {s' : St} (hs : s.storeN p off vs = some s') (hv : cvs ρ E vs = some us) {c o : Nat} (hb : E.blk p = some (c, o)) :
    (storeCells ⟨c, o + off, none⟩ us).run P w = .ok () (w.setCells c (o + off) us) ∧ HRel ρ E s' (w.setCells c (o + off) us) ∧ Step E s w E s' (w.setCells c (o + off) us) := by
  unfold St.storeN at hs
  obtain ⟨b, hb', hs⟩ := Option.bind_eq_some_iff.1 hs
  obtain ⟨c', o', h1, h2, h3, h4, h5⟩ := hr.store hb' hv hs
  rw [hb] at h1; cases h1
  exact ⟨run_storesAt h2 h3, h4, h5⟩
theorem er_st {o : Oper} {t : TypeId} {x y : Operand} (hres : Res ρ E ds ls fr a) (hr : HRel ρ E s w) (ho : o.op = .store t x y) (h : (evOp P (trOp P ds (.store t x y)) call ls fr s k).run ρ = some r) : ER P ρ E s w o a k r := by
  simp only [trOp] at h
  cases hn : sizeA P t with
  | none => rw [hn] at h; cases h
  | some n =>
    rw [hn] at h
    obtain ⟨i, hi, hsz⟩ := sizeA_eq hn
    obtain ⟨vx, vy, hvx, hvy, h⟩ := run_on2 hres h
    obtain ⟨pa, hpa, h⟩ := run_onSome h
    obtain ⟨hl, h⟩ := run_guardB h
    obtain ⟨s', hs', h⟩ := run_onSome h
    rw [asPtr_eq hpa] at hvx
    simp only [cv, Option.map_eq_some_iff] at hvx
    obtain ⟨⟨c, o'⟩, hb, hvx⟩ := hvx
    have hc := cells_cv hvy
    have hlen := cvs_length hc
    obtain ⟨h1, h2, h3⟩ := storeN_ok (P := P) hr hs' hc hb
    have hrun : (Instr.storeAt t (a.eval x) (a.eval y)).run P w = .ok () (w.setCells c (o' + pa.off) (a.eval y).cells.toList) := by
      rw [← hvx]
      have hsz' : (a.eval y).cells.size = i.size := by
        rw [hsz]; simp at hl; rw [← hl]; simpa using hlen
      simp [Instr.storeAt, Instr.sureAddr, storeVar, sizeOf, typeInfo, hi, hsz', h1]
    refine .skip (w' := w.setCells c (o' + pa.off) (a.eval y).cells.toList) ?_ ⟨_, s', E, ?_, h3, h2, h⟩
    · obtain ⟨_, op, _, _, _, _⟩ := o
      simp only at ho
      subst ho
      simp [execOp, hrun]
    · simp [undefA, cv, undef, cvs]
end Go.Ab
end

section
namespace Go.Ab
variable {β : Type} {P : Program} {ρ : Val} {E : Mem} {s : St} {w : World} {r : β} {k : Kv β}
variable {ds : List (Option Nat)} {ls : List AV} {fr : Fr} {a : Act} {call : CallT β}

/-! ### a block goes -/
theorem kill_get {p q : Pos} {b : Blk} (h : (s.put p .dead).heap.get q = some b) (hl : Live b) : q ≠ p ∧ s.heap.get q = some b := by
  simp only [St.put, Trie.get_put] at h
  by_cases e : q = p
  · rw [if_pos e] at h; cases h; exact absurd rfl hl
  · rw [if_neg e] at h; exact ⟨e, h⟩
theorem HRel.kill {p : Pos} {b : Blk} (h : HRel ρ E s w) (hb : s.heap.get p = some b) (hro : b.isRo = false := by rfl) : HRel ρ E (s.put p .dead) w ∧ Step E s w E (s.put p .dead) w := by
  refine ⟨⟨?_, ?_, ?_, h.free, h.asm⟩, ⟨.refl E, Nat.le_refl _, fun _ _ => rfl, Nat.le_refl _, fun _ _ _ => rfl, ?_, rfl, rfl, rfl, ?_⟩⟩
  · intro q bq hq
    simp only [St.put, Trie.get_put] at hq
    by_cases e : q = p
    · rw [if_pos e] at hq; cases hq; trivial
    · rw [if_neg e] at hq; exact h.blks q bq hq
  · intro q q' b1 b2 c o o' hq hq' hl hl'
    exact h.inj q q' b1 b2 c o o' (kill_get hq hl).2 (kill_get hq' hl').2 hl hl'
  · intro q bq hq
    simp only [St.put, Trie.get_put] at hq
    by_cases e : q = p
    · subst e; exact h.dom q b hb
    · rw [if_neg e] at hq; exact h.dom q bq hq
  · intro q bq c o hq hl he
    exact .inr ⟨q, bq, o, (kill_get hq hl).2, hl, he⟩
  · intro q x k t hq
    show (s.heap.put p (some .dead)).get q = _
    rw [Trie.get_put]
    by_cases e : q = p
    · subst e; rw [hb] at hq; cases hq; cases hro
    · rw [if_neg e]; exact hq
/-- a block takes over the place of another -/
theorem HRel.move {p : Pos} {b nb : Blk} {w' : World} {c o o' cap : Nat} (h : HRel ρ E s w) (hb : s.heap.get p = some b) (hlive : Live b) (hbl : E.blk p = some (c, o))
    (hsz : w'.heap.size = w.heap.size) (hother : ∀ q, q ≠ c → w'.heap[q]? = w.heap[q]?) (hos : w'.os = w.os) (hout : w'.output = w.output) (htape : w'.tape = w.tape)
    (hnb : BRel ρ (E.addAt s.next c o' cap) s.next nb w') (hro : b.isRo = false := by rfl) :
    HRel ρ (E.addAt s.next c o' cap) ((s.put p .dead).new nb) w' ∧ Step E s w (E.addAt s.next c o' cap) ((s.put p .dead).new nb) w' := by
  have hfree := free_next h
  have hle : Mem.Le E (E.addAt s.next c o' cap) := Mem.le_addAt hfree
  have hnew : (E.addAt s.next c o' cap).blk s.next = some (c, o') := by simp [Mem.addAt]
  have hold : ∀ q, q ≠ s.next → (E.addAt s.next c o' cap).blk q = E.blk q := fun q hq => by simp [Mem.addAt, hq]
  have hsucc : ((s.put p .dead).new nb).next.toNat = s.next.toNat + 1 := Pos.toNat_succ _
  have hget : ∀ q, ((s.put p .dead).new nb).heap.get q = if q = s.next then some nb else (s.put p .dead).heap.get q := fun q => by
    show ((s.put p .dead).heap.put s.next (some nb)).get q = _
    rw [Trie.get_put]
  have hk : ∀ q bq, (s.put p .dead).heap.get q = some bq → q.toNat < s.next.toNat := fun q bq hq => by
    simp only [St.put, Trie.get_put] at hq
    by_cases e : q = p
    · rw [e]; exact h.dom p b hb
    · rw [if_neg e] at hq; exact h.dom q bq hq
  have hne : ∀ q bq, (s.put p .dead).heap.get q = some bq → q ≠ s.next := fun q bq hq e => by
    have := hk q bq hq
    rw [e] at this; omega
  refine ⟨⟨?_, ?_, ?_, ?_, h.asm⟩, ⟨hle, by rw [hsucc]; omega, ?_, by omega, ?_, ?_, hos, hout, htape, ?_⟩⟩
  · intro q bq hq
    rw [hget] at hq
    by_cases e : q = s.next
    · rw [if_pos e] at hq; cases hq; rw [e]; exact hnb
    · rw [if_neg e] at hq
      by_cases hlq : Live bq
      · obtain ⟨hqp, hq'⟩ := kill_get hq hlq
        exact (h.blks q bq hq').congr hle fun c2 o2 hl he => hother c2 fun e2 => hqp (by
          subst e2
          exact (h.inj q p bq b c2 o2 o hq' hb hlq hlive he hbl).resolve_right fun e => by rw [hro] at e; cases e.2)
      · have : bq = .dead := Classical.byContradiction hlq
        subst this; trivial
  · intro q q' b1 b2 c1 o1 o2 hq hq' hl hl' he he'
    rw [hget] at hq hq'
    by_cases e : q = s.next
    · by_cases e' : q' = s.next
      · left; rw [e, e']
      · rw [if_neg e'] at hq'
        obtain ⟨hqp, hq''⟩ := kill_get hq' hl'
        rw [e, hnew] at he; cases he
        rw [hold q' e'] at he'
        exact absurd ((h.inj q' p b2 b _ o2 o hq'' hb hl' hlive he' hbl).resolve_right fun e => by rw [hro] at e; cases e.2) hqp
    · rw [if_neg e] at hq
      obtain ⟨hqp, hq0⟩ := kill_get hq hl
      rw [hold q e] at he
      by_cases e' : q' = s.next
      · rw [e', hnew] at he'; cases he'
        exact absurd ((h.inj q p b1 b _ o1 o hq0 hb hl hlive he hbl).resolve_right fun e => by rw [hro] at e; cases e.2) hqp
      · rw [if_neg e'] at hq'
        obtain ⟨_, hq1⟩ := kill_get hq' hl'
        rw [hold q' e'] at he'
        exact h.inj q q' b1 b2 c1 o1 o2 hq0 hq1 hl hl' he he'
  · intro q bq hq
    rw [hget] at hq
    rw [hsucc]
    by_cases e : q = s.next
    · rw [e]; omega
    · rw [if_neg e] at hq; have := hk q bq hq; omega
  · intro q x hq
    rw [hsucc]
    by_cases e : q = s.next
    · rw [e]; omega
    · rw [hold q e] at hq; have := h.free q x hq; omega
  · intro q hq
    exact hold q (fun e => by rw [e] at hq; omega)
  · intro q hq hn
    exact hother q fun e => hn p b o hb hlive (by rw [hbl, e])
  · intro q bq c1 o1 hq hl he
    rw [hget] at hq
    by_cases e : q = s.next
    · rw [e, hnew] at he; cases he; exact .inr ⟨p, b, o, hb, hlive, hbl⟩
    · rw [if_neg e] at hq
      rw [hold q e] at he
      exact .inr ⟨q, bq, o1, (kill_get hq hl).2, hl, he⟩
  · intro q x k t hq
    have hqn : q ≠ s.next := fun e => by have := h.dom q _ hq; rw [e] at this; omega
    rw [hget, if_neg hqn]
    show (s.heap.put p (some .dead)).get q = _
    rw [Trie.get_put]
    by_cases e : q = p
    · subst e; rw [hb] at hq; cases hq; cases hro
    · rw [if_neg e]; exact hq

/-! ### append -/
/-- what is appended: the cells of a slice or of a string -/
structure ApV (P : Program) (i : TypeInfo) (tx : TypeId) (x : Value) (n : Nat) (news : List Value) (w : World) : Prop where
  kind : (∃ e', P.underlying tx = some (.slice e')) ∨ P.underlying tx = some .string
  len : ∀ w' : World, (Builtin.lenOf x).run P w' = .ok n w'
  cells : (Builtin.firstCells i.size n x).run P w = .ok news.toArray w
  cellsD : (Builtin.firstCells i.size n x).run P w.drew = .ok news.toArray w.drew
/-- .. or zeros -/
structure ApZ (P : Program) (i : TypeInfo) (uz : Value) (tx : TypeId) (x : Value) (n : Nat) (news : List Value) : Prop where
  ty : ∃ j, P.underlying tx = some (.int j)
  val : ∃ j, x = .int j (Int.ofNat n)
  le : n ≤ 1000000000
  bytes : n * i.bytes ≤ 1000000000
  news : news = repV uz.cells.toList n
def ApS (P : Program) (i : TypeInfo) (uz : Value) (tx : TypeId) (x : Value) (n : Nat) (news : List Value) (w : World) : Prop := ApV P i tx x n news w ∨ ApZ P i uz tx x n news
theorem zeroCells_rep (z : Array Value) (n : Nat) : Builtin.zeroCells z n = (repV z.toList n).toArray := range_rep z n
section
variable {t tx ty e : TypeId} {i : TypeInfo} {uz : Value} {x : Value} {n : Nat} {news olds : List Value} (ht : P.underlying t = some (.slice e)) (hi : P.info? e = some i)
include ht hi
theorem ap_room_none (hs : ApV P i tx x n news w) {len cap : Nat} (hroom : len + n ≤ cap) :
    (Builtin.append_ #[t, tx] ty #[.slice none len cap, x]).run P w = .ok (.slice none (len + n) cap) w := by
  rcases hs.kind with ⟨e', hk⟩ | hk <;> simp [Builtin.append_, run_underlying ht, run_underlying hk, sizeOf, typeInfo, hi, hs.len, hroom, hs.cells]
theorem ap_room_some (hs : ApV P i tx x n news w) {ad : Addr} {len cap : Nat} (hroom : len + n ≤ cap) {w' : World} (hst : (storeCells (ad.add (len * i.size)) news).run P w = .ok () w') :
    (Builtin.append_ #[t, tx] ty #[.slice (some ad) len cap, x]).run P w = .ok (.slice (some ad) (len + n) cap) w' := by
  rcases hs.kind with ⟨e', hk⟩ | hk <;> simp [Builtin.append_, run_underlying ht, run_underlying hk, sizeOf, typeInfo, hi, hs.len, hroom, hs.cells, hst]
theorem ap_growV (hiz : i.zero = some uz) (hs : ApV P i tx x n news w) {base : Option Addr} {len cap : Nat} (hg : cap < len + n) (hold : (Builtin.firstCells i.size len (.slice base len cap)).run P w.drew = .ok olds.toArray w.drew)
    (h1 : len + n ≤ 1000000000) (h2 : (len + n) * i.bytes ≤ 140737488355328) :
    (Builtin.append_ #[t, tx] ty #[.slice base len cap, x]).run P w = .ok (.slice (some ⟨w.heap.size, 0, none⟩) (len + n) (grownCap w (len + n) cap e))
        (w.drew.alloc (.cells (olds ++ news ++ (repV uz.cells.toList (grownCap w (len + n) cap e - (len + n)))).toArray e)) := by
  have hn : ¬ (len + n ≤ cap) := by omega
  have h63' : ¬ (9223372036854775807 < ((len : Int) + (n : Int))) := by omega
  have hfit := growslice_fits hg h2
  have h48' : ¬ (281474976710656 < Builtin.nextslicecap (len + n) cap * i.bytes) := by omega
  rcases hs.kind with ⟨e', hk⟩ | hk <;>
    simp [Builtin.append_, run_underlying ht, run_underlying hk, sizeOf, typeInfo, zeroValue, hi, hiz, hs.len, hn, h63', h48', Question.forced, hs.cellsD, hold, newRow, grownCap, zeroCells_rep]
variable (hiz : i.zero = some uz)
include hiz
theorem ap_roomZ_none (hs : ApZ P i uz tx x n news) {len cap : Nat} (hroom : len + n ≤ cap) :
    (Builtin.append_ #[t, tx] ty #[.slice none len cap, x]).run P w = .ok (.slice none (len + n) cap) w := by
  obtain ⟨⟨j, htx⟩, ⟨j', rfl⟩, hn1, hn2, rfl⟩ := hs
  have wl : IntKind.i64.wrap (n : Int) = (n : Int) := by rw [IntKind.wrap_i64]; omega
  have n1 : ¬ ((n : Int) < 0) := by omega
  have n2 : ¬ (281474976710656 < (n : Int) * (i.bytes : Int)) := by rw [← Int.natCast_mul]; omega
  by_cases hn : n * i.size = 0
  · simp [Builtin.append_, run_underlying ht, run_underlying htx, sizeOf, typeInfo, hi, hroom, asInt, asIntOf, wl, n1, n2, hn]
  · simp [Builtin.append_, run_underlying ht, run_underlying htx, sizeOf, typeInfo, hi, hroom, asInt, asIntOf, wl, n1, n2, hn, zeroValue, hiz]
theorem ap_roomZ_some (hsz : uz.cells.size = i.size) (hs : ApZ P i uz tx x n news) {ad : Addr} {len cap : Nat} (hroom : len + n ≤ cap) {w' : World} (hst : (storeCells (ad.add (len * i.size)) news).run P w = .ok () w') :
    (Builtin.append_ #[t, tx] ty #[.slice (some ad) len cap, x]).run P w = .ok (.slice (some ad) (len + n) cap) w' := by
  obtain ⟨⟨j, htx⟩, ⟨j', rfl⟩, hn1, hn2, rfl⟩ := hs
  have wl : IntKind.i64.wrap (n : Int) = (n : Int) := by rw [IntKind.wrap_i64]; omega
  have n1 : ¬ ((n : Int) < 0) := by omega
  have n2 : ¬ (281474976710656 < (n : Int) * (i.bytes : Int)) := by rw [← Int.natCast_mul]; omega
  by_cases hn : n * i.size = 0
  · have hnil : repV uz.cells.toList n = [] := List.eq_nil_of_length_eq_zero (by rw [repV_length]; simpa [hsz] using hn)
    rw [hnil] at hst
    simp [Builtin.append_, run_underlying ht, run_underlying htx, sizeOf, typeInfo, hi, hroom, asInt, asIntOf, wl, n1, n2, hn, hst]
  · simp [Builtin.append_, run_underlying ht, run_underlying htx, sizeOf, typeInfo, hi, hroom, asInt, asIntOf, wl, n1, n2, hn, zeroValue, hiz, zeroCells_rep, hst]
theorem ap_growZ (hsz : uz.cells.size = i.size) (hs : ApZ P i uz tx x n news) {base : Option Addr} {len cap : Nat} (hg : cap < len + n) (hold : (Builtin.firstCells i.size len (.slice base len cap)).run P w.drew = .ok olds.toArray w.drew)
    (h1 : len + n ≤ 1000000000) (h2 : (len + n) * i.bytes ≤ 140737488355328) :
    (Builtin.append_ #[t, tx] ty #[.slice base len cap, x]).run P w = .ok (.slice (some ⟨w.heap.size, 0, none⟩) (len + n) (grownCap w (len + n) cap e))
        (w.drew.alloc (.cells (olds ++ news ++ (repV uz.cells.toList (grownCap w (len + n) cap e - (len + n)))).toArray e)) := by
  obtain ⟨⟨j, htx⟩, ⟨j', rfl⟩, hn1, hn2, rfl⟩ := hs
  have hn : ¬ (len + n ≤ cap) := by omega
  have h63' : ¬ (9223372036854775807 < ((len : Int) + (n : Int))) := by omega
  have hfit := growslice_fits hg h2
  have h48' : ¬ (281474976710656 < Builtin.nextslicecap (len + n) cap * i.bytes) := by omega
  have wl : IntKind.i64.wrap (n : Int) = (n : Int) := by rw [IntKind.wrap_i64]; omega
  have n1 : ¬ ((n : Int) < 0) := by omega
  have n2 : ¬ (281474976710656 < (n : Int) * (i.bytes : Int)) := by rw [← Int.natCast_mul]; omega
  by_cases hn0 : n * i.size = 0
  · have hnil : repV uz.cells.toList n = [] := List.eq_nil_of_length_eq_zero (by rw [repV_length]; simpa [hsz] using hn0)
    rw [hnil]
    simp [Builtin.append_, run_underlying ht, run_underlying htx, sizeOf, typeInfo, zeroValue, hi, hiz, hn, h63', h48', Question.forced, hold, newRow, grownCap, zeroCells_rep, asInt, asIntOf, wl, n1, n2, hn0]
  · simp [Builtin.append_, run_underlying ht, run_underlying htx, sizeOf, typeInfo, zeroValue, hi, hiz, hn, h63', h48', Question.forced, hold, newRow, grownCap, zeroCells_rep, asInt, asIntOf, wl, n1, n2, hn0]
end
end Go.Ab
end

section
namespace Go.Ab
variable {β : Type} {P : Program} {ρ : Val} {E : Mem} {s : St} {w : World} {r : β} {k : Kv β}
variable {ds : List (Option Nat)} {ls : List AV} {fr : Fr} {a : Act} {call : CallT β}

theorem fresh_ok (hr : HRel ρ E s w) {cells : List AV} {us rest : List Value} {need sz g : Nat} {e : TypeId} {fz : Nat × Nat} (hc : cvs ρ E cells = some us) (hl : us.length = need * sz)
    (hk : (k (.slc s.next 0 need (.op 0)) (s.new (.grow cells sz))).run ρ = some r) {m : Sem Value}
    (hm : m.run P w = .ok (.slice (some ⟨w.heap.size, 0, none⟩) need g) (w.drew.alloc (.cells (us ++ rest).toArray e fz))) (hg : need ≤ g) (hrest : rest.length = (g - need) * sz)
    (hfz : unfz fz 0 (us.length + rest.length)) : Eff P ρ E s w m k r := by
  have hrd : HRel ρ E s w.drew := hr.drawn _
  have hle : Mem.Le E (E.add s.next w.heap.size g) := Mem.le_addAt (free_next hr)
  have hnew : (E.add s.next w.heap.size g).blk s.next = some (w.heap.size, 0) := by simp [Mem.add]
  have hcap : (E.add s.next w.heap.size g).cap s.next = g := by simp [Mem.add]
  have hb : BRel ρ (E.add s.next w.heap.size g) s.next (.grow cells sz) (w.drew.alloc (.cells (us ++ rest).toArray e fz)) := by
    refine ⟨w.heap.size, 0, us, [], rest, e, fz, hnew, cvs_mono hle hc, ?_, rfl, ?_, ?_⟩
    · have := heap_alloc_new w.drew (.cells (us ++ rest).toArray e fz)
      simpa using this
    · rw [hcap, hl, hrest, ← Nat.add_mul]; congr 1; omega
    · simpa using hfz
  obtain ⟨h1, h2⟩ := hrd.alloc (.grow cells sz) (.cells (us ++ rest).toArray e fz) g hb
  refine ⟨_, _, _, _, _, hm, ?_, (Step.drawn _).trans h2, h1, hk⟩
  have : capOf (E.add s.next w.heap.size g) s.next need (.op 0) = some g := by simp [capOf, hcap, hg]
  have := cv_slc_mk (ρ := ρ) (off := 0) (len := need) hnew this
  simpa using this
theorem unfz_zero (a b : Nat) : unfz (0, 0) a b := fun i _ _ h => by simp at h
theorem byteL_cv (l : List Nat) : cvs ρ E (l.map byteAV) = some (byteCells (bytesOf l)) := by
  have : l.map byteAV = (l.map (· % 256)).map fun b => AV.int .u8 (.ofNat b) := by simp [byteAV]
  rw [this, cvs_bytes]
  simp [byteCells, bytesOf, Function.comp_def]
theorem growOk_eq {bytes need : Nat} (h : growOk bytes need = true) : (4 * need + 4000) * bytes ≤ 281474976710656 ∧ need ≤ 1000000000 := by
  simp only [growOk, Bool.and_eq_true, Nat.ble_eq] at h; exact h
theorem growOk_fits {bytes need : Nat} (h : growOk bytes need = true) : need * bytes ≤ 140737488355328 := by
  have h1 := (growOk_eq h).1
  rw [Nat.add_mul, Nat.mul_assoc] at h1
  omega
theorem cellsOf_ok (hr : HRel ρ E s w) {sz : Nat} {y : AV} {b : NL} (h : cellsOf sz y s = some b) {uy : Value} (hy : cv ρ E y = some uy) :
    ∃ news, cvs ρ E b.l = some news ∧ news.length = b.n * sz ∧ (∀ w' : World, (Builtin.lenOf uy).run P w' = .ok b.n w') ∧
      (Builtin.firstCells sz b.n uy).run P w = .ok news.toArray w ∧ (Builtin.firstCells sz b.n uy).run P w.drew = .ok news.toArray w.drew := by
  unfold cellsOf at h
  cases hn : y.isNil 2 with
  | true =>
    rw [hn] at h
    simp only [cond_true, Option.some.injEq] at h
    subst h
    rw [isNil2 hn] at hy
    simp at hy; subst hy
    exact ⟨[], by simp [cvs], by simp, fun _ => rfl, run_firstCells_none w sz 0 0 0, run_firstCells_none w.drew sz 0 0 0⟩
  | false =>
    rw [hn] at h
    simp only [cond_false] at h
    cases hs : y.asSlc with
    | some a =>
      rw [hs] at h
      simp only [Option.map_eq_some_iff] at h
      obtain ⟨l, hl, rfl⟩ := h
      rw [asSlc_eq hs] at hy
      obtain ⟨c, o, m, hb, hcap, rfl⟩ := cv_slc hy
      obtain ⟨c1, o1, us, hb1, hus, hl1⟩ := hr.loadCells (P := P) hl
      obtain ⟨c2, o2, us2, hb2, hus2, hl2⟩ := (hr.drawn (w.drawn + 1)).loadCells (P := P) hl
      rw [hb] at hb1 hb2; cases hb1; cases hb2
      rw [hus] at hus2; cases hus2
      refine ⟨us, hus, ?_, fun _ => rfl, hl1, hl2⟩
      rw [cvs_length hus]
      obtain ⟨row, _, hle, rfl⟩ := St.loadN_eq hl
      have : Nat.mul a.len sz = a.len * sz := rfl
      rw [this] at hle ⊢
      rcases hle with hle | hle
      · simp; omega
      · rw [hle]; simp
    | none =>
      rw [hs] at h
      simp only at h
      cases hz : Nat.beq sz 1 with
      | false => rw [hz] at h; cases h
      | true =>
        rw [hz] at h
        simp only [cond_true, Option.map_eq_some_iff] at h
        obtain ⟨l, hl, rfl⟩ := h
        rw [asStr_eq hl] at hy
        simp at hy; subst hy
        have hsz : sz = 1 := by simpa using hz
        subst hsz
        have hsize : (bytesOf l).size = l.length := size_bytesOf l
        have f1 := firstCells_string (P := P) (bytesOf l) w
        have f2 := firstCells_string (P := P) (bytesOf l) w.drew
        rw [hsize] at f1 f2
        exact ⟨_, byteL_cv l, by rw [byteCells_length, hsize]; simp, fun _ => by simp [Builtin.lenOf, hsize], f1, f2⟩
theorem onCap_run {c : Cap} {f g : Nat → Tree β} (h : (onCap c f g).run ρ = some r) : (∃ n, c = .ex n ∧ (f n).run ρ = some r) ∨ (∃ d, c = .op d ∧ (g d).run ρ = some r) := by
  cases c with
  | ex n => exact .inl ⟨n, rfl, h⟩
  | op d => exact .inr ⟨d, rfl, h⟩
end Go.Ab
end

section
namespace Go.Ab
variable {β : Type} {P : Program} {ρ : Val} {E : Mem} {s : St} {w : World} {r : β} {k : Kv β}
variable {ds : List (Option Nat)} {ls : List AV} {fr : Fr} {a : Act} {call : CallT β}

theorem seqC_cv {kd : IntKind} {v : AV} {e' : IE} {u : Value} (h : seqC kd v = some e') (hu : cv ρ E v = some u) : u = .int kd (e'.den ρ) := by
  unfold seqC at h
  obtain ⟨x, hx, h⟩ := Option.bind_eq_some_iff.1 h
  cases hk : kEq kd x.k with
  | false => rw [hk] at h; cases h
  | true =>
    rw [hk] at h
    cases h
    rw [asIE_cv hx] at hu
    cases hu
    rw [(kEq_iff _ _).1 hk]
theorem seqE_cvs {kd : IntKind} : ∀ {l : List AV} {t' : IE} {us : List Value}, seqE kd l = some t' → cvs ρ E l = some us → us = (t'.sden ρ).map (Value.int kd)
  | [], t', us, h, hu => by cases h; rw [cvs_nil hu]; simp [IE.sden]
  | [v], t', us, h, hu => by
    simp only [seqE, Option.map_eq_some_iff] at h
    obtain ⟨e', he, rfl⟩ := h
    obtain ⟨x, y, rfl, h1, h2⟩ := cvs_cons hu
    rw [cvs_nil h2, seqC_cv he h1]
    simp [IE.sden]
  | v :: v2 :: l, t', us, h, hu => by
    simp only [seqE, Option.bind_eq_some_iff, Option.map_eq_some_iff] at h
    obtain ⟨e', he, t2, ht2, rfl⟩ := h
    obtain ⟨x, y, rfl, h1, h2⟩ := cvs_cons hu
    rw [seqC_cv he h1, seqE_cvs (l := v2 :: l) ht2 h2]
    simp [IE.sden]
theorem seqE_one {kd : IntKind} : ∀ {l : List AV} {t' : IE}, seqE kd l = some t' → allOne l = true := by
  have one : ∀ {v : AV} {e' : IE}, seqC kd v = some e' → v.isOne = true := fun {v e'} h => by
    unfold seqC at h
    obtain ⟨x, hx, _⟩ := Option.bind_eq_some_iff.1 h
    cases v <;> first | rfl | (simp [AV.asIE] at hx)
  intro l
  induction l with
  | nil => intro t' _; rfl
  | cons v l ih =>
    intro t' h
    cases l with
    | nil =>
      simp only [seqE, Option.map_eq_some_iff] at h
      obtain ⟨e', he, rfl⟩ := h
      show (bif v.isOne then allOne [] else false) = true
      rw [one he]; rfl
    | cons v2 l =>
      simp only [seqE, Option.bind_eq_some_iff, Option.map_eq_some_iff] at h
      obtain ⟨e', he, t2, ht2, rfl⟩ := h
      show (bif v.isOne then allOne (v2 :: l) else false) = true
      rw [one he]
      exact ih ht2
theorem appE_den {a' b' : IE} : (appE a' b').sden ρ = a'.sden ρ ++ b'.sden ρ := by
  unfold appE
  cases h : sameE a' (.sl []) with
  | true => rw [sameE_eq h]; simp [IE.sden]
  | false => simp [IE.sden]
section
variable {t tx ty e : TypeId} {i : TypeInfo} {uz : Value} {uy : Value} {news : List Value} (ht : P.underlying t = some (.slice e)) (hi : P.info? e = some i) (hiz : i.zero = some uz) (hsz : uz.cells.size = i.size)
include ht hi hiz hsz
theorem apS_none {n : Nat} (hs : ApS P i uz tx uy n news w) {len cap : Nat} (hroom : len + n ≤ cap) :
    (Builtin.append_ #[t, tx] ty #[.slice none len cap, uy]).run P w = .ok (.slice none (len + n) cap) w := by
  rcases hs with hs | hs
  · exact ap_room_none ht hi hs hroom
  · exact ap_roomZ_none ht hi hiz hs hroom
theorem apS_some {n : Nat} (hs : ApS P i uz tx uy n news w) {ad : Addr} {len cap : Nat} (hroom : len + n ≤ cap) {w' : World} (hst : (storeCells (ad.add (len * i.size)) news).run P w = .ok () w') :
    (Builtin.append_ #[t, tx] ty #[.slice (some ad) len cap, uy]).run P w = .ok (.slice (some ad) (len + n) cap) w' := by
  rcases hs with hs | hs
  · exact ap_room_some ht hi hs hroom hst
  · exact ap_roomZ_some ht hi hiz hsz hs hroom hst
theorem apS_grow {n : Nat} {olds : List Value} (hs : ApS P i uz tx uy n news w) {base : Option Addr} {len cap : Nat} (hg : cap < len + n) (hold : (Builtin.firstCells i.size len (.slice base len cap)).run P w.drew = .ok olds.toArray w.drew)
    (hgr : growOk i.bytes (len + n) = true) :
    (Builtin.append_ #[t, tx] ty #[.slice base len cap, uy]).run P w = .ok (.slice (some ⟨w.heap.size, 0, none⟩) (len + n) (grownCap w (len + n) cap e))
        (w.drew.alloc (.cells (olds ++ news ++ (repV uz.cells.toList (grownCap w (len + n) cap e - (len + n)))).toArray e)) := by
  rcases hs with hs | hs
  · exact ap_growV ht hi hiz hs hg hold (growOk_eq hgr).2 (growOk_fits hgr)
  · exact ap_growZ ht hi hiz hsz hs hg hold (growOk_eq hgr).2 (growOk_fits hgr)
/-- an append that makes a new row -/
theorem ef_fresh (hr : HRel ρ E s w) {n : Nat} {cells : List AV} {olds : List Value} (hs : ApS P i uz tx uy n news w) {base : Option Addr} {len cap : Nat} (hg : cap < len + n)
    (hold : (Builtin.firstCells i.size len (.slice base len cap)).run P w.drew = .ok olds.toArray w.drew) (hgr : growOk i.bytes (len + n) = true) (hc : cvs ρ E cells = some (olds ++ news)) (hl : (olds ++ news).length = (len + n) * i.size)
    (hk : (k (.slc s.next 0 (len + n) (.op 0)) (s.new (.grow cells i.size))).run ρ = some r) : Eff P ρ E s w (Builtin.append_ #[t, tx] ty #[.slice base len cap, uy]) k r := by
  have hm := apS_grow (ty := ty) ht hi hiz hsz hs hg hold hgr
  refine fresh_ok hr hc hl hk hm (grownCap_ge w (len + n) cap e) ?_ (unfz_zero _ _)
  rw [repV_length]
  congr 1
theorem ef_apEx (hr : HRel ρ E s w) {b : NL} (hs : ApS P i uz tx uy b.n news w) (hcl : cvs ρ E b.l = some news) (hnl : news.length = b.n * i.size) {x : VS} {c : Nat} {ux : Value} (hx : cv ρ E (.slc x.p x.off x.len (.ex c)) = some ux)
    (h : (apEx i.size i.bytes x b s k c).run ρ = some r) : Eff P ρ E s w (Builtin.append_ #[t, tx] ty #[ux, uy]) k r := by
  obtain ⟨cc, o, m, hb, hcap, rfl⟩ := cv_slc hx
  simp only [capOf, Option.some.injEq] at hcap
  subst hcap
  rcases run_ifB h with ⟨hle, h⟩ | ⟨hle, h⟩
  · have hle : x.len + b.n ≤ c := by simpa using hle
    obtain ⟨s', hs', h⟩ := run_onSome h
    obtain ⟨h1, h2, h3⟩ := storeN_ok (P := P) hr hs' hcl hb
    have hst := apS_some (ty := ty) (ad := ⟨cc, o + x.off, none⟩) ht hi hiz hsz hs hle (w' := w.setCells cc (o + (x.off + x.len * i.size)) news) (by
      rw [add_addr, Nat.add_assoc]; exact h1)
    exact ⟨_, _, _, _, E, hst, cv_slc_mk hb (by simp [capOf]), h3, h2, h⟩
  · have hle : c < x.len + b.n := by
      have : ¬ (x.len + b.n ≤ c) := by intro h'; rw [Nat.ble_eq_true_of_le h'] at hle; cases hle
      omega
    obtain ⟨old, hold, h⟩ := run_onSome h
    obtain ⟨hgr, h⟩ := run_guardB h
    obtain ⟨c2, o2, us, hb2, hus, hl2⟩ := (hr.drawn (w.drawn + 1)).loadCells (P := P) hold
    rw [hb] at hb2; cases hb2
    obtain ⟨row, _, hle2, hrow⟩ := St.loadN_eq hold
    have hul : us.length = x.len * i.size := by
      rw [cvs_length hus, hrow]
      rcases hle2 with h' | h'
      · simp; omega
      · rw [h']; simp
    exact ef_fresh ht hi hiz hsz hr hs hle (by simpa [Builtin.firstCells] using hl2) hgr (cvs_append hus hcl) (by rw [List.length_append, hul, hnl, Nat.add_mul]) h
theorem ef_moveRoom (hr : HRel ρ E s w) {b : NL} (hs : ApS P i uz tx uy b.n news w) (hcl : cvs ρ E b.l = some news) (hnl : news.length = b.n * i.size) (h1c : allOne b.l = true) {x : VS} {d : Nat} {cc o : Nat} (hb : E.blk x.p = some (cc, o)) (hcd : x.len + d ≤ E.cap x.p)
    {gcs : List AV} (hbl : s.heap.get x.p = some (.grow gcs i.size)) (hod : x.off = d * i.size) (hend : x.off + x.len * i.size = gcs.length) (hgr : growOk i.bytes (x.len + b.n) = true)
    (h : (k (.slc s.next 0 (x.len + b.n) (.op 0)) (St.new (s.put x.p .dead) (.grow (dropL x.off gcs ++ b.l) i.size))).run ρ = some r) (hroom : x.len + b.n ≤ E.cap x.p - d) :
    Eff P ρ E s w (Builtin.append_ #[t, tx] ty #[.slice (some ⟨cc, o + x.off, none⟩) x.len (E.cap x.p - d), uy]) k r := by
  obtain ⟨c2, o2, us, pre, rest, tt, fz, g1, g2, g3, g4, g5, g6⟩ := hr.blks _ _ hbl
  rw [hb] at g1; cases g1
  have hlen := cvs_length g2
  have hlive : Live (.grow gcs i.size) := by simp [Live]
  have hdrop : cvs ρ E (dropL x.off gcs ++ b.l) = some (us.drop x.off ++ news) := by rw [dropL_eq]; exact cvs_append (cvs_drop _ g2) hcl
  have hul : (us.drop x.off).length = x.len * i.size := by rw [List.length_drop, hlen]; omega
  have hr2 : (x.off + (x.len + b.n) * i.size) ≤ us.length + rest.length := by
    rw [g5, hod, ← Nat.add_mul]; exact Nat.mul_le_mul_right _ (by omega)
  have hrl : news.length ≤ rest.length := by rw [Nat.add_mul] at hr2; rw [hnl]; omega
  have hone := allOne_oneCell hcl h1c
  subst g4
  have hat : w.heap[cc]? = some (.cells ((pre ++ us) ++ rest.take news.length ++ rest.drop news.length).toArray tt fz) := by
    rw [g3]; simp
  have hset := heap_setCells_row cc tt fz news (pre ++ us) (rest.take news.length) (rest.drop news.length) w hat (by simp; omega)
  have hthere : w.there cc (pre.length + (x.off + x.len * i.size)) news.length := by
    intro j hj
    have hidx : pre.length + (x.off + x.len * i.size) + j = (pre ++ us).length + j := by rw [List.length_append, hend, hlen]
    constructor
    · unfold World.cell?
      simp only [g3, hidx]
      rw [List.getElem?_toArray, List.getElem?_append_right (by omega)]
      simp; omega
    · unfold World.frozen?
      simp only [g3]
      have := g6 (pre.length + (x.off + x.len * i.size) + j) (by omega) (by omega)
      obtain ⟨lo, hi'⟩ := fz
      simp only [Bool.and_eq_false_iff, decide_eq_false_iff_not] at *
      by_cases hlo : lo ≤ pre.length + (x.off + x.len * i.size) + j
      · right; intro hh; exact this ⟨hlo, hh⟩
      · left; exact hlo
  have hsr := run_storesAt (P := P) hthere hone
  have hst := apS_some (ty := ty) (ad := ⟨cc, pre.length + x.off, none⟩) (cap := E.cap x.p - d) ht hi hiz hsz hs hroom (w' := w.setCells cc (pre.length + (x.off + x.len * i.size)) news) (by
    rw [add_addr, Nat.add_assoc]; exact hsr)
  have hplace : pre.length + (x.off + x.len * i.size) = (pre ++ us).length := by rw [List.length_append, hend, hlen]
  rw [hplace] at hst
  obtain ⟨r1, r2, r3, _⟩ := setCells_rest cc news (pre ++ us).length w
  have hfree := free_next hr
  have hle' : Mem.Le E (E.addAt s.next cc (pre.length + x.off) (E.cap x.p - d)) := Mem.le_addAt hfree
  have hnb : BRel ρ (E.addAt s.next cc (pre.length + x.off) (E.cap x.p - d)) s.next (.grow (dropL x.off gcs ++ b.l) i.size) (w.setCells cc (pre ++ us).length news) := by
    refine ⟨cc, pre.length + x.off, us.drop x.off ++ news, pre ++ us.take x.off, rest.drop news.length, tt, fz, by simp [Mem.addAt], cvs_mono hle' hdrop, ?_, ?_, ?_, ?_⟩
    · rw [hset]
      congr 2
      simp [List.append_assoc]
      rw [← List.append_assoc (us.take x.off), List.take_append_drop]
    · simp; omega
    · have : (E.addAt s.next cc (pre.length + x.off) (E.cap x.p - d)).cap s.next = E.cap x.p - d := by simp [Mem.addAt]
      rw [this, Nat.sub_mul, ← g5, ← hod]
      simp; omega
    · intro j hj1 hj2
      refine g6 j (by omega) ?_
      simp at hj2
      omega
  obtain ⟨h4, h5⟩ := hr.move hbl hlive hb (heap_setCells_size _ _ _ _) (fun q hq => heap_setCells_ne cc news _ w q hq) r1 r2 r3 hnb
  refine ⟨_, _, _, _, _, hst, ?_, h5, h4, h⟩
  have hnew : (E.addAt s.next cc (pre.length + x.off) (E.cap x.p - d)).blk s.next = some (cc, pre.length + x.off) := by simp [Mem.addAt]
  have hcp : capOf (E.addAt s.next cc (pre.length + x.off) (E.cap x.p - d)) s.next (x.len + b.n) (.op 0) = some (E.cap x.p - d) := by
    simp [capOf, Mem.addAt, hroom]
  have := cv_slc_mk (ρ := ρ) (off := 0) (len := x.len + b.n) hnew hcp
  simpa using this
theorem ef_moveNone (hr : HRel ρ E s w) {b : NL} (hs : ApS P i uz tx uy b.n news w) (hcl : cvs ρ E b.l = some news) (hnl : news.length = b.n * i.size) (h1c : allOne b.l = true) {x : VS} {d : Nat} {cc o : Nat} (hb : E.blk x.p = some (cc, o)) (hcd : x.len + d ≤ E.cap x.p)
    {gcs : List AV} (hbl : s.heap.get x.p = some (.grow gcs i.size)) (hod : x.off = d * i.size) (hend : x.off + x.len * i.size = gcs.length) (hgr : growOk i.bytes (x.len + b.n) = true)
    (h : (k (.slc s.next 0 (x.len + b.n) (.op 0)) (St.new (s.put x.p .dead) (.grow (dropL x.off gcs ++ b.l) i.size))).run ρ = some r) (hroom : ¬ x.len + b.n ≤ E.cap x.p - d) :
    Eff P ρ E s w (Builtin.append_ #[t, tx] ty #[.slice (some ⟨cc, o + x.off, none⟩) x.len (E.cap x.p - d), uy]) k r := by
  obtain ⟨c2, o2, us, pre, rest, tt, fz, g1, g2, g3, g4, g5, g6⟩ := hr.blks _ _ hbl
  rw [hb] at g1; cases g1
  have hlen := cvs_length g2
  have hlive : Live (.grow gcs i.size) := by simp [Live]
  have hdrop : cvs ρ E (dropL x.off gcs ++ b.l) = some (us.drop x.off ++ news) := by rw [dropL_eq]; exact cvs_append (cvs_drop _ g2) hcl
  have hul : (us.drop x.off).length = x.len * i.size := by rw [List.length_drop, hlen]; omega
  have hlen2 : (us.drop x.off ++ news).length = (x.len + b.n) * i.size := by rw [List.length_append, hul, hnl, Nat.add_mul]
  have hrow : s.row x.p = some gcs := by unfold St.row; rw [hbl]; rfl
  obtain ⟨hk1, hk2⟩ := hr.kill hbl
  obtain ⟨c3, o3, us3, hb3, hus3, hl3, _⟩ := (hr.drawn (w.drawn + 1)).load hrow
  rw [hb] at hb3; cases hb3
  rw [g2] at hus3; cases hus3
  have hfc : (Builtin.firstCells i.size x.len (.slice (some ⟨cc, o + x.off, none⟩) x.len (E.cap x.p - d))).run P w.drew = .ok (us.drop x.off).toArray w.drew := by
    refine run_firstCells_some w.drew i.size x.len ⟨cc, o + x.off, none⟩ x.len _ (us.drop x.off) hul fun j v hv => ?_
    have := hl3 x.off (x.len * i.size) (by omega)
    rw [← hul, List.take_length] at this
    rw [add_addr]
    exact this j v hv
  obtain ⟨u, w', v, s', E', e1, e2, e3, e4, e5⟩ := ef_fresh (ty := ty) (s := s.put x.p .dead) ht hi hiz hsz hk1 hs (by omega) hfc hgr hdrop hlen2 h
  exact ⟨u, w', v, s', E', e1, e2, hk2.trans e3, e4, e5⟩
theorem ef_apOp (hr : HRel ρ E s w) {b : NL} (hs : ApS P i uz tx uy b.n news w) (hcl : cvs ρ E b.l = some news) (hnl : news.length = b.n * i.size) (hpos : 0 < i.size) {x : VS} {d : Nat} {ux : Value} (hx : cv ρ E (.slc x.p x.off x.len (.op d)) = some ux)
    (h : (apOp i.size i.bytes x b s k d).run ρ = some r) : Eff P ρ E s w (Builtin.append_ #[t, tx] ty #[ux, uy]) k r := by
  obtain ⟨cc, o, m, hb, hcap, rfl⟩ := cv_slc hx
  simp only [capOf] at hcap
  split at hcap
  case isFalse => cases hcap
  case isTrue hcd =>
  simp only [Option.some.injEq] at hcap
  subst hcap
  obtain ⟨bl, hbl, h⟩ := run_onSome h
  obtain ⟨g, hg, h⟩ := run_onSome h
  obtain ⟨hgd, h⟩ := run_guardB h
  simp only [Bool.and_eq_true, Nat.beq_eq] at hgd
  obtain ⟨hgz, hod⟩ := hgd
  have hgrow : bl = .grow g.cs g.sz := by cases bl <;> simp [Blk.asGrow] at hg; subst hg; rfl
  subst hgrow
  obtain ⟨c2, o2, us, pre, rest, tt, fz, g1, g2, g3, g4, g5, g6⟩ := hr.blks _ _ hbl
  rw [hb] at g1; cases g1
  rw [← hgz] at g5
  have hlen := cvs_length g2
  have hlive : Live (.grow g.cs g.sz) := by simp [Live]
  rcases run_ifB h with ⟨hle, h⟩ | ⟨hle, h⟩
  · have hle : x.off + (x.len + b.n) * i.size ≤ g.cs.length := by simpa using hle
    obtain ⟨s', hs', h⟩ := run_onSome h
    have hs2 : s.storeN x.p (x.off + x.len * i.size) b.l = some s' := by unfold St.storeN; rw [hbl]; exact hs'
    obtain ⟨h1, h2, h3⟩ := storeN_ok (P := P) hr hs2 hcl hb
    have hroom : d + (x.len + b.n) ≤ E.cap x.p := by
      refine Nat.le_of_mul_le_mul_right (?_ : (d + (x.len + b.n)) * i.size ≤ E.cap x.p * i.size) hpos
      rw [← g5, Nat.add_mul, ← hod, hlen]; omega
    have hst := apS_some (ty := ty) (ad := ⟨cc, o + x.off, none⟩) (cap := E.cap x.p - d) ht hi hiz hsz hs (show x.len + b.n ≤ E.cap x.p - d by omega) (w' := w.setCells cc (o + (x.off + x.len * i.size)) news) (by
      rw [add_addr, Nat.add_assoc]; exact h1)
    exact ⟨_, _, _, _, E, hst, cv_slc_mk hb (by simp only [capOf]; rw [if_pos (by omega)]), h3, h2, h⟩
  · obtain ⟨hend, h⟩ := run_guardB h
    simp only [Bool.and_eq_true, Nat.beq_eq] at hend
    obtain ⟨hend, h1c⟩ := hend
    obtain ⟨hgr, h⟩ := run_guardB h
    obtain ⟨gcs, gsz⟩ := g
    subst hgz
    by_cases hroom : x.len + b.n ≤ E.cap x.p - d
    · exact ef_moveRoom ht hi hiz hsz hr hs hcl hnl h1c hb hcd hbl hod hend hgr h hroom
    · exact ef_moveNone ht hi hiz hsz hr hs hcl hnl h1c hb hcd hbl hod hend hgr h hroom
theorem ef_apJ (hr : HRel ρ E s w) {b : NL} (hs : ApS P i uz tx uy b.n news w) (hcl : cvs ρ E b.l = some news) (hnl : news.length = b.n * i.size) {x : JS} {ux : Value} (hx : cv ρ E (.jslc x.p x.x x.n x.sz) = some ux)
    (h : (apJ i.size i.bytes x b s k).run ρ = some r) : Eff P ρ E s w (Builtin.append_ #[t, tx] ty #[ux, uy]) k r := by
  obtain ⟨bl, hbl, h⟩ := run_onSome h
  obtain ⟨g, hg, h⟩ := run_onSome h
  obtain ⟨hgd, h9⟩ := run_guardB h
  clear h
  simp only [Bool.and_eq_true, Nat.beq_eq] at hgd
  obtain ⟨⟨⟨⟨⟨hgz, haz⟩, hend⟩, h1c⟩, hgr0⟩, hbd⟩ := hgd
  have hgrow : bl = .grow g.cs g.sz := by cases bl <;> simp [Blk.asGrow] at hg; subst hg; rfl
  subst hgrow
  obtain ⟨gcs, gsz⟩ := g
  simp only at hgz hend hbl h9
  subst hgz
  simp only [cv, Option.bind_eq_some_iff] at hx
  obtain ⟨⟨cc, o⟩, hb, hx⟩ := hx
  rw [← haz] at hx
  split at hx
  case isFalse => cases hx
  case isTrue hcond =>
  obtain ⟨h0, h1, h2⟩ := hcond
  simp only [Option.some.injEq] at hx
  subst hx
  have hB := bounded_ok hr.asm hbd
  simp only [AtOk, atDen, IE.den] at hB
  obtain ⟨L, hL⟩ : ∃ L, L = (ρ.iv x.x).toNat := ⟨_, rfl⟩
  rw [← hL] at h1 ⊢
  have hLb : L ≤ 1000000 := by omega
  obtain ⟨m, hm⟩ : ∃ m, m = i.size * L := ⟨_, rfl⟩
  rw [← hm] at h1 ⊢
  obtain ⟨c2, o2, us, pre, rest, tt, fz, g1, g2, g3, g4, g5, g6⟩ := hr.blks _ _ hbl
  rw [hb] at g1; cases g1
  have hlen := cvs_length g2
  have hun : us.length = x.n * i.size := by rw [hlen, ← hend]
  have hcs : cvs ρ E (gcs ++ b.l) = some (us ++ news) := cvs_append g2 hcl
  have hone := allOne_oneCell hcl h1c
  have hgr : growOk i.bytes (L + x.n + b.n) = true := by
    have := growOk_eq hgr0
    simp only [growOk, Bool.and_eq_true, Nat.ble_eq]
    refine ⟨Nat.le_trans (Nat.mul_le_mul_right _ ?_) this.1, ?_⟩ <;> omega
  have hlive : Live (.grow gcs i.size) := by simp [Live]
  have hfree := free_next hr
  by_cases hroom : x.n + b.n ≤ E.cap x.p
  · have hr2 : (x.n + b.n) * i.size ≤ us.length + rest.length := by
      rw [g5]; exact Nat.mul_le_mul_right _ hroom
    have hrl : news.length ≤ rest.length := by rw [Nat.add_mul] at hr2; rw [hnl]; omega
    subst g4
    have hat : w.heap[cc]? = some (.cells ((pre ++ us) ++ rest.take news.length ++ rest.drop news.length).toArray tt fz) := by
      rw [g3]; simp
    have hset := heap_setCells_row cc tt fz news (pre ++ us) (rest.take news.length) (rest.drop news.length) w hat (by simp; omega)
    have hthere : w.there cc (pre ++ us).length news.length := by
      intro j hj
      constructor
      · unfold World.cell?
        simp only [g3]
        rw [List.getElem?_toArray, List.getElem?_append_right (by omega)]
        simp; omega
      · unfold World.frozen?
        simp only [g3]
        have := g6 ((pre ++ us).length + j) (by simp; omega) (by simp; omega)
        obtain ⟨lo, hi'⟩ := fz
        simp only [Bool.and_eq_false_iff, decide_eq_false_iff_not] at *
        by_cases hlo : lo ≤ (pre ++ us).length + j
        · right; intro hh; exact this ⟨hlo, hh⟩
        · left; exact hlo
    have hsr := run_storesAt (P := P) hthere hone
    have hplace : pre.length - m + (L + x.n) * i.size = (pre ++ us).length := by
      rw [List.length_append, hun, Nat.add_mul, Nat.mul_comm L, ← hm]; omega
    have hst := apS_some (ty := ty) (ad := ⟨cc, pre.length - m, none⟩) (len := L + x.n) (cap := L + E.cap x.p) ht hi hiz hsz hs (by omega) (w' := w.setCells cc (pre ++ us).length news) (by
      rw [add_addr, hplace]; exact hsr)
    obtain ⟨r1, r2, r3, _⟩ := setCells_rest cc news (pre ++ us).length w
    have hle' : Mem.Le E (E.addAt s.next cc pre.length (E.cap x.p)) := Mem.le_addAt hfree
    have hcp : (E.addAt s.next cc pre.length (E.cap x.p)).cap s.next = E.cap x.p := by simp [Mem.addAt]
    have hnb : BRel ρ (E.addAt s.next cc pre.length (E.cap x.p)) s.next (.grow (gcs ++ b.l) i.size) (w.setCells cc (pre ++ us).length news) := by
      refine ⟨cc, pre.length, us ++ news, pre, rest.drop news.length, tt, fz, by simp [Mem.addAt], cvs_mono hle' hcs, ?_, rfl, ?_, ?_⟩
      · rw [hset]
        congr 2
        simp [List.append_assoc]
      · rw [hcp, ← g5]; simp; omega
      · intro j hj1 hj2
        refine g6 j hj1 ?_
        simp at hj2
        omega
    obtain ⟨h4, h5⟩ := hr.move hbl hlive hb (heap_setCells_size _ _ _ _) (fun q hq => heap_setCells_ne cc news _ w q hq) r1 r2 r3 hnb
    refine ⟨_, _, _, _, _, hst, ?_, h5, h4, h9⟩
    have hnew : (E.addAt s.next cc pre.length (E.cap x.p)).blk s.next = some (cc, pre.length) := by simp [Mem.addAt]
    simp only [cv, hnew, hcp, Option.bind_some, ← hL, ← hm]
    rw [if_pos ⟨h0, h1, hroom⟩, Nat.add_assoc]
  · obtain ⟨hk1, hk2⟩ := hr.kill hbl
    have hold : (pre.drop (o - m) ++ us).length = (L + x.n) * i.size := by
      rw [List.length_append, List.length_drop, g4, hun, Nat.add_mul, Nat.mul_comm L, ← hm]; omega
    have hsplit : pre ++ us ++ rest = pre.take (o - m) ++ ((pre.drop (o - m) ++ us) ++ rest) := by
      rw [← List.append_assoc, ← List.append_assoc, List.take_append_drop]
    have hfc : (Builtin.firstCells i.size (L + x.n) (.slice (some ⟨cc, o - m, none⟩) (L + x.n) (L + E.cap x.p))).run P w.drew = .ok (pre.drop (o - m) ++ us).toArray w.drew := by
      refine run_firstCells_some w.drew i.size (L + x.n) ⟨cc, o - m, none⟩ (L + x.n) _ (pre.drop (o - m) ++ us) hold fun j v hv => ?_
      rw [add_addr]
      unfold World.cell?
      have g3' : w.drew.heap[cc]? = some (.cells (pre ++ us ++ rest).toArray tt fz) := g3
      simp only [g3', List.getElem?_toArray]
      rw [hsplit, List.getElem?_append_right (by simp; omega)]
      have hj : j < (pre.drop (o - m) ++ us).length := (List.getElem?_eq_some_iff.1 hv).1
      rw [List.getElem?_append_left (by simp at hj ⊢; omega)]
      simp only [List.length_take]
      rw [show o - m + j - min (o - m) pre.length = j by omega]
      exact hv
    have hmm := apS_grow (ty := ty) (base := some ⟨cc, o - m, none⟩) (len := L + x.n) (cap := L + E.cap x.p) ht hi hiz hsz hs (by omega) hfc hgr
    have hgc := grownCap_ge w (L + x.n + b.n) (L + E.cap x.p) e
    obtain ⟨gc, hgce⟩ : ∃ gc, gc = grownCap w (L + x.n + b.n) (L + E.cap x.p) e := ⟨_, rfl⟩
    rw [← hgce] at hmm hgc
    have hrd : HRel ρ E (s.put x.p .dead) w.drew := hk1.drawn _
    have hfree2 := free_next hrd
    have hle' : Mem.Le E (E.addAt (s.put x.p .dead).next w.drew.heap.size m (gc - L)) := Mem.le_addAt hfree2
    have hnew : (E.addAt (s.put x.p .dead).next w.drew.heap.size m (gc - L)).blk (s.put x.p .dead).next = some (w.drew.heap.size, m) := by simp [Mem.addAt]
    have hcp : (E.addAt (s.put x.p .dead).next w.drew.heap.size m (gc - L)).cap (s.put x.p .dead).next = gc - L := by simp [Mem.addAt]
    have hpd : (pre.drop (o - m)).length = m := by rw [List.length_drop, g4]; omega
    obtain ⟨h4, h5⟩ := hrd.allocAt (.grow (gcs ++ b.l) i.size) (.cells (pre.drop (o - m) ++ us ++ news ++ (repV uz.cells.toList (gc - (L + x.n + b.n)))).toArray e) m (gc - L) (by
      refine ⟨w.drew.heap.size, m, us ++ news, pre.drop (o - m), repV uz.cells.toList (gc - (L + x.n + b.n)), e, (0, 0), hnew, cvs_mono hle' hcs, ?_, hpd, ?_, unfz_zero _ _⟩
      · have := heap_alloc_new w.drew (.cells (pre.drop (o - m) ++ us ++ news ++ (repV uz.cells.toList (gc - (L + x.n + b.n)))).toArray e)
        rw [this]
        simp [List.append_assoc]
      · rw [hcp, List.length_append, hun, hnl, repV_length]
        have hzz : uz.cells.toList.length = i.size := by simpa using hsz
        rw [hzz, ← Nat.add_mul, ← Nat.add_mul]
        congr 1
        omega)
    refine ⟨_, _, _, _, _, hmm, ?_, (hk2.trans (Step.drawn _)).trans h5, h4, h9⟩
    have hne : s.next = (s.put x.p .dead).next := rfl
    rw [hne]
    simp only [cv, hnew, hcp, Option.bind_some, ← hL, ← hm]
    rw [if_pos ⟨h0, Nat.le_refl _, by omega⟩, Nat.sub_self, ← Nat.add_assoc]
    have hge : L + (gc - L) = gc := by omega
    rw [hge]
    rfl
theorem ef_apSeq (hr : HRel ρ E s w) {b : NL} (hs : ApS P i uz tx uy b.n news w) (hcl : cvs ρ E b.l = some news) (hnl : news.length = b.n * i.size) {x : SQ} {ux : Value} (hx : cv ρ E (.sslc x.p x.lo x.hi x.cp) = some ux)
    (h : (apSeq i.size i.bytes x b s k).run ρ = some r) : Eff P ρ E s w (Builtin.append_ #[t, tx] ty #[ux, uy]) k r := by
  obtain ⟨bl, hbl, h⟩ := run_onSome h
  obtain ⟨g, hg, h⟩ := run_onSome h
  obtain ⟨te, hte, h⟩ := run_onSome h
  obtain ⟨hgd, h9⟩ := run_guardB h
  clear h
  simp only [Bool.and_eq_true] at hgd
  obtain ⟨⟨⟨⟨⟨g1, g2⟩, g3⟩, g4⟩, g5⟩, g6⟩ := hgd
  have hz1 : i.size = 1 := by simpa using g1
  have hseq : bl = .seq g.k g.s g.cp := by cases bl <;> simp [Blk.asSeqW] at hg; subst hg; rfl
  subst hseq
  have hcp := sameO_eq g4
  have hshort := shortS_ok hr.asm g6
  obtain ⟨cc, o, hb, c1, c2, c3, rfl⟩ := cv_sslc hx
  have hlo : x.lo.den ρ = 0 := by rw [sameE_eq g2]; rfl
  have hhi : x.hi.den ρ = ((g.s.sden ρ).length : Int) := by
    rw [Bool.or_eq_true] at g3
    rcases g3 with g3 | g3
    · rw [sameE_eq g3]; simp [IE.den]
    · rw [Bool.and_eq_true] at g3
      rw [sameE_eq g3.1, sameE_eq g3.2]
      simp [IE.den, IE.sden]
  obtain ⟨L, hL⟩ : ∃ L, L = (g.s.sden ρ).length := ⟨_, rfl⟩
  rw [← hL] at hhi hshort
  have hnt : (x.hi.den ρ - x.lo.den ρ).toNat = L := by rw [hlo, hhi]; omega
  have hl0 : (x.lo.den ρ).toNat = 0 := by rw [hlo]; rfl
  rw [hnt, hl0, Nat.add_zero, Nat.sub_zero]
  rw [show (x.hi.den ρ).toNat = L from by rw [hhi]; omega] at c3
  obtain ⟨C, hC⟩ : ∃ C, C = capE ρ E x.p x.cp := ⟨_, rfl⟩
  rw [← hC] at c3 ⊢
  obtain ⟨c', o', pre, rest, tt, fz, f1, f2, f3, f4, f5⟩ := hr.blks _ _ hbl
  rw [hb] at f1; cases f1
  rw [← hcp, ← hC, ← hL] at f4
  rw [← hL] at f5
  obtain ⟨us, hus⟩ : ∃ us, us = (g.s.sden ρ).map (Value.int g.k) := ⟨_, rfl⟩
  rw [← hus] at f2
  have hul : us.length = L := by rw [hus, List.length_map, ← hL]
  have hnews : news = (te.sden ρ).map (Value.int g.k) := seqE_cvs hte hcl
  have hnn : news.length = b.n := by rw [hnl, hz1, Nat.mul_one]
  have htl : (te.sden ρ).length = b.n := by rw [← hnn, hnews, List.length_map]
  have hmap : ((appE g.s te).sden ρ).map (Value.int g.k) = us ++ news := by rw [appE_den, List.map_append, ← hus, ← hnews]
  have hal : ((appE g.s te).sden ρ).length = L + b.n := by rw [appE_den, List.length_append, ← hL, htl]
  have h1c : allOne b.l = true := seqE_one hte
  have hone := allOne_oneCell hcl h1c
  have hgr : growOk i.bytes (L + b.n) = true := by
    have := growOk_eq g5
    simp only [growOk, Bool.and_eq_true, Nat.ble_eq]
    refine ⟨Nat.le_trans (Nat.mul_le_mul_right _ ?_) this.1, ?_⟩ <;> omega
  have hlive : Live (.seq g.k g.s g.cp) := by simp [Live]
  have hfree := free_next hr
  by_cases hroom : L + b.n ≤ C
  · have hrl : news.length ≤ rest.length := by rw [hnn]; omega
    subst f3
    have hat : w.heap[cc]? = some (.cells ((pre ++ us) ++ rest.take news.length ++ rest.drop news.length).toArray tt fz) := by
      rw [f2]; simp
    have hset := heap_setCells_row cc tt fz news (pre ++ us) (rest.take news.length) (rest.drop news.length) w hat (by simp; omega)
    have hthere : w.there cc (pre ++ us).length news.length := by
      intro j hj
      constructor
      · unfold World.cell?
        simp only [f2]
        rw [List.getElem?_toArray, List.getElem?_append_right (by omega)]
        simp; omega
      · unfold World.frozen?
        simp only [f2]
        have := f5 ((pre ++ us).length + j) (by simp; omega) (by simp; omega)
        obtain ⟨lo, hi'⟩ := fz
        simp only [Bool.and_eq_false_iff, decide_eq_false_iff_not] at *
        by_cases hlo : lo ≤ (pre ++ us).length + j
        · right; intro hh; exact this ⟨hlo, hh⟩
        · left; exact hlo
    have hsr := run_storesAt (P := P) hthere hone
    have hplace : pre.length + L * i.size = (pre ++ us).length := by rw [List.length_append, hul, hz1, Nat.mul_one]
    have hst := apS_some (ty := ty) (ad := ⟨cc, pre.length, none⟩) (len := L) (cap := C) ht hi hiz hsz hs hroom (w' := w.setCells cc (pre ++ us).length news) (by
      rw [add_addr, hplace]; exact hsr)
    obtain ⟨r1, r2, r3, _⟩ := setCells_rest cc news (pre ++ us).length w
    have hle' : Mem.Le E (E.addAt s.next cc pre.length C) := Mem.le_addAt hfree
    have hcp' : (E.addAt s.next cc pre.length C).cap s.next = C := by simp [Mem.addAt]
    have hnb : BRel ρ (E.addAt s.next cc pre.length C) s.next (.seq g.k (appE g.s te) none) (w.setCells cc (pre ++ us).length news) := by
      refine ⟨cc, pre.length, pre, rest.drop news.length, tt, fz, by simp [Mem.addAt], ?_, rfl, ?_, ?_⟩
      · rw [hset, hmap]
        congr 2
        simp [List.append_assoc]
      · rw [hal]
        simp only [capE, hcp', List.length_drop]; omega
      · intro j hj1 hj2
        refine f5 j hj1 ?_
        rw [hal, List.length_drop] at hj2
        omega
    obtain ⟨h4, h5⟩ := hr.move hbl hlive hb (heap_setCells_size _ _ _ _) (fun q hq => heap_setCells_ne cc news _ w q hq) r1 r2 r3 hnb
    refine ⟨_, _, _, _, _, hst, ?_, h5, h4, h9⟩
    have hnew : (E.addAt s.next cc pre.length C).blk s.next = some (cc, pre.length) := by simp [Mem.addAt]
    have := cv_sslc_mk (ρ := ρ) (lo := .c 0) (hi := .len (appE g.s te)) (cp := none) hnew (by simp [IE.den]) (by simp [IE.den]) (by simp [IE.den, capE, hcp', hal]; omega)
    rw [this]
    simp [IE.den, capE, hcp', hal]
    omega
  · obtain ⟨hk1, hk2⟩ := hr.kill hbl
    have hfc : (Builtin.firstCells i.size L (.slice (some ⟨cc, o, none⟩) L C)).run P w.drew = .ok us.toArray w.drew := by
      refine run_firstCells_some w.drew i.size L ⟨cc, o, none⟩ L _ us (by rw [hul, hz1, Nat.mul_one]) fun j v hv => ?_
      rw [add_addr]
      have f2' : w.drew.heap[cc]? = some (.cells (pre ++ us ++ rest).toArray tt fz) := f2
      have hj : j < us.length := (List.getElem?_eq_some_iff.1 hv).1
      have := cell_row f2' j hj
      rw [f3] at this
      rw [this]; exact hv
    have hmm := apS_grow (ty := ty) (base := some ⟨cc, o, none⟩) (len := L) (cap := C) ht hi hiz hsz hs (by omega) hfc hgr
    have hgc := grownCap_ge w (L + b.n) C e
    obtain ⟨gc, hgce⟩ : ∃ gc, gc = grownCap w (L + b.n) C e := ⟨_, rfl⟩
    rw [← hgce] at hmm hgc
    have hrd : HRel ρ E (s.put x.p .dead) w.drew := hk1.drawn _
    have hfree2 := free_next hrd
    have hle' : Mem.Le E (E.addAt (s.put x.p .dead).next w.drew.heap.size 0 gc) := Mem.le_addAt hfree2
    have hnew : (E.addAt (s.put x.p .dead).next w.drew.heap.size 0 gc).blk (s.put x.p .dead).next = some (w.drew.heap.size, 0) := by simp [Mem.addAt]
    have hcp' : (E.addAt (s.put x.p .dead).next w.drew.heap.size 0 gc).cap (s.put x.p .dead).next = gc := by simp [Mem.addAt]
    obtain ⟨h4, h5⟩ := hrd.allocAt (.seq g.k (appE g.s te) none) (.cells (us ++ news ++ (repV uz.cells.toList (gc - (L + b.n)))).toArray e) 0 gc (by
      refine ⟨w.drew.heap.size, 0, [], repV uz.cells.toList (gc - (L + b.n)), e, (0, 0), hnew, ?_, rfl, ?_, unfz_zero _ _⟩
      · have := heap_alloc_new w.drew (.cells (us ++ news ++ (repV uz.cells.toList (gc - (L + b.n)))).toArray e)
        rw [this, hmap]
        simp [List.append_assoc]
      · rw [hal, repV_length]
        have hzz : uz.cells.toList.length = 1 := by rw [← hz1]; simpa using hsz
        rw [hzz]
        simp only [capE, hcp']
        omega)
    refine ⟨_, _, _, _, _, hmm, ?_, (hk2.trans (Step.drawn _)).trans h5, h4, h9⟩
    have hne : s.next = (s.put x.p .dead).next := rfl
    rw [hne]
    have := cv_sslc_mk (ρ := ρ) (lo := .c 0) (hi := .len (appE g.s te)) (cp := none) hnew (by simp [IE.den]) (by simp [IE.den]) (by simp only [IE.den, hal, Int.toNat_natCast]; show L + b.n ≤ (E.addAt (s.put x.p .dead).next w.drew.heap.size 0 gc).cap (s.put x.p .dead).next; rw [hcp']; exact hgc)
    rw [this]
    simp only [IE.den, capE, hcp', hal, Int.toNat_zero, Nat.add_zero, Nat.sub_zero, Int.sub_zero, Int.toNat_natCast]
    rfl
end
end Go.Ab
end

section
namespace Go.Ab
variable {β : Type} {P : Program} {ρ : Val} {E : Mem} {s : St} {w : World} {r : β} {k : Kv β}
variable {ds : List (Option Nat)} {ls : List AV} {fr : Fr} {a : Act} {call : CallT β}

theorem apKind_eq {tx : TypeId} {zs : Bool} (h : (undA P tx).bind apKind = some zs) : (zs = true ∧ ∃ j, P.underlying tx = some (.int j)) ∨ (zs = false ∧ ((∃ e', P.underlying tx = some (.slice e')) ∨ P.underlying tx = some .string)) := by
  obtain ⟨d, hd, h⟩ := Option.bind_eq_some_iff.1 h
  have hd' := undA_eq hd
  cases d <;> simp [apKind] at h <;> subst h
  · exact .inl ⟨rfl, _, hd'⟩
  · exact .inr ⟨rfl, .inr hd'⟩
  · exact .inr ⟨rfl, .inl ⟨_, hd'⟩⟩
section
variable {t tx ty e : TypeId} {i : TypeInfo} {uz : Value} {uy : Value} {news : List Value} (ht : P.underlying t = some (.slice e)) (hi : P.info? e = some i) (hiz : i.zero = some uz) (hsz : uz.cells.size = i.size)
include ht hi hiz hsz
theorem ef_apTo (hr : HRel ρ E s w) {b : NL} (hs : ApS P i uz tx uy b.n news w) (hcl : cvs ρ E b.l = some news) (hnl : news.length = b.n * i.size) (hpos : 0 < i.size) {x : AV} {ux : Value} (hx : cv ρ E x = some ux)
    (h : (apTo i.size i.bytes x b s k).run ρ = some r) : Eff P ρ E s w (Builtin.append_ #[t, tx] ty #[ux, uy]) k r := by
  rcases run_ifB h with ⟨hn, h⟩ | ⟨_, h⟩
  · rw [isNil2 hn] at hx
    simp at hx; subst hx
    rcases run_ifB h with ⟨h0, h⟩ | ⟨h0, h⟩
    · have h0 : b.n = 0 := by simpa using h0
      have := apS_none (ty := ty) (len := 0) (cap := 0) ht hi hiz hsz hs (by omega)
      rw [h0] at this
      exact .mk hr this (by simp) h
    · have h0 : b.n ≠ 0 := by intro e; rw [e] at h0; cases h0
      obtain ⟨hgr, h⟩ := run_guardB h
      have := ef_fresh (ty := ty) (base := none) (len := 0) (cap := 0) (olds := []) ht hi hiz hsz hr hs (by omega) (run_firstCells_none w.drew i.size 0 0 0) (by rw [Nat.zero_add]; exact hgr) hcl (by simpa using hnl) (k := k) (by rw [Nat.zero_add]; exact h)
      exact this
  · rcases run_onSomeOr h with ⟨v, hv, h⟩ | ⟨_, h⟩
    · rw [asSlc_eq hv] at hx
      rcases onCap_run h with ⟨n, hc, h⟩ | ⟨d, hc, h⟩
      · rw [hc] at hx
        exact ef_apEx ht hi hiz hsz hr hs hcl hnl hx h
      · rw [hc] at hx
        exact ef_apOp ht hi hiz hsz hr hs hcl hnl hpos hx h
    · rcases run_onSomeOr h with ⟨v, hv, h⟩ | ⟨_, h⟩
      · rw [asSslc_eq hv] at hx
        exact ef_apSeq ht hi hiz hsz hr hs hcl hnl hx h
      obtain ⟨v, hv, h⟩ := run_onSome h
      have hxe : x = .jslc v.p v.x v.n v.sz := by cases x <;> simp [AV.asJ] at hv; rw [← hv]
      rw [hxe] at hx
      exact ef_apJ ht hi hiz hsz hr hs hcl hnl hx h
end
theorem zerosOf_eq {bytes : Nat} {z : List AV} {n : Nat} {b : NL} (h : zerosOf bytes z n = some b) : n * bytes ≤ 1000000000 ∧ n ≤ 1000000000 ∧ b = ⟨n, repL z n⟩ := by
  unfold zerosOf at h
  cases hc : Nat.ble (Nat.mul n bytes) 1000000000 && Nat.ble n 1000000000 with
  | false => rw [hc] at h; cases h
  | true =>
    rw [hc] at h
    simp only [cond_true, Option.some.injEq] at h
    simp only [Bool.and_eq_true, Nat.ble_eq] at hc
    exact ⟨hc.1, hc.2, h.symm⟩
theorem ef_append (hres : Res ρ E ds ls fr a) (hr : HRel ρ E s w) {t tx ty : TypeId} {x y : Operand} (h : (evOp P (trAppend P ds t tx x y) call ls fr s k).run ρ = some r) :
    Eff P ρ E s w (Builtin.append_ #[t, tx] ty #[a.eval x, a.eval y]) k r := by
  unfold trAppend at h
  cases hse : sliceE P t with
  | none => rw [hse] at h; cases h
  | some e =>
    cases hk : (undA P tx).bind apKind with
    | none => rw [hse, hk] at h; cases h
    | some zs =>
      rw [hse, hk] at h
      simp only [appOp] at h
      cases hi0 : infoA P e with
      | none => rw [hi0] at h; cases h
      | some i =>
        cases hz : zeroOf P e with
        | none => rw [hi0, hz] at h; cases h
        | some z =>
          rw [hi0, hz] at h
          simp only at h
          obtain ⟨i', uz, hi, hiz, hszl, hcz⟩ := zeroOf_eq (ρ := ρ) (E := E) hz
          have := infoA_eq hi0
          rw [hi] at this; cases this
          have hsz : uz.cells.size = i.size := by rw [hszl]; exact zero_size (e := e) (i := i) hcz
          have ht := sliceE_eq hse
          obtain ⟨vx, vy, hvx, hvy, h⟩ := run_on2 hres h
          obtain ⟨hg, h⟩ := run_guardB h
          simp only [Bool.and_eq_true, Nat.blt_eq] at hg
          obtain ⟨b, hb, h9⟩ := run_onSome h
          clear h
          rcases apKind_eq hk with ⟨rfl, j, htx⟩ | ⟨rfl, htx⟩
          · simp only [cond_true] at hb
            obtain ⟨n, hn, hb⟩ := Option.bind_eq_some_iff.1 hb
            obtain ⟨h1, h2, rfl⟩ := zerosOf_eq hb
            obtain ⟨j', rfl⟩ := asNat_eq hn
            simp only [cv_int, Option.some.injEq] at hvy
            have hs : ApS P i uz tx (a.eval y) n (repV uz.cells.toList n) w := .inr ⟨⟨j, htx⟩, ⟨j', hvy.symm⟩, h2, h1, rfl⟩
            exact ef_apTo (b := ⟨n, repL z n⟩) ht hi hiz hsz hr hs (cvs_rep hcz n) (by rw [repV_length]; simp [hsz]) hg.1.2 hvx h9
          · simp only [cond_false] at hb
            obtain ⟨news, n1, n2, n3, n4, n5⟩ := cellsOf_ok (P := P) hr hb hvy
            exact ef_apTo (b := b) ht hi hiz hsz hr (.inl ⟨htx, n3, n4, n5⟩) n1 n2 hg.1.2 hvx h9

/-! ### copy -/
theorem takeL_mk : ∀ (n : Nat) (l : List AV), n ≤ l.length → takeL n l = some (l.take n)
  | 0, l, _ => rfl
  | n + 1, [], h => by simp at h
  | n + 1, x :: l, h => by
    have : takeL (n + 1) (x :: l) = (Option.rec (motive := fun _ => Option (List AV)) none (fun r => some (x :: r)) (takeL n l) : Option (List AV)) := rfl
    rw [this, takeL_mk n l (by simpa using h)]
    rfl
theorem loadN_take {p : Pos} {off n m : Nat} {cs : List AV} (h : s.loadN p off n = some cs) (hm : m ≤ n) : s.loadN p off m = some (cs.take m) := by
  obtain ⟨row, hr, hle, rfl⟩ := St.loadN_eq h
  unfold St.loadN
  rw [hr]
  simp only [Option.bind_some]
  rw [dropL_eq, List.take_take, Nat.min_eq_left hm]
  exact takeL_mk m _ (by simp; omega)
theorem cellsOf_take (hr : HRel ρ E s w) {sz : Nat} {y : AV} {b : NL} (h : cellsOf sz y s = some b) {uy : Value} (hy : cv ρ E y = some uy) {news : List Value} (hn : cvs ρ E b.l = some news) {m : Nat} (hm : m ≤ b.n) :
    (Builtin.firstCells sz m uy).run P w = .ok (news.take (m * sz)).toArray w := by
  unfold cellsOf at h
  cases hn2 : y.isNil 2 with
  | true =>
    rw [hn2] at h
    simp only [cond_true, Option.some.injEq] at h
    subst h
    rw [isNil2 hn2] at hy
    simp at hy; subst hy
    simp only at hm
    rw [cvs_nil hn, show m = 0 from by omega]
    simpa using run_firstCells_none w sz 0 0 0
  | false =>
    rw [hn2] at h
    simp only [cond_false] at h
    cases hs : y.asSlc with
    | some a =>
      rw [hs] at h
      simp only [Option.map_eq_some_iff] at h
      obtain ⟨l, hl, rfl⟩ := h
      rw [asSlc_eq hs] at hy
      obtain ⟨c, o, mm, hb, hcap, rfl⟩ := cv_slc hy
      have hle : m * sz ≤ Nat.mul a.len sz := Nat.mul_le_mul_right _ hm
      obtain ⟨c1, o1, us, hb1, hus, hl1⟩ := hr.loadCells (P := P) (loadN_take hl hle)
      rw [hb] at hb1; cases hb1
      rw [cvs_take _ hn] at hus; cases hus
      exact hl1
    | none =>
      rw [hs] at h
      simp only at h
      cases hz : Nat.beq sz 1 with
      | false => rw [hz] at h; cases h
      | true =>
        rw [hz] at h
        simp only [cond_true, Option.map_eq_some_iff] at h
        obtain ⟨l, hl, rfl⟩ := h
        rw [asStr_eq hl] at hy
        simp at hy; subst hy
        have hsz : sz = 1 := by simpa using hz
        subst hsz
        rw [byteL_cv] at hn
        cases hn
        simp [Builtin.firstCells, byteCells, bytesOf, Nat.mul_one]
theorem ef_copy (hres : Res ρ E ds ls fr a) (hr : HRel ρ E s w) {t ty : TypeId} {tl : List TypeId} {x y : Operand} (h : (evOp P (trCopy P ds t x y) call ls fr s k).run ρ = some r) :
    Eff P ρ E s w (Builtin.copy_ ⟨t :: tl⟩ ty #[a.eval x, a.eval y]) k r := by
  unfold trCopy at h
  cases hse : (sliceE P t).bind (sizeA P) with
  | none => rw [hse] at h; cases h
  | some z =>
    rw [hse] at h
    obtain ⟨e, he, hz⟩ := Option.bind_eq_some_iff.1 hse
    obtain ⟨i, hi, rfl⟩ := sizeA_eq hz
    have ht := sliceE_eq he
    obtain ⟨vx, vy, hvx, hvy, h⟩ := run_on2 hres h
    obtain ⟨b, hb, h⟩ := run_onSome h
    obtain ⟨news, n1, n2, n3, n4, n5⟩ := cellsOf_ok (P := P) hr hb hvy
    rcases run_ifB h with ⟨hn, h⟩ | ⟨_, h⟩
    · rw [isNil2 hn] at hvx
      simp only [cv_nils, Option.some.injEq] at hvx
      rw [← hvx]
      have h0 := cellsOf_take (P := P) hr hb hvy n1 (m := 0) (Nat.zero_le _)
      refine .mk hr (u := goInt 0) (v := .int .i64 (.ofNat 0)) ?_ (by simp [goInt]) (run_kLen h)
      have : (Builtin.firstCells i.size 0 (a.eval y)).run P w = .ok #[] w := by simpa using h0
      simp [Builtin.copy_, run_underlying ht, n3, sizeOf, typeInfo, hi, this, Nat.min_def]
    · obtain ⟨v, hv, h⟩ := run_onSome h
      obtain ⟨cs, hcs, h⟩ := run_onSome h
      obtain ⟨s', hs', h9⟩ := run_onSome h
      obtain ⟨hle, rfl⟩ := takeL_eq _ _ _ hcs
      have hmul : Nat.mul (Nat.min b.n v.len) i.size = Nat.min b.n v.len * i.size := rfl
      rw [hmul] at hs'
      rw [asSlc_eq hv] at hvx
      obtain ⟨c, o, m, hbk, hcap, hvx⟩ := cv_slc hvx
      obtain ⟨h1, h2, h3⟩ := storeN_ok (P := P) hr hs' (cvs_take _ n1) hbk
      have h0 := cellsOf_take (P := P) hr hb hvy n1 (m := Nat.min b.n v.len) (Nat.min_le_left _ _)
      rw [hvx]
      refine ⟨goInt (Nat.min b.n v.len), _, .int .i64 (.ofNat (Nat.min b.n v.len)), s', E, ?_, by simp [goInt], h3, h2, run_kLen h9⟩
      have hmin : (if b.n ≤ v.len then b.n else v.len) = Nat.min b.n v.len := rfl
      simp [Builtin.copy_, run_underlying ht, n3, sizeOf, typeInfo, hi, h0, h1]
end Go.Ab
end

section
namespace Go.Ab
variable {β : Type} {P : Program} {ρ : Val} {E : Mem} {s : St} {w : World} {r : β} {k : Kv β}
variable {ds : List (Option Nat)} {ls : List AV} {fr : Fr} {a : Act} {call : CallT β}

/-! ### a block is set anew -/
def setBlk (w : World) (c : Nat) (o : Obj) : World := { w with heap := w.heap.set! c o }
theorem run_setMap {c : Nat} {es : Array MapEntry} {n : Nat} {o : Obj} (h : w.heap[c]? = some (.map es n)) : (setObj c o).run P w = .ok () (setBlk w c o) := by
  simp [setObj, Sem.run, h, setBlk]
theorem run_setSit {c : Nat} {x : ByteArray} {n : Nat} {o : Obj} (h : w.heap[c]? = some (.stringIter x n)) : (setObj c o).run P w = .ok () (setBlk w c o) := by
  simp [setObj, Sem.run, h, setBlk]
theorem HRel.setBlk {p : Pos} {b nb : Blk} {c o : Nat} {obj : Obj} (h : HRel ρ E s w) (hb : s.heap.get p = some b) (hlive : Live b) (hbl : E.blk p = some (c, o)) (hnb : BRel ρ E p nb (setBlk w c obj)) (hro : b.isRo = false := by rfl) :
    HRel ρ E (s.put p nb) (Ab.setBlk w c obj) ∧ Step E s w E (s.put p nb) (Ab.setBlk w c obj) := by
  have hne : ∀ q, q ≠ c → (Ab.setBlk w c obj).heap[q]? = w.heap[q]? := fun q hq => by simp [Ab.setBlk, Array.getElem?_set, Array.set!_eq_setIfInBounds, Array.getElem?_setIfInBounds, Ne.symm hq]
  have key : ∀ x bx, (s.put p nb).heap.get x = some bx → Live bx → ∃ by', s.heap.get x = some by' ∧ Live by' ∧ (by'.isRo = true → bx.isRo = true) := by
    intro x bx hx hl
    simp only [St.put, Trie.get_put] at hx
    by_cases e : x = p
    · rw [e]; exact ⟨b, hb, hlive, fun e => by rw [hro] at e; cases e⟩
    · rw [if_neg e] at hx; exact ⟨bx, hx, hl, id⟩
  refine ⟨⟨?_, ?_, ?_, h.free, h.asm⟩, ⟨.refl E, Nat.le_refl _, fun _ _ => rfl, by simp [Ab.setBlk], ?_, ?_, rfl, rfl, rfl, ?_⟩⟩
  · intro q bq hq
    simp only [St.put, Trie.get_put] at hq
    by_cases e : q = p
    · rw [if_pos e] at hq; cases hq; rw [e]; exact hnb
    · rw [if_neg e] at hq
      refine (h.blks q bq hq).congr (.refl E) fun c2 o2 hl he => hne c2 fun e2 => e ?_
      subst e2
      exact (h.inj q p bq b c2 o2 o hq hb hl hlive he hbl).resolve_right fun e => by rw [hro] at e; cases e.2
  · intro q q' b1 b2 c1 o1 o2 hq hq' hl hl' he he'
    obtain ⟨x1, hx1, hl1, hr1⟩ := key q b1 hq hl
    obtain ⟨x2, hx2, hl2, hr2⟩ := key q' b2 hq' hl'
    rcases h.inj q q' x1 x2 c1 o1 o2 hx1 hx2 hl1 hl2 he he' with e | ⟨e1, e2⟩
    · exact .inl e
    · exact .inr ⟨hr1 e1, hr2 e2⟩
  · intro q bq hq
    simp only [St.put, Trie.get_put] at hq
    by_cases e : q = p
    · rw [e]; exact h.dom p b hb
    · rw [if_neg e] at hq; exact h.dom q bq hq
  · intro q hq hn
    exact hne q fun e => hn p b o hb hlive (by rw [hbl, e])
  · intro q bq c1 o1 hq hl he
    obtain ⟨x1, hx1, hl1, _⟩ := key q bq hq hl
    exact .inr ⟨q, x1, o1, hx1, hl1, he⟩
  · intro q x k t hq
    show (s.heap.put p (some nb)).get q = _
    rw [Trie.get_put]
    by_cases e : q = p
    · subst e; rw [hb] at hq; cases hq; cases hro
    · rw [if_neg e]; exact hq
theorem setBlk_get {c : Nat} {obj : Obj} {o : Obj} (h : w.heap[c]? = some o) : (Ab.setBlk w c obj).heap[c]? = some obj := by
  have := (Array.getElem?_eq_some_iff.1 h).1
  simp [Ab.setBlk, Array.set!_eq_setIfInBounds, Array.getElem?_setIfInBounds, this]

/-! ### sameness -/
theorem sameN_eq : ∀ (l m : List Nat), sameN l m = true → l = m
  | [], [], _ => rfl
  | [], b :: m, h => by simp [sameN] at h
  | a :: l, [], h => by simp [sameN] at h
  | a :: l, b :: m, h => by
    simp only [sameN, Bool.and_eq_true, Nat.beq_eq] at h
    rw [h.1, sameN_eq l m h.2]
theorem ite_true {p : Prop} [Decidable p] (h : (if p then true else false) = true) : p := by
  by_cases hp : p
  · exact hp
  · rw [if_neg hp] at h; cases h
mutual
theorem same_eq : ∀ (x y : AV), AV.same x y = true → x = y
  | .bool a, y, h => by cases y <;> simp [AV.same] at h; rw [h]
  | .int j a, y, h => by
    cases y <;> simp [AV.same] at h
    rw [h.1, (ieq_iff _ _).1 h.2]
  | .str a, y, h => by
    cases y <;> simp [AV.same] at h
    rw [sameN_eq _ _ h]
  | .nilp, y, h => by cases y <;> simp [AV.same] at h; rfl
  | .ptr p o, y, h => by
    cases y <;> simp [AV.same, Pos.beq_eq] at h
    rw [h.1, h.2]
  | .nils, y, h => by cases y <;> simp [AV.same] at h; rfl
  | .slc p o n c, y, h => by
    cases y <;> simp [AV.same, Pos.beq_eq] at h
    obtain ⟨⟨⟨h1, h2⟩, h3⟩, h4⟩ := h
    rw [h1, h2, h3, h4]
  | .nilm, y, h => by cases y <;> simp [AV.same] at h; rfl
  | .map p, y, h => by
    cases y <;> simp [AV.same, Pos.beq_eq] at h
    rw [h]
  | .func f a c, y, h => by
    cases y <;> simp [AV.same] at h
    obtain ⟨⟨h1, h2⟩, h3⟩ := h
    rw [h1, sameL_eq _ _ h2, sameL_eq _ _ h3]
  | .nilf, y, h => by cases y <;> simp [AV.same] at h; rfl
  | .iface t v, y, h => by
    cases y <;> simp [AV.same] at h
    rw [h.1, same_eq _ _ h.2]
  | .nili, y, h => by cases y <;> simp [AV.same] at h; rfl
  | .agg a, y, h => by
    cases y <;> simp [AV.same] at h
    rw [sameL_eq _ _ h]
  | .tup a, y, h => by
    cases y <;> simp [AV.same] at h
    rw [sameL_eq _ _ h]
  | .sint j a, y, h => by
    cases y <;> simp [AV.same] at h
    rw [h.1, h.2]
  | .sbool a, y, h => by
    cases y <;> simp [AV.same] at h
    rw [h]
  | .opq a, y, h => by
    cases y <;> simp [AV.same] at h
    rw [h]
  | .yld a, y, h => by
    cases y <;> simp [AV.same] at h
    rw [(Pos.beq_eq _ _).1 h]
  | .jslc a b c d, y, h => by
    cases y <;> simp [AV.same] at h
    rw [(Pos.beq_eq _ _).1 h.1.1.1, h.1.1.2, h.1.2, h.2]
  | .sstr a, y, h => by
    cases y <;> simp [AV.same] at h
    rw [sameE_eq h]
  | .sslc a b c d, y, h => by
    cases y <;> simp [AV.same] at h
    rw [(Pos.beq_eq _ _).1 h.1.1.1, sameE_eq h.1.1.2, sameE_eq h.1.2, sameO_eq h.2]
  | .sptr a b, y, h => by
    cases y <;> simp [AV.same] at h
    rw [(Pos.beq_eq _ _).1 h.1, sameE_eq h.2]
  | .bad, y, h => by cases y <;> simp [AV.same] at h
theorem sameL_eq : ∀ (x y : List AV), sameL x y = true → x = y
  | [], y, h => by cases y <;> simp [sameL] at h; rfl
  | a :: l, y, h => by
    cases y <;> simp [sameL] at h
    rw [same_eq _ _ h.1, sameL_eq _ _ h.2]
end
theorem bytesBeq (a b : ByteArray) : (a == b) = true ↔ a = b := by
  obtain ⟨a⟩ := a
  obtain ⟨b⟩ := b
  show (a == b) = true ↔ _
  rw [beq_iff_eq, ByteArray.mk.injEq]
/-- plain keys -/
theorem bitsOk_same : ∀ (n m : Nat), n ≤ m → ∀ (x : AV) (u : Value), bitsOk n x = true → cv ρ E x = some u → Instr.sameBits m u u = true
  | 0, m, _, x, u, h, _ => by simp [bitsOk] at h
  | n + 1, 0, hm, _, _, _, _ => by omega
  | n + 1, m + 1, hm, x, u, h, hx => by
    cases x <;> simp only [bitsOk, Bool.false_eq_true] at h
    case bool b => simp at hx; subst hx; simp [Instr.sameBits]
    case int j b => simp at hx; subst hx; simp [Instr.sameBits]
    case str l => simp at hx; subst hx; simp only [Instr.sameBits]; exact (bytesBeq _ _).2 rfl
    case agg l =>
      obtain ⟨us, hus, rfl⟩ := cv_agg hx
      have key : ∀ (l : List AV) (us : List Value), l.all (bitsOk n) = true → cvs ρ E l = some us → (us.zip us).all (fun (x, y) => Instr.sameBits m x y) = true := by
        intro l
        induction l with
        | nil => intro us _ hus; rw [cvs_nil hus]; rfl
        | cons a l ih =>
          intro us h hus
          obtain ⟨x, y, rfl, h1, h2⟩ := cvs_cons hus
          simp only [List.all_cons, Bool.and_eq_true] at h
          simp only [List.zip_cons_cons, List.all_cons, Bool.and_eq_true]
          exact ⟨bitsOk_same n m (by omega) a x h.1 h1, ih y h.2 h2⟩
      simp only [Instr.sameBits, beq_self_eq_true, Bool.true_and]
      exact key l us h hus

/-! ### maps -/
theorem centries_get : ∀ (n : Nat) {l : List Ent} {us : List MapEntry} , centries ρ E l = some us → l.length = us.length
  | _, [], us, h => by simp [centries] at h; subst h; rfl
  | n, e :: l, us, h => by
    simp only [centries, Option.bind_eq_some_iff, Option.map_eq_some_iff] at h
    obtain ⟨x, hx, y, hy, rfl⟩ := h
    simp [centries_get n hy]
theorem centries_append : ∀ {l m : List Ent} {us vs : List MapEntry}, centries ρ E l = some us → centries ρ E m = some vs → centries ρ E (l ++ m) = some (us ++ vs)
  | [], m, us, vs, h, h' => by simp [centries] at h; subst h; exact h'
  | e :: l, m, us, vs, h, h' => by
    simp only [centries, Option.bind_eq_some_iff, Option.map_eq_some_iff] at h
    obtain ⟨x, hx, y, hy, rfl⟩ := h
    simp [centries, hx, centries_append hy h']
theorem centries_set : ∀ (n : Nat) {l : List Ent} {us : List MapEntry} {e : Ent} {ue : MapEntry}, centries ρ E l = some us → centry ρ E e = some ue → centries ρ E (setNth n e l) = some (us.set n ue)
  | _, [], us, _, _, h, _ => by simp [centries] at h; subst h; simp [setNth, centries]
  | 0, e' :: l, us, _, _, h, h' => by
    simp only [centries, Option.bind_eq_some_iff, Option.map_eq_some_iff] at h
    obtain ⟨x, hx, y, hy, rfl⟩ := h
    simp [setNth, centries, h', hy]
  | n + 1, e' :: l, us, _, _, h, h' => by
    simp only [centries, Option.bind_eq_some_iff, Option.map_eq_some_iff] at h
    obtain ⟨x, hx, y, hy, rfl⟩ := h
    simp [setNth, centries, hx, centries_set n hy h']
theorem centries_del : ∀ (n : Nat) {l : List Ent} {us : List MapEntry}, centries ρ E l = some us → centries ρ E (delNth n l) = some (us.eraseIdx n)
  | _, [], us, h => by simp [centries] at h; subst h; simp [delNth, centries]
  | 0, e' :: l, us, h => by
    simp only [centries, Option.bind_eq_some_iff, Option.map_eq_some_iff] at h
    obtain ⟨x, hx, y, hy, rfl⟩ := h
    simp [delNth, hy]
  | n + 1, e' :: l, us, h => by
    simp only [centries, Option.bind_eq_some_iff, Option.map_eq_some_iff] at h
    obtain ⟨x, hx, y, hy, rfl⟩ := h
    simp [delNth, centries, hx, centries_del n hy]
theorem map_rel {p : Pos} {c o : Nat} {es : List Ent} {us : List MapEntry} {n : Nat} (hb : E.blk p = some (c, o)) (hc : centries ρ E es = some us) {w0 : World} {ob : Obj} (h0 : w0.heap[c]? = some ob) :
    BRel ρ E p (.map es n) (Ab.setBlk w0 c (.map us.toArray n)) := ⟨c, o, us, hb, hc, setBlk_get h0⟩
theorem er_upd {o : Oper} (hres : Res ρ E ds ls fr a) (hr : HRel ρ E s w) {t : TypeId} {x y z : Operand} (ho : execOp a.eval o = (do Instr.mapUpdate t (a.eval x) (a.eval y) (a.eval z); pure .skip)) (h : (evOp P (trOp P ds (.mapUpdate t x y z)) call ls fr s k).run ρ = some r) : ER P ρ E s w o a k r := by
  simp only [trOp] at h
  split at h
  case h_2 => cases h
  rename_i kt et hu
  have ht := undA_eq hu
  obtain ⟨vm, vk, hvm, hvk, h⟩ := run_on2 hres h
  obtain ⟨vv, hvv, h⟩ := run_onArg hres h
  obtain ⟨hf, h⟩ := run_guardB h
  have hck : ∀ (e : Bool) , (Instr.checkKey e 10000 kt (a.eval y)).run P w = .ok () w := fun e => run_checkKey 10 10000 (by omega) kt vk (a.eval y) e hf hvk
  obtain ⟨d, hd⟩ := keyFits_und hf
  obtain ⟨p, hp, h⟩ := run_onSome h
  obtain ⟨b, hb, h⟩ := run_onSome h
  rw [asMap_eq hp] at hvm
  obtain ⟨c, oo, hbk, hum⟩ := cv_map hvm
  obtain ⟨c', o', us, hb', hus, hheap⟩ := hr.blks p _ (St.mapAt_eq hb)
  rw [hbk] at hb'; cases hb'
  have h : (findX P kt vk b.es s _).run ρ = some r := h
  rw [findX_eq] at h
  obtain ⟨res, ures, s', hmore, hfr, h, hres'⟩ := findE_ok (P := P) hvk b.es us 0 h hr hus
  have hfk := hfr.findKey hd
  have hobj : (getObj c).run P w = .ok (.map us.toArray b.clock) w := by simp [getObj, Sem.run, hheap]
  have hr' := hr.more hmore
  have hget : s'.heap.get p = some (.map b.es b.clock) := by rw [hmore.heap]; exact St.mapAt_eq hb
  rcases hres' with ⟨rfl, rfl⟩ | ⟨n, e, ue, rfl, rfl, hen, huen, hce⟩
  · simp only [Option.map_none] at hfk
    have hnew : centries ρ E (b.es ++ [{ key := vk, val := vv, born := b.clock }]) = some (us ++ [⟨a.eval y, a.eval z, b.clock⟩]) := centries_append hus (by simp [centries, centry, hvk, hvv])
    obtain ⟨h1, h2⟩ := hr'.setBlk hget (by simp [Live]) hbk (map_rel (n := b.clock + 1) hbk hnew hheap)
    refine .skip (w' := _) ?_ ⟨_, _, E, ?_, (Step.more hmore).trans h2, h1, h⟩
    · rw [ho, hum]
      simp [Instr.mapUpdate, run_underlying ht, hobj, hck, hfk, run_setMap hheap]
    · simp [undefA, cv, undef, cvs]
  · obtain ⟨hs, h⟩ := run_guardB h
    simp only [Bool.and_eq_true] at hs
    have hkey := same_eq _ _ hs.1
    simp only [centry, Option.bind_eq_some_iff, Option.map_eq_some_iff] at hce
    obtain ⟨uk, huk, uv, huv, rfl⟩ := hce
    rw [hkey, hvk] at huk
    cases huk
    simp only [Option.map_some, Nat.zero_add] at hfk h
    have hnew : centries ρ E (setNth n { e with key := vk, val := vv } b.es) = some (us.set n ⟨a.eval y, a.eval z, e.born⟩) := centries_set n hus (by simp [centry, hvk, hvv])
    obtain ⟨h1, h2⟩ := hr'.setBlk hget (by simp [Live]) hbk (map_rel (n := b.clock) hbk hnew hheap)
    have hbits : Instr.sameBits 10000 (a.eval y) (a.eval y) = true := bitsOk_same 9 10000 (by omega) vk _ hs.2 hvk
    have hstay : (Instr.keyThatStays (a.eval y) (a.eval y)).run P w = .ok (a.eval y) w := by simp [Instr.keyThatStays, hbits]
    have hmod : us.modify n (fun x => { x with key := a.eval y, val := a.eval z }) = us.set n ⟨a.eval y, a.eval z, e.born⟩ := by
      apply List.ext_getElem?
      intro j
      rw [List.getElem?_modify, List.getElem?_set]
      obtain ⟨hlt, hun⟩ := List.getElem?_eq_some_iff.1 huen
      by_cases hj : n = j
      · subst hj; simp [hlt, hun]
      · simp [hj]
    refine .skip (w' := _) ?_ ⟨_, _, E, ?_, (Step.more hmore).trans h2, h1, h⟩
    · rw [ho, hum]
      simp [Instr.mapUpdate, run_underlying ht, hobj, hck, hfk, huen, hstay, run_setMap hheap, hmod]
    · simp [undefA, cv, undef, cvs]
theorem ef_delete (hres : Res ρ E ds ls fr a) (hr : HRel ρ E s w) {t ty : TypeId} {tl : List TypeId} {x y : Operand} (h : (evOp P (trDelete P ds t x y) call ls fr s k).run ρ = some r) :
    Eff P ρ E s w (Builtin.delete_ ⟨t :: tl⟩ ty #[a.eval x, a.eval y]) k r := by
  unfold trDelete at h
  split at h
  case h_2 => cases h
  rename_i kt et hu
  have ht := undA_eq hu
  obtain ⟨vm, vk, hvm, hvk, h⟩ := run_on2 hres h
  obtain ⟨hf, h⟩ := run_guardB h
  have hck : ∀ (e : Bool) , (Instr.checkKey e 10000 kt (a.eval y)).run P w = .ok () w := fun e => run_checkKey 10 10000 (by omega) kt vk (a.eval y) e hf hvk
  obtain ⟨d, hd⟩ := keyFits_und hf
  rcases run_ifB h with ⟨hn, h⟩ | ⟨_, h⟩
  · rw [isNil3 hn] at hvm
    simp only [cv_nilm, Option.some.injEq] at hvm
    rw [← hvm]
    exact .mk hr (u := .tuple #[]) (by simp [Builtin.delete_, run_underlying ht, hck]) (by simp [cv, cvs]) h
  obtain ⟨p, hp, h⟩ := run_onSome h
  obtain ⟨b, hb, h⟩ := run_onSome h
  rw [asMap_eq hp] at hvm
  obtain ⟨c, oo, hbk, hum⟩ := cv_map hvm
  obtain ⟨c', o', us, hb', hus, hheap⟩ := hr.blks p _ (St.mapAt_eq hb)
  rw [hbk] at hb'; cases hb'
  have h : (findX P kt vk b.es s _).run ρ = some r := h
  rw [findX_eq] at h
  obtain ⟨res, ures, s', hmore, hfr, h, hres'⟩ := findE_ok (P := P) hvk b.es us 0 h hr hus
  have hfk := hfr.findKey hd
  have hobj : (getObj c).run P w = .ok (.map us.toArray b.clock) w := by simp [getObj, Sem.run, hheap]
  have hr' := hr.more hmore
  have hget : s'.heap.get p = some (.map b.es b.clock) := by rw [hmore.heap]; exact St.mapAt_eq hb
  rw [hum]
  rcases hres' with ⟨rfl, rfl⟩ | ⟨n, e, ue, rfl, rfl, hen, huen, hce⟩
  · simp only [Option.map_none] at hfk
    have hsame : Ab.setBlk w c (.map us.toArray b.clock) = w := by
      have hlt := (Array.getElem?_eq_some_iff.1 hheap)
      obtain ⟨hl, he⟩ := hlt
      have : w.heap.set! c (.map us.toArray b.clock) = w.heap := by
        apply Array.ext_getElem?
        intro j
        rw [Array.set!_eq_setIfInBounds, Array.getElem?_setIfInBounds]
        by_cases hj : c = j
        · subst hj; simp [hl, hheap, he]
        · simp [hj]
      unfold Ab.setBlk
      rw [this]
    refine ⟨.tuple #[], w, .tup [], s', E, ?_, by simp [cv, cvs], .more hmore, hr', h⟩
    simp [Builtin.delete_, run_underlying ht, hobj, hck, hfk, run_setMap hheap, hsame]
  · simp only [Option.map_some, Nat.zero_add] at hfk h
    have hnew := centries_del n hus
    obtain ⟨h1, h2⟩ := hr'.setBlk hget (by simp [Live]) hbk (map_rel (n := b.clock) hbk hnew hheap)
    refine ⟨.tuple #[], _, .tup [], _, E, ?_, by simp [cv, cvs], (Step.more hmore).trans h2, h1, h⟩
    have : us.toArray.eraseIdxIfInBounds n = (us.eraseIdx n).toArray := by simp
    simp [Builtin.delete_, run_underlying ht, hobj, hck, hfk, run_setMap hheap, this]
end Go.Ab
end
