/- The statement HostsErrorsSaid, for every input. -/
import Derived.Test.YtbmneikfcbbmmaaGreatMD
import Derived.Test.YtbmneikfcbbmmaaGreatVV
import Derived.Test.YtbmneikfcbbmmaaGreatRows
import Derived.ProofKit
import Derived.OpenShut
import Derived.Deep.Slices
import Derived.LaidMore
import Derived.Lay
set_option linter.unusedVariables false
set_option linter.unusedSimpArgs false
set_option linter.unusedSectionVars false
namespace Go.Proofs.YtbmneikfcbbmmaaGreat
open Go.ChangeShapes Go.WideShapes Go.ChangeAt Go.RowKit
set_option linter.unusedVariables false

theorem own : ownKnob Tryz.prog.godebug = none := by kernel_rfl
theorem laidOut : laidOutB Tryz.prog = true := by kernel_rfl
theorem cells56 : Tryz.prog.cellsOf 56 = 11 := by kernel_rfl
theorem cells5 : Tryz.prog.cellsOf 5 = 1 := by kernel_rfl
theorem cells4 : Tryz.prog.cellsOf 4 = 1 := by kernel_rfl
theorem cells3 : Tryz.prog.cellsOf 3 = 1 := by kernel_rfl
theorem cells54 : Tryz.prog.cellsOf 54 = 1 := by kernel_rfl
theorem cells23 : Tryz.prog.cellsOf 23 = 1 := by kernel_rfl
theorem wf_u8 {n : Int} (w : (Lit.int .u8 n).wf = true) : 0 ≤ n ∧ n ≤ 255 := by simpa [Lit.wf, IntKind.min, IntKind.max, IntKind.signed, IntKind.bits] using w
set_option maxRecDepth 100000 in
theorem pipe_of {H : Type} {enc : TypeId × Value → H} {W : World} {base : Nat} {v : Value} {d : DataW H} {p : List MemPlace} (hok : Value.okWide Tryz.prog W .any base 56 v) (h0 : DataW.Trod enc Tryz.prog W 0 (fun _ => true) true 56 v d p) :
    ∃ x : HX.Pipe, v = x.val ∧ HX.Bytes x := by
  obtain ⟨cs, rfl, hsz⟩ := okWide_struct Tryz.underlying56 hok
  obtain ⟨fuel, hf⟩ := h0
  obtain ⟨l⟩ := cs
  rw [cells56] at hsz
  have hlen : l.length = 11 := by simpa using hsz
  match l, hlen with
  | [a0, a1, a2, a3, a4, a5, a6, a7, a8, a9, a10], _ =>
    have hf : DataW.trod enc Tryz.prog W 0 (fun _ => true) true fuel 56 [a0, a1, a2, a3, a4, a5, a6, a7, a8, a9, a10] = some (d, p) := hf
    obtain ⟨xs, n, _, _, _, hxl, hel⟩ := DataW.trod_struct Tryz.underlying56 hf
    have hxl : xs.length = 11 := hxl
    have f0 := hel 0 ⟨"Addr", 5, 0, false, "", "", 0⟩ rfl
    have f1 := hel 1 ⟨"Endp", 5, 1, false, "", "", 1⟩ rfl
    have f2 := hel 2 ⟨"In", 4, 2, false, "", "", 2⟩ rfl
    have f3 := hel 3 ⟨"Kind", 54, 3, false, "", "", 3⟩ rfl
    have f4 := hel 4 ⟨"Max", 3, 4, false, "", "", 8⟩ rfl
    have f5 := hel 5 ⟨"Period", 3, 5, false, "", "", 16⟩ rfl
    have f6 := hel 6 ⟨"Speed", 23, 6, false, "", "", 24⟩ rfl
    have f7 := hel 7 ⟨"Hub", 5, 7, false, "", "", 25⟩ rfl
    have f8 := hel 8 ⟨"Port", 5, 8, false, "", "", 26⟩ rfl
    have f9 := hel 9 ⟨"Toggle", 4, 9, false, "", "", 27⟩ rfl
    have f10 := hel 10 ⟨"Halted", 4, 10, false, "", "", 28⟩ rfl
    rw [List.getElem?_eq_getElem (by omega)] at f0 f1 f2 f3 f4 f5 f6 f7 f8 f9 f10
    simp only [cells5, cells4, cells3, cells54, cells23, List.drop, List.take] at f0 f1 f2 f3 f4 f5 f6 f7 f8 f9 f10
    obtain ⟨x0, e0, _, w0⟩ := DataW.trod_int Tryz.underlying5 f0
    obtain ⟨x1, e1, _, w1⟩ := DataW.trod_int Tryz.underlying5 f1
    obtain ⟨x2, e2, _⟩ := DataW.trod_bool Tryz.underlying4 f2
    obtain ⟨x3, e3, _, w3⟩ := DataW.trod_int Tryz.underlying54 f3
    obtain ⟨x4, e4, _, w4⟩ := DataW.trod_int Tryz.underlying3 f4
    obtain ⟨x5, e5, _, w5⟩ := DataW.trod_int Tryz.underlying3 f5
    obtain ⟨x6, e6, _, w6⟩ := DataW.trod_int Tryz.underlying23 f6
    obtain ⟨x7, e7, _, w7⟩ := DataW.trod_int Tryz.underlying5 f7
    obtain ⟨x8, e8, _, w8⟩ := DataW.trod_int Tryz.underlying5 f8
    obtain ⟨x9, e9, _⟩ := DataW.trod_bool Tryz.underlying4 f9
    obtain ⟨x10, e10, _⟩ := DataW.trod_bool Tryz.underlying4 f10
    simp only [List.cons.injEq, and_true] at e0 e1 e2 e3 e4 e5 e6 e7 e8 e9 e10
    subst e0 e1 e2 e3 e4 e5 e6 e7 e8 e9 e10
    exact ⟨⟨x0, x1, x2, x3, x4, x5, x6, x7, x8, x9, x10⟩, rfl, ⟨wf_u8 w0, wf_u8 w1, wf_u8 w3, wf_u8 w6, wf_u8 w7, wf_u8 w8⟩⟩

set_option maxRecDepth 100000 in
theorem errors_lifted (os : Os) (started : os.Started) (H : Type) (enc : TypeId × Value → H) :
    ReturnsInHanded {} Tryz.checked os 7 .any (Rows.hostsErrorsSpec.pre6 enc Tryz.prog Tryz.f7 Rows.hostsErrorsRow.domain false) (Rows.hostsErrorsSpec.post enc Tryz.prog Tryz.f7 false true false false) := by
  refine returnsInHanded_of_change (C := Tryz.checked) own started (by kernel_rfl) Tryz.func7
    (ChangeSpec.witness6 (enc := enc) (C := Tryz.checked) false ⟨#[], #[.agg #[.int .u8 0, .int .u8 0, .bool false, .int .u8 0, .int .i64 0, .int .i64 0, .int .u8 0, .int .u8 0, .int .u8 0, .bool false, .bool false], .int .i64 0], []⟩ 8 (by kernel_rfl) (by kernel_rfl) (by kernel_rfl) (by kernel_rfl)) ?_
  intro W base args ds gs before hval0 hW hcnd _
  have hval : ∀ (j : Nat) t v, Tryz.f7.params[j]? = some t → args[j]? = some v → Value.okWide Tryz.prog W .any base t v := hval0
  have hW' := hW
  obtain ⟨p, q, hA0, hV, rfl, hfz, hnd⟩ := hW
  have hA : DataW.TrodAll enc Tryz.prog W 0 (fun _ => true) true Tryz.f7.params.toList args.toList ds p := hA0
  rw [Tryz.params7] at hA hval
  obtain ⟨v0, v1, d0, d1, p0, p1, rfl, rfl, rfl, h0, h1⟩ := trodAll_two hA
  obtain ⟨rfl, rfl⟩ := trodVars_none hV
  obtain ⟨a1, rfl, rfl, rfl, w1⟩ := open_int Tryz.underlying3 (hval 1 3 v1 rfl rfl) h1
  have h0k := h0
  obtain ⟨x, rfl, hx⟩ := pipe_of (base := base) (hval 0 56 v0 rfl rfl) h0
  clear hA0 hval0
  simp only [List.append_nil, List.nil_append] at hW'
  have hlt : ∀ x ∈ p0, x.block < W.heap.size := fun x hx => by simpa using hW'.lt x hx
  have hargs : ∀ (W' : World), Below W.heap.size W W' → DataW.Trod enc Tryz.prog W' 0 (fun b => decide (b < W.heap.size)) true 56 x.val d0 p0 :=
    fun W' hn => Below.trod laidOut (by kernel_rfl) (of_decide_eq_true (by kernel_rfl)) h0k hn hlt
  refine (HX.main hx W).mono fun e W' ⟨he, hb⟩ => ?_
  subst he
  exact ⟨_, rfl, ⟨_, _, _, [], _, [], hW', trodAll_mk1 (shut_bool Tryz.underlying4 _), trodAll_mk2 (hargs W' hb) (shut_int Tryz.underlying3 w1), rfl, hb.frame _, fun h => by cases h⟩⟩

theorem hosts_errors_holds : Rows.HostsErrorsSaid :=
  OpenClaim.holds_of_wide 7 Tryz.f7 rfl rfl rfl rfl rfl rfl rfl ⟨rfl, rfl, rfl, rfl, rfl⟩ rfl rfl rfl rfl rfl facts1 Tryz.func7 facts2 facts3 facts4
    (fun os started H enc _ => errors_lifted os started H enc)
end Go.Proofs.YtbmneikfcbbmmaaGreat
