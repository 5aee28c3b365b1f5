/- SplitsHost: the templates, the runs and their checks (definitions). -/
import Derived.Test.YtjfpofhpcphedaaGreatEH
import Derived.Test.YtjfpofhpcphedaaGreatProg
set_option linter.unusedVariables false
set_option linter.unusedSimpArgs false
set_option linter.unusedSectionVars false
section
open Go Go.Ab Go.Proofs
namespace Go.Proofs.YtjfpofhpcphedaaGreat.SH
def masks : List Nat := [0, 0, 0, 116244402112860231281787352119873343555315508396206480500703085754506870259655, 39614383488875302831291126399, 79, 631, 81132114465429477531504435273631, 79, 8724169181, 21, 18455821710436861439, 5, 11324597171209962940719312522882278658932735, 68726849581, 15, 7, 5, 15, 525, 32829, 9444805058518246901703, 71, 5, 5, 5, 4836302797645379025240315, 9241386443956421115, 2260604496707375, 23, 131, 1073742847, 35184388906999, 23, 5, 623389305255875586556383, 8389633, 664616533193733950776684237685792771, 77673485063161437671655455, 5, 21, 528435, 524307, 2216270307571, 1082142479, 1, 8205, 5, 21, 5, 41112931841251800028029051, 21, 339, 5, 18051782039536351, 223, 21, 7, 8197, 1048579, 16517, 37, 37, 21, 5, 618970019651734754459419643, 1180879992389397121083, 257, 5, 172573, 8733, 4019, 3975, 31, 5, 74973229, 144185831698203677, 3, 13, 5, 3, 5, 3, 5, 3, 5, 3, 5, 13, 3, 5, 3, 5, 3, 4, 0, 5, 3, 19, 5, 13, 5, 5, 5, 21, 271, 10384593871817177683247510831234831, 5, 1073746119, 1074268103, 8804682991559, 20829169751433159, 8391, 83087207854311395603287443752634311, 19, 19023213622105999119, 22458641409078797123448399039441150152463, 277, 16661, 4503668346913551, 5, 5, 71, 1055, 5, 262927, 0, 0, 0, 0, 0, 0, 0, 0, 0, 0, 0, 0, 0, 0, 0, 281476051239227, 4, 0, 0, 5, 0, 4, 21, 8195, 2049, 21, 2053, 294957, 8195, 1025, 5, 19, 7, 65663, 1, 19, 5, 21, 66483, 2161728370898063231, 4223, 2021163519, 33, 1, 21, 66483, 2417925426473834024804719, 31, 1075709431, 19, 66483, 15, 21, 5, 5, 5, 990895, 35184876582611, 4210261, 262159, 1139, 1099511889943, 35374298455, 32925, 33243078329007, 16806963, 2148483575, 66483, 34877, 19, 5, 5, 19, 7, 69175290308874755455, 9223372166215499903, 72057658715094463, 7, 1151039, 1693, 1966125, 5, 7, 66483, 15, 296352743455, 65551, 8390973, 19, 5, 5, 79, 275159973895, 287, 93536104789560604428000148544236911726365580993149, 247, 4319059, 21, 5, 66483, 5, 85070916328093808077741356565204697467, 17, 147573952590213349437, 42535336430091257778066843306448404475, 1073741853, 5, 4211, 65541, 65595, 19, 272695751, 5, 66483, 19, 1005, 5, 21, 158456930082889466166949971431, 134348813, 1048827, 51, 7, 269484045, 549789368333, 151411200179131392196731, 129, 5, 3389, 70437463654941, 5, 7, 0, 0, 0, 0]
noncomputable def ctx : Ctx := mkCtx Tryz.prog masks fun _ => none
def s0 : St := ⟨.lf, posOf 600, []⟩
noncomputable def runF {β} (n : Nat) (f : FuncId) (args : List AV) (k : AV → St → Tree β) : Tree β := callA ctx (exec Tryz.prog ctx n β) f args s0 k
end Go.Proofs.YtjfpofhpcphedaaGreat.SH
end

section
open Go Go.Ab Go.Proofs
namespace Go.Proofs.YtjfpofhpcphedaaGreat.SH
noncomputable def code3 : Code := match funcA Tryz.prog 3 with | some f => (f.body.getD .skip) | none => .skip
noncomputable def sp3 : List Code := spine code3
def takeC : Nat → List Code → List Code | 0, _ => [] | _, [] => [] | n+1, c :: l => c :: takeC n l
def dropC : Nat → List Code → List Code | 0, l => l | _, [] => [] | n+1, _ :: l => dropC n l
noncomputable def pre3 : List Code := takeC 14 sp3
noncomputable def suf3 : List Code := dropC 15 sp3
def loopOf : List Code → Code | .block _ (.loop b) :: _ => b | _ => .skip
noncomputable def body3 : Code := loopOf (dropC 14 sp3)
def mask3 : Nat := 116244402112860231281787352119873343555315508396206480500703085754506870259655
end Go.Proofs.YtjfpofhpcphedaaGreat.SH
end

section
open Go Go.Ab Go.Proofs
namespace Go.Proofs.YtjfpofhpcphedaaGreat.SH
def sCells (k : Int) (inn : Bool) (stage at_ tries res : AV) : List AV :=
  [.int .u8 3, .int .u8 7, .bool false, .int .u8 k, .int .u8 1, .int .u8 1, .int .u8 (if inn then 9 else 1), .bool false, .bool (k == 1), .int .i64 (if inn then 8 else 0), .nils, stage, at_, tries, res, .nils]
def tpl (k : Int) (inn : Bool) (st : Int) (sat stries at_ tries res : AV) : Tpl where
  tmps := [(1, .bool inn), (2, .opq 0), (7, .int .u8 k), (9, .ptr (posOf 607) 0), (11, .bool (k == 1 || k == 3)), (12, .int .i64 st), (13, at_), (14, tries), (15, .sint .i64 (.v 2)), (16, .ptr (posOf 608) 0), (17, .sint .i64 (.v 1))]
  heap := [(607, .cells (sCells k inn (.int .u8 st) sat stries res) true), (608, .cells [res, .nils] true)]
  next := 700
def i0 : AV := .int .i64 0
def tpl0 (k : Int) (inn : Bool) : Tpl := tpl k inn 0 i0 i0 i0 i0 (.int .u8 0)
def per (k : Int) : Bool := k == 1 || k == 3
def tpl1 (k : Int) (inn : Bool) (j : Int) : Tpl := tpl k inn 1 (.sint .i64 (.v 3)) (.int .i64 j) (.sint .i64 (.v 3)) (if per k then .sint .i64 (.v 6) else .int .i64 j) (.int .u8 0)
def tpl2 (k : Int) (inn : Bool) : Tpl := tpl k inn 2 (.sint .i64 (.v 4)) (.sint .i64 (.v 5)) (.sint .i64 (.v 3)) (.sint .i64 (.v 6)) (.sint .u8 (.v 7))
def tpls (k : Int) (inn : Bool) : List Tpl := tpl0 k inn :: tpl1 k inn 0 :: tpl1 k inn 1 :: tpl1 k inn 2 :: ((if per k then [tpl1 k inn 3] else []) ++ [tpl2 k inn])
def tick : IE := .bin .add .i64 (.v 2) (.bin .rem .i64 (.cv .i64 (.v 21)) (.c 4))
def asmB : List (BE × Bool) := [(.cmp .leq (.v 0) (.v 1), false), (.cmp .leq (.c 0) tick, true), (.cmp .leq tick (.c 1000000), true), (.cmp .leq (.c 0) (.v 3), true), (.cmp .leq (.v 3) (.c 1000000), true), (.cmp .leq (.v 3) tick, true), (.cmp .leq (.c 0) (.bin .sub .i64 (.c (-1)) tick), false)]
def at2 : BE := .cmp .leq (.bin .add .i64 (.v 3) (.c 2)) tick
def at4 : BE := .cmp .leq (.bin .add .i64 (.v 3) (.c 4)) tick
def ge2 : BE := .cmp .leq (.c 2) tick
def ge4 : BE := .cmp .leq (.c 4) tick
def asmB2 (v : Nat) : List (BE × Bool) := (match v with | 0 => [(ge2, false), (at2, false), (at4, false)] | 1 => [(ge2, true), (ge4, false), (at4, false)] | _ => [(ge4, true)]) ++ asmB
def asmE : List (BE × Bool) := [(.cmp .leq (.v 0) (.v 1), true)]
def win : Win1 := ⟨0, 2, [.sint .u8 (.v 20), .sint .u8 (.v 21)]⟩
/-! the program's table, with lives() as known -/
def sumLives : SumT := fun β args s k => match args with | [] => k (.bool true) s | _ => (.bad 300 : Tree β)
noncomputable def ctx3 : Ctx := mkCtx Tryz.prog masks fun f => bif Nat.beq f 4 then some sumLives else none
noncomputable def X3 : Ex Leaf := exec Tryz.prog ctx3 1000000 Leaf
def tplA (inn : Bool) : Tpl := ⟨[(0, .sint .u8 (.v 10)), (1, .bool inn), (2, .opq 0)], [], 600⟩
def tplR : Tpl := ⟨[(6, .bool true)], [], 700⟩
def kindE : IE := .bin .rem .u8 (.v 10) (.c 4)
def asmP (k : Int) : List (BE × Bool) := [(.cmp .leq (.v 0) (.c 40), true), (.cmp .eql kindE (.c k), true)]
def asmL : List (BE × Bool) := [(.cmp .leq (.v 0) (.c 40), false)]
noncomputable def runP (k : Int) (inn : Bool) : Tree Leaf := runL X3 Tryz.prog 258 mask3 pre3 (tplA inn).fr ((tplA inn).st none (asmP k)) (leafK [tpl0 k inn] none)
noncomputable def runLong (inn : Bool) : Tree Leaf := runL X3 Tryz.prog 258 mask3 pre3 (tplA inn).fr ((tplA inn).st none asmL) (leafK [tplR] none)
noncomputable def runB (k : Int) (inn : Bool) (b : Nat) (T : Tpl) : Tree Leaf := runL X3 Tryz.prog 258 mask3 [body3] T.fr (T.st (some win) (asmB2 b)) (leafK (tpls k inn) (some win))
noncomputable def runE (k : Int) (inn : Bool) (T : Tpl) : Tree Leaf := runL X3 Tryz.prog 258 mask3 [body3] T.fr (T.st none asmE) (leafK (tpls k inn) none)
noncomputable def runS (T : Tpl) : Tree Leaf := runL X3 Tryz.prog 258 mask3 suf3 T.fr (T.st none []) (leafK [tplR] none)
def isNorm : AExit → Bool | .norm => true | _ => false
def isRet : AExit → Bool | .ret => true | _ => false
def isExit0 : AExit → Bool | .exit 0 => true | _ => false
def isI (x : Nat) (e : IE) (hs : List Hole) : Bool := if lookI x hs = some e then true else false
def noI (x : Nat) (hs : List Hole) : Bool := if lookI x hs = none then true else false
def idHole : Hole → Bool | .i x (.v y) => Nat.beq x y | .b x (.v y) => Nat.beq x y | _ => false
def startHole : Hole → Bool | .i 0 (.v 0) => true | .i 1 (.c 0) => true | .i 2 (.c 0) => true | _ => false
def chkP (l : Leaf) : Bool := isNorm l.how && Nat.beq l.j 0 && l.hs.all startHole
def chkR (l : Leaf) : Bool := isRet l.how && Nat.beq l.j 0 && l.hs.isEmpty
def chkB (l : Leaf) : Bool := isNorm l.how && isI 0 (.v 0) l.hs && isI 1 (.bin .add .i64 (.v 1) (.c 1)) l.hs && isI 2 tick l.hs && (noI 3 l.hs || isI 3 (.v 3) l.hs || isI 3 tick l.hs || isI 3 (.c 0) l.hs) && noI 20 l.hs && noI 21 l.hs
def chkE (l : Leaf) : Bool := isExit0 l.how && l.hs.all idHole
noncomputable def chkT (k : Int) (inn : Bool) (T : Tpl) : Bool := (runB k inn 0 T).all chkB && (runB k inn 1 T).all chkB && (runB k inn 2 T).all chkB && (runE k inn T).all chkE && (runS T).all chkR && winFree (some win) T && winFree none T
noncomputable def chkAll (k : Int) (inn : Bool) : Bool := (tpls k inn).all (chkT k inn) && (runP k inn).all chkP
end Go.Proofs.YtjfpofhpcphedaaGreat.SH
end
