/- SplitsErrors: the templates, the runs and their checks (definitions). -/
import Derived.Test.YtjfpofhpcphedaaGreatDoorEH
import Derived.Test.YtjfpofhpcphedaaGreatDoorProg
set_option linter.unusedVariables false
set_option linter.unusedSimpArgs false
set_option linter.unusedSectionVars false
open Go Go.Ab Go.Proofs
namespace Go.Proofs.YtjfpofhpcphedaaGreatDoor.SE
def masks : List Nat := [0, 0, 0, 1532963224601490531608868895362825779120544431626640375, 39614383488875302831291126399, 77673485063161437671655455, 79, 11324597171209962940719312522882278658932735, 2361184371732775961215, 32829, 21, 17, 85070916328093808077741356565204697467, 8724169181, 18455821710436861439, 5, 81132114465429477531504435273631, 68726849581, 631, 79, 15, 7, 131, 1073742847, 35184388906999, 23, 5, 5, 623389305255875586556383, 21, 137438971383, 8454399, 528435, 5, 147573952590213349437, 42535336430091257778066843306448404475, 1073741853, 525, 9444805058518246901703, 71, 5, 5, 4836302797645379025240315, 9241386443956421115, 2260604496707375, 23, 15, 8389633, 664616533193733950776684237685792771, 5, 21, 18051782039536351, 223, 21, 7, 2417925426473834024804719, 30767, 1, 1331, 726922868388012392043247026890096599, 83, 2021163519, 5, 4211, 65541, 65595, 19, 31, 524307, 2216270307571, 1082142479, 1, 8205, 5, 21, 5, 41112931841251800028029051, 21, 339, 5, 8197, 1048579, 172573, 8733, 4019, 3975, 4210261, 262159, 1139, 1099511889943, 35374298455, 19, 32925, 33243078329007, 5, 21, 5, 162259276829213363391646729797503, 74973229, 7, 7, 7, 17332359, 158456327389711921020460337107, 4, 65663, 431, 1158886266527183, 5, 21, 5, 5, 5, 990895, 272695751, 5, 66483, 19, 16517, 37, 37, 21, 618970019651734754459419643, 1180879992389397121083, 257, 5, 5, 3, 5, 3, 5, 3, 5, 3, 5, 13, 3, 5, 3, 5, 3, 4, 0, 5, 3, 34877, 19, 5, 5, 19, 7, 69175290308874755455, 9223372166215499903, 72057658715094463, 7, 1151039, 66483, 2161728370898063231, 295071, 7, 1075709431, 577023977169092621, 5, 5, 4194309, 29, 5, 268435485, 21, 8589934621, 45, 5, 13, 5, 1045, 21, 33, 65791, 271, 66483, 11, 2147483663, 35184876582611, 21, 4223, 2148483575, 19, 1005, 5, 144185831698203677, 3, 13, 1693, 1966125, 5, 7, 66483, 15, 296352743455, 65551, 8390973, 19, 5, 5, 79, 275159973895, 287, 31, 1, 63, 5, 5, 5, 17592186046515, 9223372586612818943, 7, 537399539, 11, 5, 21, 10384593871817177683247510831234831, 5, 66483, 15, 5, 5, 93536104789560604428000148544236911726365580993149, 247, 4319059, 21, 5, 66483, 16806963, 7, 143, 7, 143, 71, 5, 71, 575, 65, 65, 11, 1087, 268472775, 66483, 1073746119, 1074268103, 8804682991559, 20829169751433159, 8391, 83087207854311395603287443752634311, 19, 19023213622105999119, 22458641409078797123448399039441150152463, 277, 16661, 5, 285, 4503668346913551, 5, 5, 71, 1055, 5, 262927, 0, 0, 0, 0, 0, 0, 0, 0, 0, 0, 0, 0, 0, 0, 0, 21, 8195, 2049, 21, 2053, 294957, 8195, 1025, 5, 19, 7, 1, 19, 5, 21, 66483, 21, 21, 281476051239227, 0, 4, 0, 0, 5, 0, 4, 219, 7, 3, 137443162143, 356812008247081700500396284061669068231411707, 29, 16810291, 4806672511, 4339, 1048775, 39, 1, 5, 5, 158456930082889466166949971431, 134348813, 1048827, 51, 7, 269484045, 549789368333, 151411200179131392196731, 129, 5, 3389, 70437463654941, 5, 7, 727, 0, 0, 0, 0, 0, 0, 0]
noncomputable def ctx : Ctx := mkCtx Tryz.prog masks fun _ => none
def s0 : St := ⟨.lf, posOf 600, []⟩
noncomputable def runF {β} (n : Nat) (f : FuncId) (args : List AV) (k : AV → St → Tree β) : Tree β := callA ctx (exec Tryz.prog ctx n β) f args s0 k
end Go.Proofs.YtjfpofhpcphedaaGreatDoor.SE
namespace Go.Proofs.YtjfpofhpcphedaaGreatDoor.SE
noncomputable def code3 : Code := match funcA Tryz.prog 3 with | some f => (f.body.getD .skip) | none => .skip
noncomputable def sp3 : List Code := spine code3
def takeC : Nat → List Code → List Code | 0, _ => [] | _, [] => [] | n+1, c :: l => c :: takeC n l
def dropC : Nat → List Code → List Code | 0, l => l | _, [] => [] | n+1, _ :: l => dropC n l
noncomputable def preA : List Code := takeC 10 sp3
noncomputable def preB : List Code := dropC 10 sp3
def sumLives : SumT := fun β args s k => match args with | [] => k (.bool true) s | _ => (.bad 300 : Tree β)
noncomputable def ctx3 : Ctx := mkCtx Tryz.prog masks fun f => bif Nat.beq f 4 then some sumLives else none
noncomputable def X3 : Ex Leaf := exec Tryz.prog ctx3 1000000 Leaf
def nt3 : Nat := 229
def mask3 : Nat := masks.getD 3 0
def tplB : Tpl := ⟨[(1, .sint .u8 (.v 20))], [], 600⟩
def tplR : Tpl := ⟨[(4, .bool true)], [], 600⟩
/-- a job; d: its data -/
def jobA (d : AV) : AV := .agg [.sint .u8 (.v 1), .sint .u8 (.v 2), .sbool (.v 1), .sint .u8 (.v 3), .sint .u8 (.v 4), .sint .u8 (.v 5), .sint .u8 (.v 6), .sbool (.v 2), .sbool (.v 3), .sint .i64 (.v 7), d]
def cells : Nat → Nat → List AV | 0, _ => [] | n + 1, i => .sint .u8 (.v (100 + i)) :: cells n (i + 1)
def dataA (n : Nat) : AV := .slc (posOf 60) 0 n (.op 0)
def winA (n : Nat) : Win1 := ⟨60, 1, cells n 0⟩
def bnd (x : Nat) : List (BE × Bool) := [(.cmp .leq (.c 0) (.v x), true), (.cmp .leq (.v x) (.c 1000000), true)]
def kindF (k : Nat) : List (BE × Bool) := match k with | 0 => [(.cmp .eql (.v 3) (.c 0), true)] | 1 => [(.cmp .eql (.v 3) (.c 1), true)] | 2 => [(.cmp .eql (.v 3) (.c 2), true)] | 3 => [(.cmp .eql (.v 3) (.c 3), true)] | _ => [(.cmp .leq (.c 4) (.v 3), true), (.cmp .eql (.v 3) (.c 0), false), (.cmp .eql (.v 3) (.c 1), false), (.cmp .eql (.v 3) (.c 2), false), (.cmp .eql (.v 3) (.c 3), false)]
def asmA (k : Nat) : List (BE × Bool) := kindF k ++ (bnd 1 ++ (bnd 2 ++ (bnd 3 ++ (bnd 4 ++ (bnd 5 ++ bnd 6)))))
def argsA (d : AV) : List AV := [jobA d, .sint .u8 (.v 20)]
def len40 : BE := .cmp .leq (.v 50) (.c 40)
/-- whatever the data (at most 40 bytes): it stops where they would be copied -/
noncomputable def runG (k : Nat) : Tree Leaf := runL X3 Tryz.prog nt3 mask3 preA ⟨initT mask3 (argsA (.opq 50)) 0 .lf, []⟩ ⟨withWin none .lf, posOf 600, (len40, true) :: asmA k⟩ (leafK [tplR, tplB] none)
/-- where a job is good -/
def goods (k : Nat) : List (List (BE × Bool)) := match k with
  | 0 => [[((.v 1), true), ((.cmp .leq (.c 8) (.v 2)), false), ((.cmp .leq (.v 2) (.c 0)), false), ((.cmp .leq (.c 128) (.v 1)), false), ((.cmp .leq (.v 50) (.c 1024)), true), ((.v 3), false), ((.cmp .leq (.v 50) (.c 0)), true), ((.cmp .leq (.v 7) (.c 1024)), true), ((.cmp .leq (.c 0) (.v 7)), true), ((.cmp .eql (.v 6) (.c 9)), true), ((.cmp .leq (.v 5) (.c 15)), true), ((.cmp .leq (.v 4) (.c 127)), true)],
    [((.v 1), false), ((.cmp .leq (.c 8) (.v 2)), false), ((.cmp .leq (.v 2) (.c 0)), false), ((.cmp .leq (.c 128) (.v 1)), false), ((.cmp .leq (.v 50) (.c 1024)), true), ((.v 3), false), ((.cmp .leq (.v 50) (.c 0)), true), ((.cmp .leq (.v 7) (.c 1024)), true), ((.cmp .leq (.c 0) (.v 7)), true), ((.cmp .eql (.v 6) (.c 9)), true), ((.cmp .leq (.v 5) (.c 15)), true), ((.cmp .leq (.v 4) (.c 127)), true)],
    [((.v 1), true), ((.cmp .leq (.c 8) (.v 2)), false), ((.cmp .leq (.v 2) (.c 0)), false), ((.cmp .leq (.c 128) (.v 1)), false), ((.cmp .eql (.v 50) (.c 8)), true), ((.v 2), false), ((.v 3), false), ((.cmp .eql (.v 7) (.c 0)), true), ((.cmp .eql (.v 6) (.c 13)), true), ((.cmp .eql (.v 6) (.c 9)), false), ((.cmp .leq (.v 5) (.c 15)), true), ((.cmp .leq (.v 4) (.c 127)), true)],
    [((.v 1), false), ((.cmp .leq (.c 8) (.v 2)), false), ((.cmp .leq (.v 2) (.c 0)), false), ((.cmp .leq (.c 128) (.v 1)), false), ((.cmp .eql (.v 50) (.c 8)), true), ((.v 2), false), ((.v 3), false), ((.cmp .eql (.v 7) (.c 0)), true), ((.cmp .eql (.v 6) (.c 13)), true), ((.cmp .eql (.v 6) (.c 9)), false), ((.cmp .leq (.v 5) (.c 15)), true), ((.cmp .leq (.v 4) (.c 127)), true)],
    [((.v 1), true), ((.cmp .leq (.c 8) (.v 2)), false), ((.cmp .leq (.v 2) (.c 0)), false), ((.cmp .leq (.c 128) (.v 1)), false), ((.cmp .leq (.v 50) (.c 1024)), true), ((.v 3), false), ((.cmp .eql (.v 7) (.c 0)), true), ((.cmp .eql (.v 6) (.c 1)), true), ((.cmp .eql (.v 6) (.c 13)), false), ((.cmp .eql (.v 6) (.c 9)), false), ((.cmp .leq (.v 5) (.c 15)), true), ((.cmp .leq (.v 4) (.c 127)), true)],
    [((.v 1), false), ((.cmp .leq (.c 8) (.v 2)), false), ((.cmp .leq (.v 2) (.c 0)), false), ((.cmp .leq (.c 128) (.v 1)), false), ((.cmp .leq (.v 50) (.c 1024)), true), ((.v 3), false), ((.cmp .eql (.v 7) (.c 0)), true), ((.cmp .eql (.v 6) (.c 1)), true), ((.cmp .eql (.v 6) (.c 13)), false), ((.cmp .eql (.v 6) (.c 9)), false), ((.cmp .leq (.v 5) (.c 15)), true), ((.cmp .leq (.v 4) (.c 127)), true)]]
  | 1 => [[((.v 1), false), ((.cmp .leq (.c 8) (.v 2)), false), ((.cmp .leq (.v 2) (.c 0)), false), ((.cmp .leq (.c 128) (.v 1)), false), ((.cmp .leq (.v 50) (.c 1024)), true), ((.v 2), false), ((.v 3), true), ((.cmp .leq (.v 50) (.c 0)), true), ((.cmp .leq (.v 7) (.c 1024)), true), ((.cmp .leq (.c 0) (.v 7)), true), ((.cmp .eql (.v 6) (.c 9)), true), ((.cmp .leq (.v 5) (.c 15)), true), ((.cmp .leq (.v 4) (.c 127)), true)],
    [((.v 1), false), ((.cmp .leq (.c 8) (.v 2)), false), ((.cmp .leq (.v 2) (.c 0)), false), ((.cmp .leq (.c 128) (.v 1)), false), ((.cmp .leq (.v 50) (.c 1024)), true), ((.v 2), false), ((.v 3), true), ((.cmp .eql (.v 7) (.c 0)), true), ((.cmp .eql (.v 6) (.c 1)), true), ((.cmp .eql (.v 6) (.c 13)), false), ((.cmp .eql (.v 6) (.c 9)), false), ((.cmp .leq (.v 5) (.c 15)), true), ((.cmp .leq (.v 4) (.c 127)), true)]]
  | 2 => [[((.v 1), false), ((.cmp .leq (.c 8) (.v 2)), false), ((.cmp .leq (.v 2) (.c 0)), false), ((.cmp .leq (.c 128) (.v 1)), false), ((.cmp .leq (.v 50) (.c 1024)), true), ((.v 3), false), ((.cmp .leq (.v 50) (.c 0)), true), ((.cmp .leq (.v 7) (.c 1024)), true), ((.cmp .leq (.c 0) (.v 7)), true), ((.cmp .eql (.v 6) (.c 9)), true), ((.cmp .leq (.v 5) (.c 15)), true), ((.cmp .leq (.v 4) (.c 127)), true)],
    [((.v 1), false), ((.cmp .leq (.c 8) (.v 2)), false), ((.cmp .leq (.v 2) (.c 0)), false), ((.cmp .leq (.c 128) (.v 1)), false), ((.cmp .eql (.v 50) (.c 8)), true), ((.v 2), false), ((.v 3), false), ((.cmp .eql (.v 7) (.c 0)), true), ((.cmp .eql (.v 6) (.c 13)), true), ((.cmp .eql (.v 6) (.c 9)), false), ((.cmp .leq (.v 5) (.c 15)), true), ((.cmp .leq (.v 4) (.c 127)), true)],
    [((.v 1), false), ((.cmp .leq (.c 8) (.v 2)), false), ((.cmp .leq (.v 2) (.c 0)), false), ((.cmp .leq (.c 128) (.v 1)), false), ((.cmp .leq (.v 50) (.c 1024)), true), ((.v 3), false), ((.cmp .eql (.v 7) (.c 0)), true), ((.cmp .eql (.v 6) (.c 1)), true), ((.cmp .eql (.v 6) (.c 13)), false), ((.cmp .eql (.v 6) (.c 9)), false), ((.cmp .leq (.v 5) (.c 15)), true), ((.cmp .leq (.v 4) (.c 127)), true)]]
  | 3 => [[((.v 1), true), ((.cmp .leq (.c 8) (.v 2)), false), ((.cmp .leq (.v 2) (.c 0)), false), ((.cmp .leq (.c 128) (.v 1)), false), ((.cmp .leq (.v 50) (.c 1024)), true), ((.v 3), false), ((.cmp .leq (.v 50) (.c 0)), true), ((.cmp .leq (.v 7) (.c 1024)), true), ((.cmp .leq (.c 0) (.v 7)), true), ((.cmp .eql (.v 6) (.c 9)), true), ((.cmp .leq (.v 5) (.c 15)), true), ((.cmp .leq (.v 4) (.c 127)), true)],
    [((.v 1), false), ((.cmp .leq (.c 8) (.v 2)), false), ((.cmp .leq (.v 2) (.c 0)), false), ((.cmp .leq (.c 128) (.v 1)), false), ((.cmp .leq (.v 50) (.c 1024)), true), ((.v 3), false), ((.cmp .leq (.v 50) (.c 0)), true), ((.cmp .leq (.v 7) (.c 1024)), true), ((.cmp .leq (.c 0) (.v 7)), true), ((.cmp .eql (.v 6) (.c 9)), true), ((.cmp .leq (.v 5) (.c 15)), true), ((.cmp .leq (.v 4) (.c 127)), true)],
    [((.v 1), true), ((.cmp .leq (.c 8) (.v 2)), false), ((.cmp .leq (.v 2) (.c 0)), false), ((.cmp .leq (.c 128) (.v 1)), false), ((.cmp .eql (.v 50) (.c 8)), true), ((.v 2), false), ((.v 3), false), ((.cmp .eql (.v 7) (.c 0)), true), ((.cmp .eql (.v 6) (.c 13)), true), ((.cmp .eql (.v 6) (.c 9)), false), ((.cmp .leq (.v 5) (.c 15)), true), ((.cmp .leq (.v 4) (.c 127)), true)],
    [((.v 1), false), ((.cmp .leq (.c 8) (.v 2)), false), ((.cmp .leq (.v 2) (.c 0)), false), ((.cmp .leq (.c 128) (.v 1)), false), ((.cmp .eql (.v 50) (.c 8)), true), ((.v 2), false), ((.v 3), false), ((.cmp .eql (.v 7) (.c 0)), true), ((.cmp .eql (.v 6) (.c 13)), true), ((.cmp .eql (.v 6) (.c 9)), false), ((.cmp .leq (.v 5) (.c 15)), true), ((.cmp .leq (.v 4) (.c 127)), true)],
    [((.v 1), true), ((.cmp .leq (.c 8) (.v 2)), false), ((.cmp .leq (.v 2) (.c 0)), false), ((.cmp .leq (.c 128) (.v 1)), false), ((.cmp .leq (.v 50) (.c 1024)), true), ((.v 3), false), ((.cmp .eql (.v 7) (.c 0)), true), ((.cmp .eql (.v 6) (.c 1)), true), ((.cmp .eql (.v 6) (.c 13)), false), ((.cmp .eql (.v 6) (.c 9)), false), ((.cmp .leq (.v 5) (.c 15)), true), ((.cmp .leq (.v 4) (.c 127)), true)],
    [((.v 1), false), ((.cmp .leq (.c 8) (.v 2)), false), ((.cmp .leq (.v 2) (.c 0)), false), ((.cmp .leq (.c 128) (.v 1)), false), ((.cmp .leq (.v 50) (.c 1024)), true), ((.v 3), false), ((.cmp .eql (.v 7) (.c 0)), true), ((.cmp .eql (.v 6) (.c 1)), true), ((.cmp .eql (.v 6) (.c 13)), false), ((.cmp .eql (.v 6) (.c 9)), false), ((.cmp .leq (.v 5) (.c 15)), true), ((.cmp .leq (.v 4) (.c 127)), true)]]
  | _ => []
noncomputable def runA (k n : Nat) (L : List (BE × Bool)) : Tree Leaf := runL X3 Tryz.prog nt3 mask3 preA ⟨initT mask3 (argsA (dataA n)) 0 .lf, []⟩ ⟨withWin (some (winA n)) .lf, posOf 600, L ++ asmA k⟩ (leafK [tplR, tplB] (some (winA n)))
noncomputable def runN (k : Nat) (L : List (BE × Bool)) : Tree Leaf := runL X3 Tryz.prog nt3 mask3 preA ⟨initT mask3 (argsA .nils) 0 .lf, []⟩ ⟨withWin none .lf, posOf 600, L ++ asmA k⟩ (leafK [tplR, tplB] none)
/-- data of more than 40 bytes -/
noncomputable def runO : Tree Leaf := runL X3 Tryz.prog nt3 mask3 preA ⟨initT mask3 (argsA (.opq 50)) 0 .lf, []⟩ ⟨withWin none .lf, posOf 600, [(len40, false)]⟩ (leafK [tplR, tplB] none)
def speedE : IE := .bin .rem .u8 (.v 20) (.c 2)
def asmS (b : Int) : List (BE × Bool) := [(.cmp .eql speedE (.c b), true), (.cmp .eql (.bin .add .u8 (.c 1) speedE) (.c (b + 1)), true)]
noncomputable def runB (b : Int) : Tree Leaf := runL X3 Tryz.prog nt3 mask3 preB tplB.fr (tplB.st none (asmS b)) (leafK [tplR] none)
def isNorm : AExit → Bool | .norm => true | _ => false
def isRet : AExit → Bool | .ret => true | _ => false
def hole20 : Hole → Bool | .i 20 (.v 20) => true | _ => false
def chkA (l : Leaf) : Bool := isNorm l.how && Nat.beq l.j 1 && l.hs.all hole20
def chkO (l : Leaf) : Bool := isRet l.how && Nat.beq l.j 0 && l.hs.isEmpty
def chkB (l : Leaf) : Bool := isRet l.how && Nat.beq l.j 0 && l.hs.isEmpty
/-- a length that some conditions bear -/
def bears (n : Nat) (L : List (BE × Bool)) : Bool := L.all fun x => match x with | (.cmp .leq (.v 50) (.c m), b) => ile n m == b | (.cmp .eql (.v 50) (.c m), b) => ieq n m == b | _ => true
noncomputable def chkN (k lo hi : Nat) : Bool := (goods k).all fun L => (List.range' lo (hi - lo)).all fun n => bif bears n L then (runA k n L).all chkA else true
noncomputable def chkNil (k : Nat) : Bool := (goods k).all fun L => bif bears 0 L then (runN k L).all chkA else true
end Go.Proofs.YtjfpofhpcphedaaGreatDoor.SE
