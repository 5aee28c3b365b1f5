/- HostsErrors: the templates, the runs and their checks (definitions). -/
import Derived.Test.YtbmneikfcbbmmaaGreatQD
import Derived.Test.YtbmneikfcbbmmaaGreatProg
set_option linter.unusedVariables false
set_option linter.unusedSimpArgs false
set_option linter.unusedSectionVars false
section
open Go Go.Ab Go.Proofs
namespace Go.Proofs.YtbmneikfcbbmmaaGreat.HF
def masks : List Nat := [0, 0, 0, 309485014433067371035901939, 340305732573714524969434922718635032519, 75172857386998850070541240752011784900564143548926365648383710376995953648594435679379305831360340428429721543, 28951666460045097607420832832871752519152257275287102449109961023548444114941, 3138550867693541088625346182379251983389684301896426585943, 2086179531444137216852767116135476970280728878706859073778880024400636813179960480608158744563, 6009877420409339827294584662025317494279713780400125, 8391, 9007216434904095, 4952969100254958297874434021, 87452651375431695379855036882099296665599, 4722366834730546253819, 8391, 8207, 2621811, 45, 21, 2451570719, 16492946851767, 21, 272695751, 55, 39, 5, 21, 2167, 20283029178281832903078041354271, 291608385177140735, 604462909807314591547407, 281475253534847, 565836180326623, 68726849581, 2167, 5, 35184388906999, 525, 349, 295148186654413815867, 7, 32783, 72075323665031411, 536887511, 71, 7, 66679, 4215, 5, 33556607, 3, 31, 17389, 604275, 5, 21, 19, 1005, 5, 21, 31, 504373101, 5188151169851064327, 2302105649075, 7, 576460761430237307, 1048583, 4175, 1139, 1151039, 32783, 525, 32829, 9444805058518246901703, 71, 16777223, 5, 5, 8389633, 664616533193733950776684237685792771, 18051782039536351, 223, 21, 7, 5, 5, 2199027451379, 17179869391, 35184374188019, 1048767, 631, 4503599627372263, 7, 504373101, 19, 66483, 4194367, 71, 18014433942971335, 5, 66483, 15, 65619, 2097327, 1073758431, 79, 4194539, 21, 7, 275159973895, 287, 528435, 524307, 2216270307571, 1082142479, 1, 32925, 5, 8197, 1048579, 172573, 8733, 4019, 3975, 31, 5, 21, 39, 272383, 79, 2303, 524543, 5, 11324597171209962940719312522882278658932735, 81132114465429477531504435273631, 79, 65619, 19, 17179886351, 13164839976634628298295110780136696778032692856359452003713154079, 16517, 37, 37, 5, 3, 5, 3, 5, 3, 5, 3, 5, 13, 3, 5, 3, 5, 3, 4, 0, 5, 3, 19, 77673485063161437671655455, 1073742847, 144124019199967355, 1100853805307, 15, 7, 13, 65615, 2095, 131, 1073742847, 23, 623389305255875586556383, 15, 9440287, 5, 5, 18483, 51, 3, 9231, 0, 0, 0, 0, 0, 0, 0, 0, 0, 0, 0, 0, 0, 0, 0, 4948070858875, 4, 0, 0, 5, 0, 4, 78922121447, 72057594038976551, 1048627, 315, 0, 18455821710436861439, 21, 8195, 2049, 21, 2053, 5, 4836302797645379025240315, 9241386443956421115, 2260604496707375, 23, 294957, 8195, 1025, 5, 5, 21, 19, 7, 8205, 21, 41112931841251800028029051, 21, 339, 65663, 74973229, 1, 19, 5, 21, 21, 66483, 5, 618970019651734754459419643, 1180879992389397121083, 257, 5, 2161728370898063231, 4223, 2021163519, 5, 13, 5, 33, 1, 21, 66483, 5, 144185831698203677, 3, 13, 2417925426473834024804719, 31, 1075709431, 19, 66483, 15, 21, 5, 5, 5, 990895, 271, 10384593871817177683247510831234831, 5, 35184876582611, 5, 4210261, 262159, 1099511889943, 35374298455, 32925, 33243078329007, 16806963, 2148483575, 66483, 1073746119, 1074268103, 8804682991559, 20829169751433159, 8391, 83087207854311395603287443752634311, 19, 19023213622105999119, 22458641409078797123448399039441150152463, 277, 16661, 34877, 19, 5, 5, 19, 7, 69175290308874755455, 9223372166215499903, 72057658715094463, 7, 4503668346913551, 5, 5, 71, 1055, 5, 1693, 1966125, 5, 7, 66483, 15, 296352743455, 65551, 8390973, 19, 5, 5, 79, 262927, 93536104789560604428000148544236911726365580993149, 247, 4319059, 21, 5, 66483, 5, 85070916328093808077741356565204697467, 17, 5, 147573952590213349437, 42535336430091257778066843306448404475, 1073741853, 5, 4211, 65541, 65595, 19, 5, 66483, 21, 158456930082889466166949971431, 134348813, 1048827, 51, 7, 269484045, 549789368333, 151411200179131392196731, 129, 5, 3389, 70437463654941, 5, 7, 0, 0, 0, 0]
noncomputable def ctx0 : Ctx := mkCtx Tryz.prog masks fun _ => none
end Go.Proofs.YtbmneikfcbbmmaaGreat.HF
end

section
open Go Go.Ab Go.Proofs
namespace Go.Proofs.YtbmneikfcbbmmaaGreat.HX
open HF (masks)
noncomputable def ctx : Ctx := mkCtx Tryz.prog masks fun f => bif Nat.beq f 13 then some sumTrue else none
noncomputable def X : Ex Leaf := exec Tryz.prog ctx 1000000 Leaf
noncomputable def sp7 : List Code := spine (codeD Tryz.prog 7)
noncomputable def pre : List Code := takeC 11 sp7
noncomputable def body1 : Code := loopOf (dropC 11 sp7)
noncomputable def suf : List Code := dropC 12 sp7
def mask7 : Nat := 3138550867693541088625346182379251983389684301896426585943
def i64 (n : Nat) : AV := .int .i64 (.ofNat n)
def u8 (n : Nat) : AV := .int .u8 (.ofNat n)
def tab {α} (f : Nat → α) (n : Nat) (i : Nat) (l : List α) : List α := Nat.rec (motive := fun _ => Nat → List α) (fun _ => l) (fun _ ih i => f i :: ih (Nat.succ i)) n i
/-- the pipe of the loop -/
def bulk : AV := .agg [u8 9, u8 1, .bool true, u8 2, i64 512, i64 0, u8 2, u8 0, u8 0, .bool false, .bool false]
def tabA {α} (f : Nat → List α) (n : Nat) (i : Nat) (l : List α) : List α := Nat.rec (motive := fun _ => Nat → List α) (fun _ => l) (fun _ ih i => f i ++ ih (Nat.succ i)) n i
def srcCells : List AV :=
  tabA (fun _ => [u8 0, u8 0, u8 0, .bool false, .bool false, i64 0, .nils]) 32 0 (tab (fun _ => i64 0) 32 0 (tab (fun _ => i64 0) 32 0 (i64 0 :: tab (fun _ => .bool false) 32 0 (tab (fun _ => u8 0) 32 0 []))))
/-- any pipe -/
def pipeCells : List AV := [.sint .u8 (.v 10), .sint .u8 (.v 11), .sbool (.v 12), .sint .u8 (.v 13), .sint .i64 (.v 14), .sint .i64 (.v 15), .sint .u8 (.v 16), .sint .u8 (.v 17), .sint .u8 (.v 18), .sbool (.v 19), .sbool (.v 20)]
/-- the pipe with number 0 -/
def firstCells : List AV := [.sint .u8 (.v 30), .sint .u8 (.v 31), .sbool (.v 32), .sint .u8 (.v 33), .sint .i64 (.v 34), .sint .i64 (.v 35), .sint .u8 (.v 36), .sint .u8 (.v 37), .sint .u8 (.v 38), .sbool (.v 39), .sbool (.v 40)]
def ent0 (first : AV) (i : Nat) : Ent := ⟨i64 i, bif Nat.beq i 0 then first else bulk, i⟩
def hostB (plan ring : AV) : Blk := .cells [.iface 48 (.ptr (posOf 600) 0), .nili, .iface 28 (.ptr (posOf 601) 0), .map (posOf 602), .map (posOf 603), plan, ring, i64 0, i64 0, .nilm, .nils] true
def tmps1 (many : AV) : List (Nat × AV) := [(2, .ptr (posOf 605) 0), (4, .bool false), (9, .ptr (posOf 604) 0), (14, many)]
def ringS (n : Nat) : AV := bif Nat.beq n 0 then .nils else .slc (posOf 606) 0 n (.ex n)
/-- n pipes in the ring; the first is any pipe -/
def B (n : Nat) : Tpl where
  tmps := tmps1 (i64 n)
  heap := [(600, .cells [.nils] true), (601, .cells srcCells true), (602, .map (tab (ent0 (.agg firstCells)) n 0 []) n), (603, .map [] 0), (604, hostB .nils (ringS n)), (605, .cells pipeCells true), (606, .grow (tab i64 n 0 []) 1)]
  next := 700
/-- n pipes; the first is in the plan, with slot 0 -/
def needCells : List AV := [.sint .u8 (.v 16), .sint .u8 (.v 13), .sbool (.v 12), .sint .i64 (.v 14), .sint .i64 (.v 15), .sint .u8 (.v 17)]
def slotCells : List AV := i64 0 :: (needCells ++ [i64 0])
def planS : AV := .slc (posOf 607) 0 1 (.ex 1)
def ringC (n : Nat) : AV := bif Nat.beq n 1 then .nils else .slc (posOf 606) 0 (Nat.pred n) (.ex (Nat.pred n))
def C (n : Nat) : Tpl where
  tmps := tmps1 (i64 n)
  heap := [(600, .cells [.nils] true), (601, .cells srcCells true), (602, .map (tab (ent0 (.agg firstCells)) n 0 []) n), (603, .map [] 0), (604, hostB planS (ringC n)), (605, .cells pipeCells true), (607, .grow slotCells 8)] ++ (bif Nat.beq n 1 then [] else [(606, .grow (tab i64 (Nat.pred n) 1 []) 1)])
  next := 700
/-- no pipe -/
def A : Tpl where
  tmps := tmps1 (i64 0)
  heap := [(600, .cells [.nils] true), (601, .cells srcCells true), (602, .map [] 0), (603, .map [] 0), (604, hostB .nils .nils), (605, .cells pipeCells true)]
  next := 700
def ku (k : Option Nat) (x : Nat) : AV := match k with | some n => u8 n | none => .sint .u8 (.v x)
def ki (k : Option Nat) (x : Nat) : AV := match k with | some n => i64 n | none => .sint .i64 (.v x)
/-- a pipe whose kind, speed and period may be given -/
def pipeArg (kd sp pe : Option Nat) : AV := .agg [.sint .u8 (.v 10), .sint .u8 (.v 11), .sbool (.v 12), ku kd 13, .sint .i64 (.v 14), ki pe 15, ku sp 16, .sint .u8 (.v 17), .sint .u8 (.v 18), .sbool (.v 19), .sbool (.v 20)]
def tplArgs (kd sp pe : Option Nat) : Tpl := ⟨[(0, pipeArg kd sp pe), (1, .sint .i64 (.v 21))], [], 600⟩
noncomputable def runA (kd sp pe : Option Nat) (asm : List (BE × Bool)) : Tree Leaf := runL X Tryz.prog 193 mask7 pre (tplArgs kd sp pe).fr ((tplArgs kd sp pe).st none asm) (leafKR [A, B 1, C 1] none)
def tplR : Tpl := ⟨[(4, .bool true)], [], 700⟩
def noThree (y : Hole) : Bool := match y with | .i x _ => !(Nat.beq x 3) | _ => true
def chkA (l : Leaf) : Bool := isNorm l.how && Nat.ble l.j 2 && l.hs.all noThree
def okind : List (BE × Bool) := [(.cmp .leq (.v 13) (.c 3), false), (.cmp .eql (.v 13) (.c 0), false), (.cmp .eql (.v 13) (.c 1), false), (.cmp .eql (.v 13) (.c 2), false), (.cmp .eql (.v 13) (.c 3), false)]
def ospeed : List (BE × Bool) := [(.cmp .leq (.v 16) (.c 2), false)]
/-- what may be wrong with a period -/
def low1 (b : Bool) : List (BE × Bool) := [(.cmp .leq (.c 1) (.v 15), b), (.cmp .leq (.c 8) (.v 15), b)]
def low8 : List (BE × Bool) := [(.cmp .leq (.c 8) (.v 15), false)]
def high : List (BE × Bool) := [(.cmp .leq (.v 15) (.c 256), false)]
def mixed : List (BE × Bool) := [(.cmp .eql (.bin .and .i64 (.v 15) (.bin .add .i64 (.v 15) (.c (-1)))) (.c 0), false)]
def mE : IE := .bin .add .i64 (.bin .add .i64 (.bin .add .i64 (.c 8) (.bin .mul .i64 (.c 8) (.bin .add .i64 (.v 14) (.c 3)))) (.bin .quo .i64 (.bin .add .i64 (.bin .mul .i64 (.c 8) (.bin .add .i64 (.v 14) (.c 3))) (.c 1)) (.c 6))) (.c 11)
def cE (n : Int) : IE := .bin .add .i64 (.c n) mE
def plus0 (e : IE) : IE := .bin .add .i64 (.c 0) e
def hand (e : IE) : IE := .bin .add .i64 e (.c 28)
def times8 (e : IE) : IE := .bin .mul .i64 e (.c 8)
def le (e : IE) (n : Int) : BE × Bool := (.cmp .leq e (.c n), true)
/-- what holds of the size of a packet, by kind (isochronous) and speed -/
def sizeFacts (iso : Bool) (sp : Nat) : List (BE × Bool) :=
  le (.v 14) 1024 :: (.cmp .leq (.c 0) (.v 14), true) :: le (.cv .u16 (.v 14)) 1024 ::
  (match iso, sp with
   | true, 1 => [le (.cv .u16 (.v 14)) 1023, le (plus0 (cE 103)) 48000, le (plus0 (cE 47)) 10800]
   | true, _ => [le (plus0 (cE 47)) 48000]
   | false, 0 => [le (.cv .u16 (.v 14)) 8, le (plus0 (hand (cE 103))) 48000, le (plus0 (cE 103)) 48000, le (plus0 (times8 (hand (cE 47)))) 10800]
   | false, 1 => [le (.cv .u16 (.v 14)) 64, le (plus0 (hand (cE 103))) 48000, le (plus0 (cE 103)) 48000, le (plus0 (hand (cE 47))) 10800]
   | false, _ => [le (plus0 (hand (cE 47))) 48000])
def goodFacts (iso : Bool) (sp : Nat) : List (BE × Bool) :=
  le (.v 10) 127 :: (.cmp .leq (.v 10) (.c 0), false) :: le (.v 17) 127 :: le (.v 18) 7 :: (.cmp .eql (.v 18) (.c 0), Nat.beq sp 2) :: (.cmp .leq (.v 18) (.c 0), Nat.beq sp 2) ::
  (.cmp .leq (.c 1) (.v 11), true) :: le (.v 11) 15 :: (.cmp .leq (.c 1) (.cv .u16 (.v 14)), true) ::
  ((bif Nat.beq sp 2 then [((.cmp .eql (.v 17) (.c 0) : BE), true)] else []) ++ (bif iso then [((.v 19 : BE), false), ((.v 20 : BE), false)] else []) ++ sizeFacts iso sp)
noncomputable def run1 (T U : Tpl) : Tree Leaf := runL X Tryz.prog 193 mask7 [body1] T.fr (T.st none []) (leafKR [U] none)
noncomputable def runS (T : Tpl) : Tree Leaf := runL X Tryz.prog 193 mask7 suf T.fr (T.st none []) (leafKR [tplR] none)
def chk1 (l : Leaf) : Bool := isNorm l.how && Nat.beq l.j 0 && l.hs.all noThree
def chkX (l : Leaf) : Bool := isExitN 0 l.how && Nat.beq l.j 0 && l.hs.all idHole
def chkR (l : Leaf) : Bool := isRet l.how && Nat.beq l.j 0 && l.hs.isEmpty
/-- n rounds of the loop, from i pipes on -/
noncomputable def rounds (T : Nat → Tpl) (n i : Nat) : Bool := Nat.rec (motive := fun _ => Nat → Bool) (fun _ => true) (fun _ ih i => (run1 (T i) (T (Nat.succ i))).all chk1 && ih (Nat.succ i)) n i
end Go.Proofs.YtbmneikfcbbmmaaGreat.HX
end

section
open Go Go.Ab Go.Proofs
namespace Go.Proofs.YtbmneikfcbbmmaaGreat.HX
noncomputable def fitOk (kd sp pe : Option Nat) : Bool := match (tplArgs kd sp pe).fits ⟨initT mask7 [pipeArg kd sp pe, .sint .i64 (.v 21)] 0 .lf, []⟩ ⟨.lf, posOf 600, []⟩ with | some hs => hs.all idHole | none => false
noncomputable def okA (kd sp pe : Option Nat) (asm : List (BE × Bool)) : Bool := fitOk kd sp pe && (runA kd sp pe asm).all chkA
def no (e : BE × Bool) : BE × Bool := (e.1, !e.2)
def lim (iso : Bool) (sp : Nat) : Int := match iso, sp with | true, 0 => 0 | true, 1 => 1023 | true, _ => 1024 | false, 0 => 8 | false, 1 => 64 | false, _ => 1024
def kindOf (iso : Bool) : Nat := bif iso then 1 else 3
/-- what may be wrong with a periodic pipe of a valid speed -/
def reasons (iso : Bool) (sp : Nat) : List (List (BE × Bool)) :=
  [[no (le (.v 10) 127)], [((.cmp .leq (.v 10) (.c 0) : BE), true)], [no (le (.v 17) 127)], [no (le (.v 18) 7)], [((.cmp .eql (.v 18) (.c 0) : BE), !(Nat.beq sp 2)), ((.cmp .leq (.v 18) (.c 0) : BE), !(Nat.beq sp 2))],
   [((.cmp .leq (.c 1) (.v 11) : BE), false)], [no (le (.v 11) 15)], [((.cmp .leq (.c 1) (.cv .u16 (.v 14)) : BE), false)], [((.cmp .leq (.c 0) (.v 14) : BE), false)], [no (le (.v 14) 1024)], [no (le (.cv .u16 (.v 14)) (lim iso sp))],
   bif Nat.beq sp 2 then low1 false else low8, high, mixed] ++
  ((bif Nat.beq sp 2 then [[((.cmp .eql (.v 17) (.c 0) : BE), false)]] else []) ++ (bif iso then [[((.v 19 : BE), true)], [((.v 20 : BE), true)]] else []))
def periods (sp : Nat) : List Nat := (bif Nat.beq sp 2 then [1, 2, 4] else []) ++ [8, 16, 32, 64, 128, 256]
noncomputable def badOk (iso : Bool) (sp : Nat) : Bool := (reasons iso sp).all fun r => okA (some (kindOf iso)) (some sp) none r
noncomputable def goodOk (iso : Bool) (sp pe : Nat) : Bool := okA (some (kindOf iso)) (some sp) (some pe) (goodFacts iso sp)
noncomputable def plainOk : Bool := okA none none none (okind ++ ospeed) && okA (some 0) none none ospeed && okA (some 1) none none ospeed && okA (some 2) none none ospeed && okA (some 3) none none ospeed &&
  okA none (some 0) none okind && okA none (some 1) none okind && okA none (some 2) none okind
noncomputable def ringOk (kd : Nat) : Bool := okA (some kd) (some 0) none [] && okA (some kd) (some 1) none [] && okA (some kd) (some 2) none []
end Go.Proofs.YtbmneikfcbbmmaaGreat.HX
end
