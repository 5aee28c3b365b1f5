/- HostsFair: the templates, the runs and their checks (definitions). -/
import Derived.Test.YtbmneikfcbbmmaaGreatEI
import Derived.Test.YtbmneikfcbbmmaaGreatProg
set_option linter.unusedVariables false
set_option linter.unusedSimpArgs false
set_option linter.unusedSectionVars false
section
open Go Go.Ab Go.Proofs
namespace Go.Proofs.YtbmneikfcbbmmaaGreat.HF
def masks : List Nat := [0, 0, 0, 309485014433067371035901939, 340305732573714524969434922718635032519, 75172857386998850070541240752011784900564143548926365648383710376995953648594435679379305831360340428429721543, 28951666460045097607420832832871752519152257275287102449109961023548444114941, 3138550867693541088625346182379251983389684301896426585943, 2086179531444137216852767116135476970280728878706859073778880024400636813179960480608158744563, 6009877420409339827294584662025317494279713780400125, 8391, 9007216434904095, 4952969100254958297874434021, 87452651375431695379855036882099296665599, 4722366834730546253819, 8391, 8207, 2621811, 45, 21, 2451570719, 16492946851767, 21, 272695751, 55, 39, 5, 21, 2167, 20283029178281832903078041354271, 291608385177140735, 604462909807314591547407, 281475253534847, 565836180326623, 68726849581, 2167, 5, 35184388906999, 525, 349, 295148186654413815867, 7, 32783, 72075323665031411, 536887511, 71, 7, 66679, 4215, 5, 33556607, 3, 31, 17389, 604275, 5, 21, 19, 1005, 5, 21, 31, 504373101, 5188151169851064327, 2302105649075, 7, 576460761430237307, 1048583, 4175, 1139, 1151039, 32783, 525, 32829, 9444805058518246901703, 71, 16777223, 5, 5, 8389633, 664616533193733950776684237685792771, 18051782039536351, 223, 21, 7, 5, 5, 2199027451379, 17179869391, 35184374188019, 1048767, 631, 4503599627372263, 7, 504373101, 19, 66483, 4194367, 71, 18014433942971335, 5, 66483, 15, 65619, 2097327, 1073758431, 79, 4194539, 21, 7, 275159973895, 287, 528435, 524307, 2216270307571, 1082142479, 1, 32925, 5, 8197, 1048579, 172573, 8733, 4019, 3975, 31, 5, 21, 39, 272383, 79, 2303, 524543, 5, 11324597171209962940719312522882278658932735, 81132114465429477531504435273631, 79, 65619, 19, 17179886351, 13164839976634628298295110780136696778032692856359452003713154079, 16517, 37, 37, 5, 3, 5, 3, 5, 3, 5, 3, 5, 13, 3, 5, 3, 5, 3, 4, 0, 5, 3, 19, 77673485063161437671655455, 1073742847, 144124019199967355, 1100853805307, 15, 7, 13, 65615, 2095, 131, 1073742847, 23, 623389305255875586556383, 15, 9440287, 5, 5, 18483, 51, 3, 9231, 0, 0, 0, 0, 0, 0, 0, 0, 0, 0, 0, 0, 0, 0, 0, 4948070858875, 4, 0, 0, 5, 0, 4, 78922121447, 72057594038976551, 1048627, 315, 0, 18455821710436861439, 21, 8195, 2049, 21, 2053, 5, 4836302797645379025240315, 9241386443956421115, 2260604496707375, 23, 294957, 8195, 1025, 5, 5, 21, 19, 7, 8205, 21, 41112931841251800028029051, 21, 339, 65663, 74973229, 1, 19, 5, 21, 21, 66483, 5, 618970019651734754459419643, 1180879992389397121083, 257, 5, 2161728370898063231, 4223, 2021163519, 5, 13, 5, 33, 1, 21, 66483, 5, 144185831698203677, 3, 13, 2417925426473834024804719, 31, 1075709431, 19, 66483, 15, 21, 5, 5, 5, 990895, 271, 10384593871817177683247510831234831, 5, 35184876582611, 5, 4210261, 262159, 1099511889943, 35374298455, 32925, 33243078329007, 16806963, 2148483575, 66483, 1073746119, 1074268103, 8804682991559, 20829169751433159, 8391, 83087207854311395603287443752634311, 19, 19023213622105999119, 22458641409078797123448399039441150152463, 277, 16661, 34877, 19, 5, 5, 19, 7, 69175290308874755455, 9223372166215499903, 72057658715094463, 7, 4503668346913551, 5, 5, 71, 1055, 5, 1693, 1966125, 5, 7, 66483, 15, 296352743455, 65551, 8390973, 19, 5, 5, 79, 262927, 93536104789560604428000148544236911726365580993149, 247, 4319059, 21, 5, 66483, 5, 85070916328093808077741356565204697467, 17, 5, 147573952590213349437, 42535336430091257778066843306448404475, 1073741853, 5, 4211, 65541, 65595, 19, 5, 66483, 21, 158456930082889466166949971431, 134348813, 1048827, 51, 7, 269484045, 549789368333, 151411200179131392196731, 129, 5, 3389, 70437463654941, 5, 7, 0, 0, 0, 0]
noncomputable def ctx0 : Ctx := mkCtx Tryz.prog masks fun _ => none
end Go.Proofs.YtbmneikfcbbmmaaGreat.HF
end

section
open Go Go.Ab Go.Proofs
namespace Go.Proofs.YtbmneikfcbbmmaaGreat.HF
noncomputable def ctx : Ctx := mkCtx Tryz.prog masks fun f => bif Nat.beq f 13 then some sumTrue else none
noncomputable def X : Ex Leaf := exec Tryz.prog ctx 1000000 Leaf
noncomputable def sp3 : List Code := spine (codeD Tryz.prog 3)
noncomputable def preA : List Code := takeC 5 sp3
noncomputable def preB : List Code := takeC 3 (dropC 5 sp3)
noncomputable def bodyL : Code := loopOf (dropC 8 sp3)
noncomputable def suf3 : List Code := dropC 9 sp3
def mask3 : Nat := 309485014433067371035901939
end Go.Proofs.YtbmneikfcbbmmaaGreat.HF
end

section
open Go Go.Ab Go.Proofs
namespace Go.Proofs.YtbmneikfcbbmmaaGreat.HF
def i64 (n : Nat) : AV := .int .i64 (.ofNat n)
def u8 (n : Nat) : AV := .int .u8 (.ofNat n)
def rep {α} (n : Nat) (a : α) (l : List α) : List α := Nat.rec (motive := fun _ => List α) l (fun _ ih => a :: ih) n
/-- the list f i, f (i+1), .. of n elements, before l -/
def tab {α} (f : Nat → α) (n : Nat) (i : Nat) (l : List α) : List α := Nat.rec (motive := fun _ => Nat → List α) (fun _ => l) (fun _ ih i => f i :: ih (Nat.succ i)) n i
def tabA {α} (f : Nat → List α) (n : Nat) (i : Nat) (l : List α) : List α := Nat.rec (motive := fun _ => Nat → List α) (fun _ => l) (fun _ ih i => f i ++ ih (Nat.succ i)) n i
def dataB (i : Nat) : Nat := 610 + i
def tryOf (n i : Nat) : List AV := bif Nat.blt i n then [u8 (40 + i), u8 1, u8 1, .bool false, .bool false, i64 0, .slc (posOf (dataB i)) 0 512 (.ex 512)] else [u8 0, u8 0, u8 0, .bool false, .bool false, i64 0, .nils]
def toldOf (n r : Nat) (i : Nat) : AV := bif Nat.blt i n then (bif Nat.blt i r then .sint .i64 (.bin .add .i64 (.v 1) (.c 1)) else .sint .i64 (.v 1)) else i64 0
def srcCells (n : Nat) (told : Nat → AV) (asked : Nat → AV) (last : Nat → AV) : List AV :=
  tabA (tryOf n) 32 0 (tab (fun i => bif Nat.blt i n then .int .i64 (-1) else i64 0) 32 0 (tab told 32 0 (i64 0 :: tab asked 32 0 (tab last 32 0 []))))
def pipeOf (i : Nat) : AV := .agg [u8 (40 + i), u8 1, .bool false, u8 2, i64 512, i64 0, u8 2, u8 0, u8 0, .bool false, .bool false]
def leafB (addr : Nat) : Blk := .cells (u8 2 :: rep 128 (u8 0) (.bool false :: rep 128 (.bool false) [u8 addr, .bool false])) true
def hostB (n : Nat) (now left done trace : AV) : Blk := .cells [.iface 22 (.ptr (posOf 600) 0), .nili, .iface 28 (.ptr (posOf 601) 0), .map (posOf 602), .map (posOf 603), .nils, .slc (posOf 606) 0 n (.ex n), now, left, done, trace] true
def rot (n r i : Nat) : Nat := (i + r) % n
def datas (n : Nat) : List (Nat × Blk) := tab (fun i => (dataB i, Blk.cells (rep 512 (u8 0) []) true)) n 0 []
def common (n r : Nat) (l : List (Nat × Blk)) : List (Nat × Blk) :=
  (602, .map (tab (fun i => ⟨i64 i, pipeOf i, i⟩) n 0 []) n) :: (603, .map [] 0) :: (606, .grow (tab (fun i => i64 (rot n r i)) n 0 []) 1) :: l ++ datas n
def tmpsOf (n : Nat) (t : AV) : List (Nat × AV) := [(1, .sint .u8 (.v 11)), (4, .bool false), (6, .ptr (posOf 601) 0), (7, .ptr (posOf 604) 0), (9, i64 n), (10, t)]
/-- before the first tick -/
def T0 (n : Nat) : Tpl where
  tmps := tmpsOf n (i64 0)
  heap := (600, leafB 0) :: (601, .cells (srcCells n (fun _ => i64 0) (fun _ => .bool false) (fun _ => u8 0)) true) :: (604, hostB n (i64 0) (i64 0) .nilm .nils) :: common n 0 []
  next := 700
/-- after a tick: the ring begins at pipe r -/
def T (n r : Nat) : Tpl where
  tmps := tmpsOf n (.sint .i64 (.v 3))
  heap := (600, leafB (40 + (r + n - 1) % n)) :: (601, .cells (srcCells n (toldOf n r) (fun i => .bool (Nat.beq i r)) (fun i => bif Nat.blt i n then u8 1 else u8 0)) true) ::
    (604, hostB n (.sint .i64 (.v 3)) (i64 1153) (.map (posOf 605)) (.jslc (posOf 607) 5 0 11)) :: (605, .map [] 0) :: (607, .grow [] 11) :: common n r []
  next := 700
def ticksE : IE := .cv .i64 (.bin .rem .u8 (.v 11) (.c 31))
def bnd (x : Nat) (l : List (BE × Bool)) : List (BE × Bool) := (.cmp .leq (.c 0) (.v x), true) :: (.cmp .leq (.v x) (.c 1000000), true) :: l
def frameE : IE := .cv .u16 (.bin .rem .i64 (.bin .quo .i64 (.v 3) (.c 8)) (.c 2048))
/-- what is true of the number of a tick -/
def asmT : List (BE × Bool) := [(.cmp .leq (.c 1048576) (.v 3), false), (.cmp .leq (.v 3) (.c 1048576), true), (.cmp .eql (.bin .shr .u32 (.cv .u32 frameE) (.c 11)) (.c 0), true),
  (.cmp .eql frameE (.cv .u16 (.bin .and .u32 (.bin .or .u32 (.c 0) (.bin .mul .u32 (.cv .u32 frameE) (.c 1))) (.c 2047))), true)]
def asmV (n : Nat) : List (BE × Bool) := tab (fun i => (.cmp .eql (.bin .add .i64 (.v 1) (.c (.ofNat i))) (.c 0), false)) n 1 []
def asmB (more : Bool) : List (BE × Bool) := (.cmp .leq ticksE (.v 3), !more) :: asmT ++ asmV 14 ++ bnd 1 (bnd 3 (bnd 5 []))
def asm0 (more : Bool) : List (BE × Bool) := [(.cmp .leq ticksE (.c 0), !more)]
noncomputable def runB (n r : Nat) (more : Bool) : Tree Leaf := runL X Tryz.prog 90 mask3 [bodyL] (T n r).fr ((T n r).st none (asmB more)) (leafKR [T n ((r + 12) % n)] none)
noncomputable def run0 (n : Nat) (more : Bool) : Tree Leaf := runL X Tryz.prog 90 mask3 [bodyL] (T0 n).fr ((T0 n).st none (asm0 more)) (leafKR [T n (12 % n)] none)
end Go.Proofs.YtbmneikfcbbmmaaGreat.HF
end

section
open Go Go.Ab Go.Proofs
namespace Go.Proofs.YtbmneikfcbbmmaaGreat.HF
def tplArgs : Tpl := ⟨[(0, .sint .u8 (.v 10)), (1, .sint .u8 (.v 11))], [], 600⟩
def hostZ : Blk := .cells [.iface 22 (.ptr (posOf 600) 0), .nili, .iface 28 (.ptr (posOf 601) 0), .map (posOf 602), .map (posOf 603), .nils, .nils, i64 0, i64 0, .nilm, .nils] true
/-- behind the first pieces: the number of pipes is known -/
def TA (n : Nat) : Tpl where
  tmps := [(1, .sint .u8 (.v 11)), (4, .bool false), (5, .ptr (posOf 600) 0), (6, .ptr (posOf 601) 0), (7, .ptr (posOf 604) 0), (8, .int .i64 (.ofNat 0)), (9, i64 n)]
  heap := [(600, leafB 0), (601, .cells (srcCells 0 (fun _ => i64 0) (fun _ => .bool false) (fun _ => u8 0)) true), (602, .map [] 0), (603, .map [] 0), (604, hostZ)]
  next := 700
def nE : IE := .bin .add .i64 (.c 1) (.cv .i64 (.bin .rem .u8 (.v 10) (.c 12)))
def asmA (n : Nat) : List (BE × Bool) := [(.cmp .eql nE (.c (.ofNat n)), true)]
def tplR : Tpl := ⟨[(4, .bool true)], [], 700⟩
noncomputable def runA (n : Nat) : Tree Leaf := runL X Tryz.prog 90 mask3 preA tplArgs.fr (tplArgs.st none (asmA n)) (leafKR [TA n] none)
noncomputable def runM (n : Nat) : Tree Leaf := runL X Tryz.prog 90 mask3 preB (TA n).fr ((TA n).st none []) (leafKR [T0 n] none)
noncomputable def run0x (n : Nat) : Tree Leaf := runL X Tryz.prog 90 mask3 [bodyL] (T0 n).fr ((T0 n).st none (asm0 false)) (leafKR [T0 n] none)
noncomputable def runBx (n r : Nat) : Tree Leaf := runL X Tryz.prog 90 mask3 [bodyL] (T n r).fr ((T n r).st none (asmB false)) (leafKR [T n r] none)
noncomputable def runS (U : Tpl) : Tree Leaf := runL X Tryz.prog 90 mask3 suf3 U.fr (U.st none []) (leafK [tplR] none)
/-- the number of transactions that every pipe has had grows by at most twelve -/
def toldE (base : Bool) (hs : List Hole) : Bool :=
  match lookI 1 hs with
  | some (.c z) => !base && ile 0 z && ile z 12
  | some (.v 1) => base
  | some (.bin .add .i64 (.v 1) (.c z)) => base && ile 0 z && ile z 12
  | _ => false
def chkA (l : Leaf) : Bool := isNorm l.how && Nat.beq l.j 0 && l.hs.all idHole
def chk0 (l : Leaf) : Bool := isNorm l.how && Nat.beq l.j 0 && isI 11 (.v 11) l.hs && isI 3 (.c 1) l.hs && isI 5 (.c 12) l.hs && toldE false l.hs
def chkB (l : Leaf) : Bool := isNorm l.how && Nat.beq l.j 0 && isI 11 (.v 11) l.hs && isI 3 (.bin .add .i64 (.v 3) (.c 1)) l.hs && isI 5 (.bin .add .i64 (.v 5) (.c 12)) l.hs && toldE true l.hs
def chkE (l : Leaf) : Bool := isExitN 0 l.how && Nat.beq l.j 0 && l.hs.all idHole
def chkR (l : Leaf) : Bool := isRet l.how && Nat.beq l.j 0 && l.hs.isEmpty
noncomputable def chkStart (n : Nat) : Bool := (runA n).all chkA && (runM n).all chkA && winFree none (TA n)
noncomputable def chkT0 (n : Nat) : Bool := (run0 n true).all chk0 && (run0x n).all chkE && (runS (T0 n)).all chkR && winFree none (T0 n)
noncomputable def chkT (n r : Nat) : Bool := (runB n r true).all chkB && (runBx n r).all chkE && (runS (T n r)).all chkR && winFree none (T n r)
/-- where the ring may begin behind a tick -/
def turnsOf (n : Nat) : List Nat := match n with
  | 5 => [2, 4, 1, 3, 0] | 7 => [5, 3, 1, 6, 4, 2, 0] | 8 => [4, 0] | 9 => [3, 6, 0] | 10 => [2, 4, 6, 8, 0] | 11 => [1, 2, 3, 4, 5, 6, 7, 8, 9, 10, 0] | _ => [0]
end Go.Proofs.YtbmneikfcbbmmaaGreat.HF
end
