/- HostsFrames: the templates, the runs and their checks (definitions). -/
import Derived.Test.YtbmneikfcbbmmaaGreatFI
import Derived.Test.YtbmneikfcbbmmaaGreatProg
set_option linter.unusedVariables false
set_option linter.unusedSimpArgs false
set_option linter.unusedSectionVars false
section
open Go Go.Ab Go.Proofs
namespace Go.Proofs.YtbmneikfcbbmmaaGreat.HF
def masks : List Nat := [0, 0, 0, 309485014433067371035901939, 340305732573714524969434922718635032519, 75172857386998850070541240752011784900564143548926365648383710376995953648594435679379305831360340428429721543, 28951666460045097607420832832871752519152257275287102449109961023548444114941, 3138550867693541088625346182379251983389684301896426585943, 2086179531444137216852767116135476970280728878706859073778880024400636813179960480608158744563, 6009877420409339827294584662025317494279713780400125, 8391, 9007216434904095, 4952969100254958297874434021, 87452651375431695379855036882099296665599, 4722366834730546253819, 8391, 8207, 2621811, 45, 21, 2451570719, 16492946851767, 21, 272695751, 55, 39, 5, 21, 2167, 20283029178281832903078041354271, 291608385177140735, 604462909807314591547407, 281475253534847, 565836180326623, 68726849581, 2167, 5, 35184388906999, 525, 349, 295148186654413815867, 7, 32783, 72075323665031411, 536887511, 71, 7, 66679, 4215, 5, 33556607, 3, 31, 17389, 604275, 5, 21, 19, 1005, 5, 21, 31, 504373101, 5188151169851064327, 2302105649075, 7, 576460761430237307, 1048583, 4175, 1139, 1151039, 32783, 525, 32829, 9444805058518246901703, 71, 16777223, 5, 5, 8389633, 664616533193733950776684237685792771, 18051782039536351, 223, 21, 7, 5, 5, 2199027451379, 17179869391, 35184374188019, 1048767, 631, 4503599627372263, 7, 504373101, 19, 66483, 4194367, 71, 18014433942971335, 5, 66483, 15, 65619, 2097327, 1073758431, 79, 4194539, 21, 7, 275159973895, 287, 528435, 524307, 2216270307571, 1082142479, 1, 32925, 5, 8197, 1048579, 172573, 8733, 4019, 3975, 31, 5, 21, 39, 272383, 79, 2303, 524543, 5, 11324597171209962940719312522882278658932735, 81132114465429477531504435273631, 79, 65619, 19, 17179886351, 13164839976634628298295110780136696778032692856359452003713154079, 16517, 37, 37, 5, 3, 5, 3, 5, 3, 5, 3, 5, 13, 3, 5, 3, 5, 3, 4, 0, 5, 3, 19, 77673485063161437671655455, 1073742847, 144124019199967355, 1100853805307, 15, 7, 13, 65615, 2095, 131, 1073742847, 23, 623389305255875586556383, 15, 9440287, 5, 5, 18483, 51, 3, 9231, 0, 0, 0, 0, 0, 0, 0, 0, 0, 0, 0, 0, 0, 0, 0, 4948070858875, 4, 0, 0, 5, 0, 4, 78922121447, 72057594038976551, 1048627, 315, 0, 18455821710436861439, 21, 8195, 2049, 21, 2053, 5, 4836302797645379025240315, 9241386443956421115, 2260604496707375, 23, 294957, 8195, 1025, 5, 5, 21, 19, 7, 8205, 21, 41112931841251800028029051, 21, 339, 65663, 74973229, 1, 19, 5, 21, 21, 66483, 5, 618970019651734754459419643, 1180879992389397121083, 257, 5, 2161728370898063231, 4223, 2021163519, 5, 13, 5, 33, 1, 21, 66483, 5, 144185831698203677, 3, 13, 2417925426473834024804719, 31, 1075709431, 19, 66483, 15, 21, 5, 5, 5, 990895, 271, 10384593871817177683247510831234831, 5, 35184876582611, 5, 4210261, 262159, 1099511889943, 35374298455, 32925, 33243078329007, 16806963, 2148483575, 66483, 1073746119, 1074268103, 8804682991559, 20829169751433159, 8391, 83087207854311395603287443752634311, 19, 19023213622105999119, 22458641409078797123448399039441150152463, 277, 16661, 34877, 19, 5, 5, 19, 7, 69175290308874755455, 9223372166215499903, 72057658715094463, 7, 4503668346913551, 5, 5, 71, 1055, 5, 1693, 1966125, 5, 7, 66483, 15, 296352743455, 65551, 8390973, 19, 5, 5, 79, 262927, 93536104789560604428000148544236911726365580993149, 247, 4319059, 21, 5, 66483, 5, 85070916328093808077741356565204697467, 17, 5, 147573952590213349437, 42535336430091257778066843306448404475, 1073741853, 5, 4211, 65541, 65595, 19, 5, 66483, 21, 158456930082889466166949971431, 134348813, 1048827, 51, 7, 269484045, 549789368333, 151411200179131392196731, 129, 5, 3389, 70437463654941, 5, 7, 0, 0, 0, 0]
noncomputable def ctx0 : Ctx := mkCtx Tryz.prog masks fun _ => none
end Go.Proofs.YtbmneikfcbbmmaaGreat.HF
end

section
open Go Go.Ab Go.Proofs
namespace Go.Proofs.YtbmneikfcbbmmaaGreat.HR
open HF (masks)
noncomputable def ctx : Ctx := mkCtx Tryz.prog masks fun f => bif Nat.beq f 13 then some sumTrue else none
noncomputable def X : Ex Leaf := exec Tryz.prog ctx 1000000 Leaf
noncomputable def sp4 : List Code := spine (codeD Tryz.prog 4)
noncomputable def pre : List Code := takeC 13 sp4
noncomputable def body1 : Code := loopOf (dropC 13 sp4)
noncomputable def mid : List Code := takeC 3 (dropC 14 sp4)
noncomputable def body2 : Code := loopOf (dropC 17 sp4)
noncomputable def suf : List Code := dropC 18 sp4
def mask4 : Nat := 340305732573714524969434922718635032519
def i64 (n : Nat) : AV := .int .i64 (.ofNat n)
def u8 (n : Nat) : AV := .int .u8 (.ofNat n)
def tab {α} (f : Nat → α) (n : Nat) (i : Nat) (l : List α) : List α := Nat.rec (motive := fun _ => Nat → List α) (fun _ => l) (fun _ ih i => f i :: ih (Nat.succ i)) n i
def tabA {α} (f : Nat → List α) (n : Nat) (i : Nat) (l : List α) : List α := Nat.rec (motive := fun _ => Nat → List α) (fun _ => l) (fun _ ih i => f i ++ ih (Nat.succ i)) n i
def tryOf (i : Nat) : List AV := bif Nat.beq i 0 then [u8 9, u8 1, u8 9, .bool false, .bool false, i64 64, .nils] else [u8 0, u8 0, u8 0, .bool false, .bool false, i64 0, .nils]
def srcCells (told last : AV) : List AV :=
  tabA tryOf 32 0 (tab (fun i => bif Nat.beq i 0 then .int .i64 (-1) else i64 0) 32 0 (tab (fun i => bif Nat.beq i 0 then told else i64 0) 32 0 (i64 0 :: tab (fun _ => .bool false) 32 0 (tab (fun i => bif Nat.beq i 0 then last else u8 0) 32 0 []))))
def pipe : AV := .agg [u8 9, u8 1, .bool true, u8 2, i64 64, i64 0, u8 1, u8 0, u8 2, .bool false, .bool false]
def hostB (ring now left done : AV) : Blk := .cells [.iface 48 (.ptr (posOf 600) 0), .nili, .iface 28 (.ptr (posOf 601) 0), .map (posOf 602), .map (posOf 603), .nils, ring, now, left, done, .nils] true
def tmps1 (t : AV) : List (Nat × AV) := [(2, .sint .u8 (.v 13)), (6, .bool false), (7, .ptr (posOf 600) 0), (8, .ptr (posOf 601) 0), (9, .ptr (posOf 604) 0), (12, .sint .i64 (.v 12)), (13, t)]
def ring1 : AV := .slc (posOf 606) 0 1 (.ex 1)
def frames1 : AV := .sslc (posOf 605) (.c 0) (.len (.sv 3)) none
/-- before the first tick -/
def O0 : Tpl where
  tmps := tmps1 (i64 0)
  heap := [(600, .cells [.nils] true), (601, .cells (srcCells (i64 0) (u8 0)) true), (602, .map [⟨i64 0, pipe, 0⟩] 1), (603, .map [] 0), (604, hostB ring1 (i64 0) (i64 0) .nilm), (606, .grow [i64 0] 1)]
  next := 700
/-- behind a tick with the pipe open -/
def O1 : Tpl where
  tmps := tmps1 (.sint .i64 (.v 3))
  heap := [(600, .cells [frames1] true), (601, .cells (srcCells (.sint .i64 (.v 1)) (u8 4)) true), (602, .map [⟨i64 0, pipe, 0⟩] 1), (603, .map [] 0), (604, hostB ring1 (.sint .i64 (.v 3)) (.sint .i64 (.v 9)) (.map (posOf 607))), (605, .seq .u16 (.sv 3) none), (606, .grow [i64 0] 1), (607, .map [⟨i64 0, .bool true, 0⟩] 1)]
  next := 700
/-- behind a tick with the pipe closed -/
def C1 : Tpl where
  tmps := tmps1 (.sint .i64 (.v 3))
  heap := [(600, .cells [frames1] true), (601, .cells (srcCells (.sint .i64 (.v 1)) (.sint .u8 (.v 2))) true), (602, .map [] 1), (603, .map [] 0), (604, hostB .nils (.sint .i64 (.v 3)) (.sint .i64 (.v 9)) (.map (posOf 607))), (605, .seq .u16 (.sv 3) none), (607, .map [] 0)]
  next := 700
def tplArgs : Tpl := ⟨[(0, .sint .u8 (.v 10)), (1, .sint .u8 (.v 11)), (2, .sint .u8 (.v 13))], [], 600⟩
noncomputable def runA : Tree Leaf := runL X Tryz.prog 137 mask4 pre tplArgs.fr (tplArgs.st none []) (leafKR [O0] none)
def closedE : IE := .cv .i64 (.v 13)
def nE : IE := .bin .add .i64 (.bin .mul .i64 (.c 64) (.cv .i64 (.bin .rem .u8 (.v 11) (.c 5)))) (.cv .i64 (.v 10))
def frameE : IE := .cv .u16 (.bin .rem .i64 (.bin .quo .i64 (.v 3) (.c 8)) (.c 2048))
def asmT : List (BE × Bool) := [(.cmp .leq (.c 1048576) (.v 3), false), (.cmp .leq (.v 3) (.c 1048576), true), (.cmp .eql (.bin .shr .u32 (.cv .u32 frameE) (.c 11)) (.c 0), true),
  (.cmp .eql frameE (.cv .u16 (.bin .and .u32 (.bin .or .u32 (.c 0) (.bin .mul .u32 (.cv .u32 frameE) (.c 1))) (.c 2047))), true)]
def asm0 (more closing : Bool) : List (BE × Bool) := [(.cmp .leq (.v 12) (.c 0), !more), (.cmp .eql (.c 0) closedE, closing), (.cmp .leq closedE (.c 0), closing)]
def asm1 (more eq le : Bool) : List (BE × Bool) := (.cmp .leq (.v 12) (.v 3), !more) :: (.cmp .eql (.v 3) closedE, eq) :: (.cmp .leq closedE (.v 3), le) :: (.cmp .leq (.len (.sv 3)) (.c 1000), true) :: (.cmp .leq (.c 0) (.v 3), true) :: (.cmp .leq (.v 3) (.c 1000), true) :: asmT
noncomputable def run1 (T : Tpl) (asm : List (BE × Bool)) (Ts : List Tpl) : Tree Leaf := runL X Tryz.prog 137 mask4 [body1] T.fr (T.st none asm) (leafKR Ts none)
end Go.Proofs.YtbmneikfcbbmmaaGreat.HR
end

section
open Go Go.Ab Go.Proofs
namespace Go.Proofs.YtbmneikfcbbmmaaGreat.HR
/-- behind the first loop -/
def tmps2 (t : AV) : List (Nat × AV) := [(6, .bool false), (7, .ptr (posOf 600) 0), (8, .ptr (posOf 601) 0), (12, .sint .i64 (.v 12)), (15, t)]
def L0 : Tpl where
  tmps := tmps2 (i64 0)
  heap := [(600, .cells [.nils] true), (601, .cells (srcCells (i64 0) (u8 0)) true)]
  next := 700
def L1 : Tpl where
  tmps := tmps2 (.sint .i64 (.v 14))
  heap := [(600, .cells [frames1] true), (601, .cells (srcCells (.sint .i64 (.v 1)) (.sint .u8 (.v 2))) true), (605, .seq .u16 (.sv 3) none)]
  next := 700
def tplR : Tpl := ⟨[(6, .bool true)], [], 700⟩
def exit0 : List (BE × Bool) := [(.cmp .leq (.v 12) (.c 0), true)]
def exit1 : List (BE × Bool) := [(.cmp .leq (.v 12) (.v 3), true)]
def exit2 : List (BE × Bool) := [(.cmp .leq (.v 12) (.v 14), true)]
def mid0 : List (BE × Bool) := [(.cmp .eql (.c 0) (.v 12), true)]
def mid1 : List (BE × Bool) := [(.cmp .eql (.len (.sv 3)) (.v 12), true), (.cmp .eql (.v 3) (.v 12), true)]
def wantE : IE := .bin .rem .i64 (.bin .quo .i64 (.v 14) (.c 8)) (.c 2048)
def more2 : List (BE × Bool) := [(.cmp .leq (.v 12) (.v 14), false), (.cmp .leq (.c 0) (.v 14), true), (.cmp .leq (.len (.sv 3)) (.v 14), false), (.cmp .eql (.cv .i64 (.nth (.sv 3) (.v 14))) wantE, true)]
noncomputable def runM (T : Tpl) (asm : List (BE × Bool)) (T' : Tpl) : Tree Leaf := runL X Tryz.prog 137 mask4 mid T.fr (T.st none asm) (leafKR [T'] none)
noncomputable def run2 (T : Tpl) (asm : List (BE × Bool)) (T' : Tpl) : Tree Leaf := runL X Tryz.prog 137 mask4 [body2] T.fr (T.st none asm) (leafKR [T'] none)
noncomputable def runS (T : Tpl) : Tree Leaf := runL X Tryz.prog 137 mask4 suf T.fr (T.st none []) (leafKR [tplR] none)
def isQ (x : Nat) (e : IE) (hs : List Hole) : Bool := if lookQ x hs = some e then true else false
def nextE : IE := .bin .add .i64 (.v 3) (.c 1)
def noI (x : Nat) (hs : List Hole) : Bool := match lookI x hs with | none => true | some _ => false
theorem noI_eq {x : Nat} {hs : List Hole} (h : noI x hs = true) : lookI x hs = none := by
  unfold noI at h
  cases e : lookI x hs with
  | none => rfl
  | some _ => rw [e] at h; cases h
def chkA (l : Leaf) : Bool := isNorm l.how && Nat.beq l.j 0 && isI 13 (.v 13) l.hs && isI 12 nE l.hs && noI 3 l.hs
def chk0 (l : Leaf) : Bool := isNorm l.how && Nat.beq l.j 0 && isI 13 (.v 13) l.hs && isI 12 (.v 12) l.hs && isI 3 (.c 1) l.hs && isQ 3 (.one (.c 0)) l.hs
def chk1 (l : Leaf) : Bool := isNorm l.how && Nat.beq l.j 0 && isI 13 (.v 13) l.hs && isI 12 (.v 12) l.hs && isI 3 nextE l.hs && isQ 3 (.app (.sv 3) (.one frameE)) l.hs
def chkX (l : Leaf) : Bool := isExitN 0 l.how && Nat.beq l.j 0 && l.hs.all idHole
def chkM0 (l : Leaf) : Bool := isNorm l.how && Nat.beq l.j 0 && l.hs.all idHole
def chkM (l : Leaf) : Bool := isNorm l.how && Nat.beq l.j 0 && isI 12 (.v 12) l.hs && isI 14 (.c 0) l.hs && isQ 3 (.sv 3) l.hs
def chk2 (l : Leaf) : Bool := isNorm l.how && Nat.beq l.j 0 && isI 12 (.v 12) l.hs && isI 14 (.bin .add .i64 (.v 14) (.c 1)) l.hs && isQ 3 (.sv 3) l.hs
def chkY (l : Leaf) : Bool := isExitN 2 l.how && Nat.beq l.j 0 && l.hs.all idHole
def chkR (l : Leaf) : Bool := isRet l.how && Nat.beq l.j 0 && l.hs.isEmpty
noncomputable def all1 : Bool := runA.all chkA && (run1 O0 exit0 [O0]).all chkX && (run1 O0 (asm0 true false) [O1]).all chk0 && (run1 O0 (asm0 true true) [C1]).all chk0
noncomputable def all2 : Bool := (run1 O1 exit1 [O1]).all chkX && (run1 C1 exit1 [C1]).all chkX && (run1 O1 (asm1 true false false) [O1]).all chk1 && (run1 O1 (asm1 true true true) [C1]).all chk1 && (run1 C1 (asm1 true false true) [C1]).all chk1
noncomputable def all3 : Bool := (runM O0 mid0 L0).all chkM0 && (runM O1 mid1 L1).all chkM && (runM C1 mid1 L1).all chkM && (run2 L0 exit0 L0).all chkY && (run2 L1 exit2 L1).all chkY && (run2 L1 more2 L1).all chk2 && (runS L0).all chkR && (runS L1).all chkR
end Go.Proofs.YtbmneikfcbbmmaaGreat.HR
end
