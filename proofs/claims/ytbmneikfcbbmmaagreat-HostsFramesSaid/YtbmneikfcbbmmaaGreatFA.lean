/- An executor for the model's code on abstract values and memories: the definitions. -/
import Derived.Calls
import Derived.Defers
import Derived.Scope
import Derived.Orders
import Derived.KernelRfl
set_option linter.unusedVariables false
set_option linter.unusedSimpArgs false
set_option linter.unusedSectionVars false
section
/-! ABSTRACT MACHINE: definitions (no proofs). -/
noncomputable section
namespace Go.Ab

/-! ## Keys and tries -/
inductive Pos | xH | xO (p : Pos) | xI (p : Pos)
  deriving DecidableEq, Inhabited

def Pos.succ : Pos → Pos
  | .xH => .xO .xH
  | .xO p => .xI p
  | .xI p => .xO p.succ
def Pos.toNat : Pos → Nat
  | .xH => 1
  | .xO p => 2 * p.toNat
  | .xI p => 2 * p.toNat + 1
def Pos.nat (p : Pos) : Nat := Pos.rec (motive := fun _ => Nat) 1 (fun _ ih => Nat.mul 2 ih) (fun _ ih => Nat.succ (Nat.mul 2 ih)) p
def posStep (ih : Nat → Pos) (n : Nat) : Pos := bif Nat.ble n 1 then .xH else bif Nat.beq (n % 2) 0 then .xO (ih (n / 2)) else .xI (ih (n / 2))
/-- the key of a number n ≥ 1 -/
def posF (fuel : Nat) : Nat → Pos := Nat.rec (motive := fun _ => Nat → Pos) (fun _ => .xH) (fun _ ih => posStep ih) fuel
def posOf (n : Nat) : Pos := posF (n + 1) (n + 1)
def Pos.beq (p : Pos) : Pos → Bool := Pos.rec (motive := fun _ => Pos → Bool)
  (fun q => Pos.casesOn q true (fun _ => false) (fun _ => false))
  (fun _ ih q => Pos.casesOn q false (fun q => ih q) (fun _ => false))
  (fun _ ih q => Pos.casesOn q false (fun _ => false) (fun q => ih q)) p

inductive Trie (α : Type) | lf | nd (l : Trie α) (v : Option α) (r : Trie α)
  deriving Inhabited
namespace Trie
variable {α : Type}
def gH (t : Trie α) : Option α := Trie.rec (motive := fun _ => Option α) none (fun _ v _ _ _ => v) t
def gO (ih : Trie α → Option α) (t : Trie α) : Option α := Trie.rec (motive := fun _ => Option α) none (fun l _ _ _ _ => ih l) t
def gI (ih : Trie α → Option α) (t : Trie α) : Option α := Trie.rec (motive := fun _ => Option α) none (fun _ _ r _ _ => ih r) t
def get (p : Pos) : Trie α → Option α := Pos.rec (motive := fun _ => Trie α → Option α) gH (fun _ => gO) (fun _ => gI) p
def sH (a : Option α) (t : Trie α) : Trie α := Trie.rec (motive := fun _ => Trie α) (nd lf a lf) (fun l _ r _ _ => nd l a r) t
def sO (ih : Trie α → Trie α) (t : Trie α) : Trie α := Trie.rec (motive := fun _ => Trie α) (nd (ih lf) none lf) (fun l v r _ _ => nd (ih l) v r) t
def sI (ih : Trie α → Trie α) (t : Trie α) : Trie α := Trie.rec (motive := fun _ => Trie α) (nd lf none (ih lf)) (fun l v r _ _ => nd l v (ih r)) t
def put (p : Pos) (a : Option α) : Trie α → Trie α := Pos.rec (motive := fun _ => Trie α → Trie α) (sH a) (fun _ => sO) (fun _ => sI) p
end Trie

/-- a list as a trie: element number i under the key of i -/
def listT {α : Type} (l : List α) : Nat → Trie α → Trie α :=
  List.rec (motive := fun _ => Nat → Trie α → Trie α) (fun _ t => t) (fun a _ ih i t => ih (Nat.succ i) (t.put (posOf i) (some a))) l
section
variable (P : Program)
def typeT : Trie TypeInfo := listT P.types.toList 0 .lf
def funcT : Trie Func := listT P.funcs.toList 0 .lf
def infoA (t : TypeId) : Option TypeInfo := (typeT P).get (posOf t)
def funcA (f : FuncId) : Option Func := (funcT P).get (posOf f)
def descUnd (d : TypeDesc) : Option TypeDesc := match d with | .named _ u => (infoA P u).map (·.desc) | d => some d
def undA (t : TypeId) : Option TypeDesc := (infoA P t).bind fun i => descUnd P i.desc
end

/-! ## Symbolic integers and conditions -/
inductive IE
  | v (x : Nat)
  | c (n : Int)
  | bin (o : BinOp) (k : IntKind) (a b : IE)
  | cv (k : IntKind) (a : IE)
  -- sequences of numbers: a variable, literal, joined, one number, a part; the length of one, a number of one
  | sv (x : Nat)
  | sl (l : List Nat)
  | app (a b : IE)
  | one (e : IE)
  | sub (s lo hi : IE)
  | len (s : IE)
  | nth (s i : IE)
  | byt (s i : IE)
  deriving DecidableEq, Inhabited
inductive BE
  | v (x : Nat)
  | cmp (o : BinOp) (a b : IE)
  | not (b : BE)
  | seq (a b : IE)
  deriving DecidableEq, Inhabited

/-! ## Values -/
inductive Cap | ex (n : Nat) | op (d : Nat)
  deriving DecidableEq, Inhabited
inductive AV
  | bool (b : Bool)
  | int (k : IntKind) (n : Int)
  | str (l : List Nat)
  | nilp
  | ptr (p : Pos) (off : Nat)
  | nils
  | slc (p : Pos) (off len : Nat) (cap : Cap)
  | nilm
  | map (p : Pos)
  | func (fn : Fn) (first captured : List AV)
  | nilf
  | iface (t : Nat) (v : AV)
  | nili
  | agg (cs : List AV)
  | tup (vs : List AV)
  | sint (k : IntKind) (e : IE)
  | sbool (e : BE)
  | opq (x : Nat)
  | yld (p : Pos)
  | jslc (p : Pos) (x n sz : Nat)
  | sstr (s : IE)
  | sslc (p : Pos) (lo hi : IE) (cp : Option IE)
  | sptr (p : Pos) (i : IE)
  | bad
  deriving Inhabited

structure Ent where
  key : AV
  val : AV
  born : Nat

/-- how a round of a range over a function was left -/
inductive RJ | ret | exit (id : Nat) | goto (l : Nat)
inductive RSt | ready | busy | done (j : RJ) | over
inductive Blk
  | cells (cs : List AV) (plain : Bool)
  | grow (cs : List AV) (sz : Nat)
  | map (es : List Ent) (clock : Nat)
  | sit (s : List Nat) (pos : Nat)
  | win (x sz : Nat) (cs : List AV)
  | lrec (st : RSt) (m : Nat) (tmps : Trie AV) (ps : List Nat) (ac bc : Code)
  | dfr (open_ : Bool)
  | mit (m : Option Pos) (since : Nat) (seen : List Nat) (last : Nat)
  | seq (k : IntKind) (s : IE) (cp : Option IE)
  | ro (x : Nat) (k : IntKind) (s : IE)
  | dead
  deriving Inhabited

def Blk.isRo : Blk → Bool | .ro .. => true | _ => false
structure St where
  heap : Trie Blk
  next : Pos
  asm : List (BE × Bool)

structure Fr where
  tmps : Trie AV
  defs : List (AV × List AV)

/-! ## Trees of branches -/
inductive Tree (α : Type) | ok (a : α) | bad (why : Nat) | br (c : BE) (t e : Tree α)

/-! ## Helpers -/
def AV.cells (v : AV) : List AV := match v with | .agg cs => cs | v => [v]

variable {β : Type}
def onSome {α : Type} (why : Nat) (o : Option α) (k : α → Tree β) : Tree β := Option.rec (motive := fun _ => Tree β) (.bad why) k o
def dropL (n : Nat) : List AV → List AV :=
  Nat.rec (motive := fun _ => List AV → List AV) (fun l => l) (fun _ ih l => List.rec (motive := fun _ => List AV) [] (fun _ t _ => ih t) l) n
def takeL (n : Nat) : List AV → Option (List AV) :=
  Nat.rec (motive := fun _ => List AV → Option (List AV)) (fun _ => some [])
    (fun _ ih l => List.rec (motive := fun _ => Option (List AV)) none (fun h t _ => Option.rec (motive := fun _ => Option (List AV)) none (fun r => some (h :: r)) (ih t)) l) n
def nthL (n : Nat) : List AV → Option AV :=
  Nat.rec (motive := fun _ => List AV → Option AV) (fun l => List.rec (motive := fun _ => Option AV) none (fun h _ _ => some h) l)
    (fun _ ih l => List.rec (motive := fun _ => Option AV) none (fun _ t _ => ih t) l) n
/-- write the values vs over the head of a list -/
def overL (vs : List AV) : List AV → Option (List AV) :=
  List.rec (motive := fun _ => List AV → Option (List AV)) (fun l => some l)
    (fun v _ ih l => List.rec (motive := fun _ => Option (List AV)) none (fun _ t _ => Option.rec (motive := fun _ => Option (List AV)) none (fun r => some (v :: r)) (ih t)) l) vs
/-- write the values vs at a place of a list -/
def spliceL (n : Nat) (vs : List AV) : List AV → Option (List AV) :=
  Nat.rec (motive := fun _ => List AV → Option (List AV)) (overL vs)
    (fun _ ih l => List.rec (motive := fun _ => Option (List AV)) none (fun h t _ => Option.rec (motive := fun _ => Option (List AV)) none (fun r => some (h :: r)) (ih t)) l) n

def Blk.row (b : Blk) : Option (List AV) := match b with | .cells cs _ => some cs | .grow cs _ => some cs | _ => none
def Blk.withRow (b : Blk) (cs : List AV) : Blk := match b with | .cells _ q => .cells cs q | .grow _ z => .grow cs z | b => b

def Blk.rowR (b : Blk) : Option (List AV) := match b with | .cells cs _ => some cs | .grow cs _ => some cs | .win _ _ cs => some cs | _ => none
structure WinB where
  x : Nat
  sz : Nat
def Blk.asWin : Blk → Option WinB | .win x sz _ => some ⟨x, sz⟩ | _ => none
def St.row (s : St) (p : Pos) : Option (List AV) := (s.heap.get p).bind Blk.rowR
def St.winAt (s : St) (p : Pos) : Option WinB := (s.heap.get p).bind Blk.asWin
def St.loadN (s : St) (p : Pos) (off n : Nat) : Option (List AV) := (s.row p).bind fun cs => takeL n (dropL off cs)
def St.load1 (s : St) (p : Pos) (off : Nat) : Option AV := (s.row p).bind (nthL off)
def St.put (s : St) (p : Pos) (b : Blk) : St := { s with heap := s.heap.put p (some b) }
def AV.isOne : AV → Bool | .agg _ | .tup _ | .bad => false | _ => true
def allOne (vs : List AV) : Bool := List.rec (motive := fun _ => Bool) true (fun v _ ih => bif v.isOne then ih else false) vs
def St.storeIn (s : St) (p : Pos) (off : Nat) (vs : List AV) (b : Blk) : Option St :=
  bif allOne vs then (b.row.bind (spliceL off vs)).map fun cs => s.put p (b.withRow cs) else none
def St.storeN (s : St) (p : Pos) (off : Nat) (vs : List AV) : Option St := (s.heap.get p).bind (s.storeIn p off vs)
def St.new (s : St) (b : Blk) : St := { s with heap := s.heap.put s.next (some b), next := s.next.succ }
def St.know (s : St) (c : BE) (b : Bool) : St := { s with asm := (c, b) :: s.asm }

/-- what is known of a condition -/
def decideL (c : BE) : List (BE × Bool) → Option Bool
  | [] => none
  | (d, b) :: l => if c = d then some b else decideL c l
def ile (a b : Int) : Bool := match Int.sub b a with | .ofNat _ => true | .negSucc _ => false
def iSmall (n : Int) : Bool := ile n 1000000 && ile (-1000000) n
/-- a number and a constant -/
structure Lin where
  at_ : Option IE
  c : Int
def Lin.plus (l : Lin) (n : Int) : Option Lin := bif iSmall n && iSmall (Int.add l.c n) then some ⟨l.at_, Int.add l.c n⟩ else none
def lin : IE → Option Lin
  | .c n => bif iSmall n then some ⟨none, n⟩ else none
  | .bin .add .i64 a (.c n) => (lin a).bind fun l => l.plus n
  | .bin .sub .i64 a (.c n) => (lin a).bind fun l => l.plus (Int.neg n)
  | e => some ⟨some e, 0⟩
def eqAt (a b : Option IE) : Bool := match a, b with | none, none => true | some x, some y => if x = y then true else false | _, _ => false
def isLen (e : IE) : Bool := match e with | .len _ => true | _ => false
/-- a known upper bound -/
def boundHi (e : IE) : List (BE × Bool) → Bool
  | [] => false
  | (.cmp .leq x (.c m), true) :: l => bif (if x = e then true else false) && ile m 1000000 then true else boundHi e l
  | _ :: l => boundHi e l
def boundLo (e : IE) (l : List (BE × Bool)) : Bool := isLen e || (match decideL (.cmp .leq (.c 0) e) l with | some true => true | _ => false)
/-- a number that is known to be from 0 to 1000000 -/
def bounded (l : List (BE × Bool)) (a : Option IE) : Bool :=
  match a with
  | none => true
  | some e => boundLo e l && boundHi e l
/-- what a known 'x <= y' (or its negation) says of 'a - b <= d' -/
def useLeq (a b : Option IE) (d : Int) (x y : Lin) (p : Bool) : Option Bool :=
  bif eqAt x.at_ a && eqAt y.at_ b then
    (bif p then (bif ile (Int.sub y.c x.c) d then some true else none) else (bif ile d (Int.sub y.c x.c) then some false else none))
  else bif eqAt x.at_ b && eqAt y.at_ a then
    (bif p then (bif ile (Int.add d 1) (Int.sub x.c y.c) then some false else none) else (bif ile (Int.sub (Int.sub x.c y.c) 1) d then some true else none))
  else none
def scanLeq (a b : Option IE) (d : Int) : List (BE × Bool) → Option Bool
  | [] => none
  | (.cmp .leq x y, p) :: l => match (lin x).bind fun x => (lin y).bind fun y => useLeq a b d x y p with
    | some r => some r
    | none => scanLeq a b d l
  | _ :: l => scanLeq a b d l
def decLeq (a b : IE) (l : List (BE × Bool)) : Option Bool :=
  (lin a).bind fun x => (lin b).bind fun y => bif bounded l x.at_ && bounded l y.at_ then
    (bif eqAt x.at_ y.at_ then some (ile x.c y.c) else scanLeq x.at_ y.at_ (Int.sub y.c x.c) l) else none
def scanEq (e : IE) (n : Int) : List (BE × Bool) → Option Bool
  | [] => none
  | (.cmp .eql x (.c m), true) :: l => if x = e ∧ m ≠ n then some false else scanEq e n l
  | _ :: l => scanEq e n l
def scanVal (e : IE) : List (BE × Bool) → Option Int
  | [] => none
  | (.cmp .eql x (.c m), true) :: l => if x = e then some m else scanVal e l
  | _ :: l => scanVal e l
def valOf (e : IE) (l : List (BE × Bool)) : Option Int := match e with | .c n => some n | e => scanVal e l
def decVal (a b : IE) (l : List (BE × Bool)) : Option Bool := match valOf a l, valOf b l with | some x, some y => some (ile x y) | _, _ => decLeq a b l
/-- what follows of a condition from what is known -/
def decideM (c : BE) (l : List (BE × Bool)) : Option Bool :=
  match decideL c l with
  | some b => some b
  | none => match c with
    | .cmp .leq a b => decVal a b l
    | .cmp .eql a b => if a = b then some true else match b with | .c n => scanEq a n l | _ => none
    | .seq a b => if a = b then some true else none
    | _ => none
structure NB where
  c : BE
  p : Bool
def BE.nrm : BE → Bool → NB
  | .not c, p => c.nrm (!p)
  | .cmp .lss a b, p => ⟨.cmp .leq b a, !p⟩
  | c, p => ⟨c, p⟩
def brOn (c : BE) (s : St) (k : Bool → St → Tree β) : Tree β :=
  match c.nrm true with
  | ⟨c, p⟩ => match decideM c s.asm with
    | some b => k (b == p) s
    | none => .br c (k p (s.know c true)) (k (!p) (s.know c false))
/-! ### what is known -/
def isYes (o : Option Bool) (b : Bool) : Bool := match o with | some c => c == b | none => false
def knows (l : List (BE × Bool)) (c : BE) (b : Bool) : Bool := isYes (decideM c l) b
def leqK (l : List (BE × Bool)) (a b : IE) : Bool := bif (if a = b then true else false) then true else knows l (.cmp .leq a b) true
def lssK (l : List (BE × Bool)) (a b : IE) : Bool := knows l (.cmp .leq b a) false
/-- an index of a row of n -/
def inK (l : List (BE × Bool)) (e n : IE) : Bool := leqK l (.c 0) e && lssK l e n
def sameE (a b : IE) : Bool := if a = b then true else false
def sameO (a b : Option IE) : Bool := if a = b then true else false
def hiOf (e : IE) : List (BE × Bool) → Option Nat
  | [] => none
  | (.cmp .leq x (.c m), true) :: l => bif sameE x e then some m.toNat else hiOf e l
  | _ :: l => hiOf e l
/-- a bound of the length of a sequence -/
def maxLen (l : List (BE × Bool)) : IE → Option Nat
  | .sl b => some b.length
  | .one _ => some 1
  | .app a b => (maxLen l a).bind fun x => (maxLen l b).map fun y => x + y
  | .sub s _ _ => maxLen l s
  | e => hiOf (.len e) l
def subE (s lo hi : IE) : IE := bif sameE lo (.c 0) && sameE hi (.len s) then s else .sub s lo hi
/-! ## Integers -/
def forceI {α : Type} (x : Int) (f : Int → α) : α :=
  Int.rec (motive := fun _ => α) (fun n => Nat.rec (motive := fun _ => α) (f (.ofNat 0)) (fun m _ => f (.ofNat (Nat.succ m))) n)
    (fun n => Nat.rec (motive := fun _ => α) (f (.negSucc 0)) (fun m _ => f (.negSucc (Nat.succ m))) n) x
def inRange (k : IntKind) (n : Int) : Bool :=
  match n with
  | .ofNat m => match k with | .i8 => Nat.ble m 127 | .i16 => Nat.ble m 32767 | .i32 => Nat.ble m 2147483647 | .i64 => Nat.ble m 9223372036854775807
                             | .u8 => Nat.ble m 255 | .u16 => Nat.ble m 65535 | .u32 => Nat.ble m 4294967295 | .u64 => Nat.ble m 18446744073709551615
  | .negSucc m => match k with | .i8 => Nat.ble m 127 | .i16 => Nat.ble m 32767 | .i32 => Nat.ble m 2147483647 | .i64 => Nat.ble m 9223372036854775807 | _ => false
def wrapF (k : IntKind) (n : Int) : Int := bif inRange k n then n else k.wrap n
def isNeg (n : Int) : Bool := match n with | .ofNat _ => false | .negSucc _ => true
def ilt (a b : Int) : Bool := isNeg (Int.sub a b)
def ieq (a b : Int) : Bool := match a, b with | .ofNat x, .ofNat y => Nat.beq x y | .negSucc x, .negSucc y => Nat.beq x y | _, _ => false
end Go.Ab
end

section
noncomputable section
namespace Go.Ab

/-! ## Operations as they are carried out -/
inductive Arg | loc (i : Nat) | tmp (p : Pos) | cst (v : AV) | bad
  deriving Inhabited

/-- a part of an aggregate: place, size, value -/
structure Part where
  off : Nat
  size : Nat
  arg : Arg

inductive Conv | int (k : IntKind) | str | b2s | r2s | same
inductive LenK | str | num (n : Nat) | slc | map
inductive SlK | str | arr (n sz : Nat) | slc (sz : Nat)
inductive AOp
  | mv (a : Arg)
  | pick (c a b : Arg)
  | nilck (a : Arg)
  | ld (n : Option Nat) (a : Arg)
  | fadr (off : Nat) (a : Arg)
  | fld (off : Nat) (n : Option Nat) (a : Arg)
  | ixa (arr : Option Nat) (sz : Nat) (x i : Arg)
  | ixs (x i : Arg)
  | ixv (len sz : Nat) (n : Option Nat) (x i : Arg)
  | arith (o : BinOp) (a b : Arg)
  | cmp (o : BinOp) (a b : Arg)
  | shift (left : Bool) (a b : Arg)
  | strop (o : BinOp) (a b : Arg)
  | eqv (neg : Bool) (t : TypeId) (cst : Bool) (a b : Arg)
  | un (o : UnOp) (a : Arg)
  | conv (c : Conv) (a : Arg)
  | mkif (t : TypeId) (a : Arg)
  | mkfn (fn : Fn) (first captured : List Arg)
  | build (z : List AV) (ps : List Part)
  | slice (k : SlK) (x : Arg) (lo hi mx : Option Arg)
  | ext (a : Arg) (i : Nat)
  | len (k : LenK) (a : Arg)
  | cap (n : Option Nat) (a : Arg)
  | minmax (max : Bool) (a : Arg) (l : List Arg)
  | assertT (t : TypeId) (z : AV) (ok : Bool) (a : Arg)
  | assertI (t : TypeId) (ok : Bool) (a : Arg)
  | lookup (kt : TypeId) (z : AV) (ok : Bool) (m k : Arg)
  -- new memory
  | alloc (z : List AV)
  | box (a : Arg)
  | bslice (n : Nat) (z : List AV) (ps : List Part)
  | mkmap
  | mksl (sz bytes : Nat) (z : List AV) (l c : Arg)
  -- effects
  | st (n : Nat) (a v : Arg)
  | append (sz bytes : Nat) (z : List AV) (str : Bool) (s x : Arg)
  | copy (sz : Nat) (d x : Arg)
  | upd (kt : TypeId) (m k v : Arg)
  | del (kt : TypeId) (m k : Arg)
  | callF (f : FuncId) (args : List Arg)
  | callV (f : Arg) (args : List Arg)
  | callM (r : Arg) (name : String) (args : List Arg)
  | dfr (f : Arg) (args : List Arg)
  | s2b (bytes : Nat) (a : Arg)
  | rngS (a : Arg)
  | nextS (a : Arg)
  | rngM (a : Arg)
  | nextM (a : Arg)
  | entM (a : Arg)
  | no (why : Nat)
  deriving Inhabited

/-- 0: quiet, 1: new memory, 2: effect -/
def AOp.cls : AOp → Nat
  | .alloc _ | .box _ | .bslice .. | .mkmap | .mksl .. => 1
  | .st .. | .append .. | .copy .. | .upd .. | .del .. | .callF .. | .callV .. | .callM .. | .dfr .. | .s2b .. | .rngS .. | .nextS .. | .rngM .. | .nextM .. | .entM .. => 2
  | _ => 0

structure AOper where
  dst : Option Pos
  guard : Option (Nat × Bool)
  op : AOp
  isDfr : Bool

/-- for a region that draws its order: the least and the greatest number of effects ahead of an operation; which operations stand before it -/
structure Win where
  lo : Nat
  hi : Nat
  m : Nat
inductive AC
  | skip
  | reg (ops : List AOper)
  | dreg (ok : Bool) (ops : List AOper) (wins : List Win)
  | seq (a b : AC)
  | cond (c : Arg) (a b : AC)
  | block (id : Nat) (b : AC)
  | loop (b : AC)
  | exit (id : Nat)
  | scope (m : Nat) (c : Code) (b : AC)
  | rng (f : Arg) (ps : List Nat) (m : Nat) (ac bc : Code)
  | goto (l : Nat)
  | ret
  | no (why : Nat)
  deriving Inhabited

/-! ## From the model's values -/
def natsOf (s : ByteArray) : List Nat := s.data.toList.map UInt8.toNat
def abstF : Nat → Value → AV
  | 0, _ => .bad
  | n + 1, v => match v with
    | .bool b => .bool b
    | .int k n => .int k n
    | .string s => .str (natsOf s)
    | .pointer none => .nilp
    | .slice none 0 0 => .nils
    | .map none => .nilm
    | .func fn a c => .func fn (a.toList.map (abstF n)) (c.toList.map (abstF n))
    | .nilFunc => .nilf
    | .iface t v => .iface t (abstF n v)
    | .nilIface => .nili
    | .agg cs => .agg (cs.toList.map (abstF n))
    | .tuple vs => .tup (vs.toList.map (abstF n))
    | _ => .bad
def abst (v : Value) : AV := abstF 8 v
/-- a value without memory -/
def closedF : Nat → AV → Bool
  | 0, _ => false
  | n + 1, v => match v with
    | .bool _ => true
    | .int _ _ => true
    | .str _ => true
    | .nilp => true
    | .nils => true
    | .nilm => true
    | .nilf => true
    | .nili => true
    | .agg l => l.all (closedF n)
    | .tup l => l.all (closedF n)
    | _ => false
end Go.Ab
end

section
noncomputable section
namespace Go.Ab
variable {β : Type}

def undefA : AV := .tup []
abbrev CallT (β : Type) := FuncId → List AV → St → (AV → St → Tree β) → Tree β
abbrev Kv (β : Type) := AV → St → Tree β

/-! ### views: closed functions, so that the kernel copies nothing -/
def aLoc (i : Nat) (ls : List AV) (_ : Fr) : Option AV := nthL i ls
def aTmp (p : Pos) (_ : List AV) (fr : Fr) : Option AV := fr.tmps.get p
def aCst (v : AV) (_ : List AV) (_ : Fr) : Option AV := some v
def aBad (_ : List AV) (_ : Fr) : Option AV := none
def argV (a : Arg) : List AV → Fr → Option AV := Arg.rec (motive := fun _ => List AV → Fr → Option AV) aLoc aTmp aCst aBad a
def onArg (a : Arg) (ls : List AV) (fr : Fr) (k : AV → Tree β) : Tree β := onSome 1 (argV a ls fr) k
def onArgs0 (_ : List AV) (_ : Fr) (k : List AV → Tree β) : Tree β := k []
def onArgs1 (a : Arg) (_ : List Arg) (ih : List AV → Fr → (List AV → Tree β) → Tree β) (ls : List AV) (fr : Fr) (k : List AV → Tree β) : Tree β :=
  onArg a ls fr fun v => ih ls fr fun vs => k (v :: vs)
def onArgs (as : List Arg) : List AV → Fr → (List AV → Tree β) → Tree β :=
  List.rec (motive := fun _ => List AV → Fr → (List AV → Tree β) → Tree β) onArgs0 onArgs1 as
def onOpt (a : Option Arg) (ls : List AV) (fr : Fr) (k : Option AV → Tree β) : Tree β :=
  Option.rec (motive := fun _ => Tree β) (k none) (fun a => onArg a ls fr fun v => k (some v)) a
structure VI where
  k : IntKind
  n : Int
structure VE where
  k : IntKind
  e : IE
structure VP where
  p : Pos
  off : Nat
structure VS where
  p : Pos
  off : Nat
  len : Nat
  cap : Cap
structure VF where
  fn : Fn
  first : List AV
  cap : List AV
structure VT where
  t : Nat
  v : AV
def AV.asInt : AV → Option VI | .int k n => some ⟨k, n⟩ | _ => none
def AV.asIE : AV → Option VE | .int k n => some ⟨k, .c n⟩ | .sint k e => some ⟨k, e⟩ | _ => none
def AV.asPtr : AV → Option VP | .ptr p o => some ⟨p, o⟩ | _ => none
def AV.asYld : AV → Option Pos | .yld p => some p | _ => none
structure JS where
  p : Pos
  x : Nat
  n : Nat
  sz : Nat
def AV.asJ : AV → Option JS | .jslc p x n sz => some ⟨p, x, n, sz⟩ | _ => none
structure SQ where
  p : Pos
  lo : IE
  hi : IE
  cp : Option IE
def AV.asSslc : AV → Option SQ | .sslc p lo hi cp => some ⟨p, lo, hi, cp⟩ | _ => none
structure SP where
  p : Pos
  i : IE
def AV.asSptr : AV → Option SP | .sptr p i => some ⟨p, i⟩ | _ => none
def AV.asSstr : AV → Option IE | .sstr s => some s | _ => none
/-- a string as a sequence -/
def AV.asSE : AV → Option IE | .str l => some (.sl l) | .sstr s => some s | _ => none
structure SB where
  k : IntKind
  s : IE
def Blk.asSeq : Blk → Option SB | .seq k s _ => some ⟨k, s⟩ | .ro _ k s => some ⟨k, s⟩ | _ => none
def St.seqAt (s : St) (p : Pos) : Option SB := (s.heap.get p).bind Blk.asSeq
def AV.asOpq : AV → Option Nat | .opq x => some x | _ => none
/-- the index that a window stands at -/
def isIx (x : Nat) (v : AV) : Bool := match v with | .sint _ (.v y) => Nat.beq y (Nat.succ x) | _ => false
def AV.asSlc : AV → Option VS | .slc p o n c => some ⟨p, o, n, c⟩ | _ => none
def AV.asStr : AV → Option (List Nat) | .str l => some l | _ => none
def AV.asAgg : AV → Option (List AV) | .agg l => some l | _ => none
def AV.asTup : AV → Option (List AV) | .tup l => some l | _ => none
def AV.asMap : AV → Option Pos | .map p => some p | _ => none
def AV.asFn : AV → Option VF | .func f a c => some ⟨f, a, c⟩ | _ => none
def AV.asIf : AV → Option VT | .iface t v => some ⟨t, v⟩ | _ => none
def AV.asB : AV → Option Bool | .bool b => some b | _ => none
def AV.asSB : AV → Option BE | .sbool b => some b | _ => none
/-- 1: nil pointer, 2: nil slice, 3: nil map, 4: nil function, 5: nil interface -/
def AV.nilK : AV → Nat | .nilp => 1 | .nils => 2 | .nilm => 3 | .nilf => 4 | .nili => 5 | _ => 0
def AV.isNil (v : AV) (n : Nat) : Bool := Nat.beq v.nilK n
def onSomeOr {α : Type} (o : Option α) (k : α → Tree β) (e : Tree β) : Tree β := Option.rec (motive := fun _ => Tree β) e k o
def guardB (b : Bool) (why : Nat) (t : Tree β) : Tree β := Bool.rec (motive := fun _ => Tree β) (.bad why) t b
def ifB (b : Bool) (t e : Tree β) : Tree β := Bool.rec (motive := fun _ => Tree β) e t b

/-! ### bools -/
def onBool (why : Nat) (v : AV) (s : St) (k : Bool → St → Tree β) : Tree β :=
  onSomeOr v.asB (fun b => k b s) (onSome why v.asSB fun c => brOn c s k)

/-! ### numbers -/
def kIx (k : IntKind) : Nat := IntKind.rec (motive := fun _ => Nat) 0 1 2 3 4 5 6 7 k
def kEq (a b : IntKind) : Bool := Nat.beq (kIx a) (kIx b)
/-- operations that a symbolic number may undergo -/
def symOk (o : BinOp) (b : IE) : Bool :=
  match o, b with
  | .add, _ | .sub, _ | .mul, _ | .and, _ | .or, _ | .xor, _ | .andNot, _ => true
  | .quo, .c n | .rem, .c n => !ieq n 0
  | _, _ => false
def addF (k : IntKind) (x y : Int) : Option Int := some (wrapF k (Int.add x y))
def subF (k : IntKind) (x y : Int) : Option Int := some (wrapF k (Int.sub x y))
def mulF (k : IntKind) (x y : Int) : Option Int := some (wrapF k (Int.mul x y))
def quoF (k : IntKind) (x y : Int) : Option Int := bif ieq y 0 then none else some (wrapF k (x.tdiv y))
def remF (_ : IntKind) (x y : Int) : Option Int := bif ieq y 0 then none else some (x.tmod y)
/-- the bits of two numbers: quick where neither is negative -/
def bits2 (f : Nat → Nat → Nat) (g : Int → Int → Int) (k : IntKind) (x y : Int) : Int :=
  bif inRange k x && inRange k y && !isNeg x && !isNeg y then .ofNat (f x.toNat y.toNat) else g x y
def andG (k : IntKind) (x y : Int) : Int := k.wrap (BitVec.ofInt k.bits x &&& BitVec.ofInt k.bits y).toNat
def orG (k : IntKind) (x y : Int) : Int := k.wrap (BitVec.ofInt k.bits x ||| BitVec.ofInt k.bits y).toNat
def xorG (k : IntKind) (x y : Int) : Int := k.wrap (BitVec.ofInt k.bits x ^^^ BitVec.ofInt k.bits y).toNat
def andF (k : IntKind) (x y : Int) : Option Int := some (bits2 Nat.land (andG k) k x y)
def orF (k : IntKind) (x y : Int) : Option Int := some (bits2 Nat.lor (orG k) k x y)
def xorF (k : IntKind) (x y : Int) : Option Int := some (bits2 Nat.xor (xorG k) k x y)
def andNotF (k : IntKind) (x y : Int) : Option Int := some (k.wrap (BitVec.ofInt k.bits x &&& ~~~(BitVec.ofInt k.bits y)).toNat)
def noF (_ : IntKind) (_ _ : Int) : Option Int := none
/-- (add, sub, mul, quo, rem, and, or, xor, andNot; else none) -/
def arithF (o : BinOp) : IntKind → Int → Int → Option Int :=
  match o with
  | .add => addF | .sub => subF | .mul => mulF | .quo => quoF | .rem => remF | .and => andF | .or => orF | .xor => xorF | .andNot => andNotF
  | _ => noF
def shlF (k : IntKind) (x y : Int) : Option Int := bif isNeg y then none else some (wrapF k (Int.mul x (2 ^ (Nat.min y.toNat k.bits))))
def shrF (k : IntKind) (x y : Int) : Option Int := bif isNeg y then none else some (x.fdiv (2 ^ (Nat.min y.toNat k.bits)))
def eqlF (x y : Int) : Bool := ieq x y
def neqF (x y : Int) : Bool := !ieq x y
def lssF (x y : Int) : Bool := ilt x y
def leqF (x y : Int) : Bool := !ilt y x
def gtrF (x y : Int) : Bool := ilt y x
def geqF (x y : Int) : Bool := !ilt x y
def cmpF (o : BinOp) : Int → Int → Bool :=
  match o with
  | .eql => eqlF | .neq => neqF | .lss => lssF | .leq => leqF | .gtr => gtrF | _ => geqF
/-- a comparison of symbolic numbers: the condition, in one of three forms (==, <, <=), or its negation -/
def symCmp (o : BinOp) (a b : IE) : AV :=
  match o with
  | .eql => .sbool (.cmp .eql a b)
  | .neq => .sbool (.not (.cmp .eql a b))
  | .lss => .sbool (.cmp .lss a b)
  | .leq => .sbool (.cmp .leq a b)
  | .gtr => .sbool (.not (.cmp .leq a b))
  | _ => .sbool (.not (.cmp .lss a b))
def two {α : Type} (f : AV → Option α) (why : Nat) (x y : AV) (k : α → α → Tree β) : Tree β :=
  onSome why (f x) fun a => onSome why (f y) fun b => k a b
def litOr (x y : AV) (k : VI → VI → Tree β) (e : Tree β) : Tree β := onSomeOr x.asInt (fun a => onSomeOr y.asInt (fun b => k a b) e) e
def kInt (k : Kv β) (s : St) (j : IntKind) (z : Int) : Tree β := forceI z fun z => k (.int j z) s
/-- a symbolic number as a sum with a constant -/
structure AddP where
  e : IE
  n : Int
def addPart (e : IE) : AddP := match e with | .bin .add .i64 e (.c n) => ⟨e, n⟩ | e => ⟨e, 0⟩
def isC (e : IE) : Option Int := match e with | .c n => some n | _ => none
def mkS (k : IntKind) (e : IE) : AV := match e with | .c z => .int k z | e => .sint k e
/-- sums and differences of 64 bits are gathered -/
def binK (o : BinOp) (kd : IntKind) (a b : IE) (f : IE → Tree β) : Tree β :=
  bif kEq kd .i64 then (match o with
    | .add => onSomeOr (isC b) (fun m => forceI (wrapF .i64 (Int.add (addPart a).n m)) fun z => f (.bin .add .i64 (addPart a).e (.c z))) (f (.bin .add kd a b))
    | .sub => onSomeOr (isC b) (fun m => forceI (wrapF .i64 (Int.sub (addPart a).n m)) fun z => f (.bin .add .i64 (addPart a).e (.c z)))
        (bif (if (addPart a).e = (addPart b).e then true else false) then forceI (wrapF .i64 (Int.sub (addPart a).n (addPart b).n)) fun z => f (.c z) else f (.bin .sub kd a b))
    | o => f (.bin o kd a b)) else f (.bin o kd a b)
def doArith (o : BinOp) (x y : AV) (s : St) (k : Kv β) : Tree β :=
  litOr x y (fun a b => guardB (kEq a.k b.k) 19 (onSome 21 (arithF o a.k a.n b.n) (kInt k s a.k)))
    (two AV.asIE 17 x y fun a b => guardB (kEq a.k b.k && symOk o b.e) 16 (binK o a.k a.e b.e fun e => k (mkS a.k e) s))
def doCmp (o : BinOp) (x y : AV) (s : St) (k : Kv β) : Tree β :=
  litOr x y (fun a b => guardB (kEq a.k b.k) 19 (k (.bool (cmpF o a.n b.n)) s))
    (two AV.asIE 17 x y fun a b => guardB (kEq a.k b.k) 16 (k (symCmp o a.e b.e) s))
def shE (left : Bool) (k : IntKind) (e : IE) (n : Int) : IE := bif left then .bin .mul k e (.c (2 ^ n.toNat)) else .bin .shr k e (.c n)
def isShr (o : BinOp) : Bool := match o with | .shr => true | _ => false
def doShift (left : Bool) (x y : AV) (s : St) (k : Kv β) : Tree β :=
  litOr x y (fun a b => onSome 18 (bif left then shlF a.k a.n b.n else shrF a.k a.n b.n) (kInt k s a.k))
    (onSome 11 x.asIE fun a => onSome 12 y.asInt fun b =>
      guardB (!isNeg b.n && Nat.ble b.n.toNat 62) 13 (k (.sint a.k (shE left a.k a.e b.n)) s))

/-! ### strings (bytes as numbers, read modulo 256) -/
def beqB (a b : Nat) : Bool := Nat.beq (a % 256) (b % 256)
def strEq : List Nat → List Nat → Bool
  | [], [] => true
  | a :: x, b :: y => bif beqB a b then strEq x y else false
  | _, _ => false
def strLt : List Nat → List Nat → Bool
  | _, [] => false
  | [], _ :: _ => true
  | a :: x, b :: y => bif Nat.blt (a % 256) (b % 256) then true else bif beqB a b then strLt x y else false
def strOp (o : BinOp) (x y : List Nat) : Option AV :=
  match o with
  | .add => bif Nat.ble (x.length + y.length) 1000000000 then some (.str (x ++ y)) else none
  | .eql => some (.bool (strEq x y))
  | .neq => some (.bool (!strEq x y))
  | .lss => some (.bool (strLt x y))
  | .leq => some (.bool (strLt x y || strEq x y))
  | .gtr => some (.bool (!(strLt x y || strEq x y)))
  | .geq => some (.bool (!strLt x y))
  | _ => none
def shortS (l : List (BE × Bool)) (s : IE) : Bool := match maxLen l s with | some n => Nat.ble n 1000000 | none => false
def symStr (o : BinOp) (l : List (BE × Bool)) (a b : IE) : Option AV :=
  match o with
  | .add => bif shortS l a && shortS l b then some (.sstr (.app a b)) else none
  | .eql => some (.sbool (.seq a b))
  | .neq => some (.sbool (.not (.seq a b)))
  | _ => none
def strOr (x y : AV) (k : List Nat → List Nat → Tree β) (e : Tree β) : Tree β := onSomeOr x.asStr (fun a => onSomeOr y.asStr (fun b => k a b) e) e
def doStrOp (o : BinOp) (x y : AV) (s : St) (k : Kv β) : Tree β :=
  strOr x y (fun a b => onSome 23 (strOp o a b) fun v => k v s) (two AV.asSE 22 x y fun a b => onSome 23 (symStr o s.asm a b) fun v => k v s)

/-! ### equality by types -/
def plainB (b : Blk) : Bool := match b with | .cells _ q => q | _ => false
def plainAt (s : St) (p : Pos) : Bool := Option.rec (motive := fun _ => Bool) false plainB (s.heap.get p)
def eqPtr (s : St) (a b : VP) (k : Bool → St → Tree β) : Tree β :=
  ifB (a.p.beq b.p) (k (Nat.beq a.off b.off) s) (guardB (plainAt s a.p && plainAt s b.p) 24 (k false s))
def IE.lit : IE → Option Int | .c n => some n | _ => none
def eqInt (x y : AV) (s : St) (k : Bool → St → Tree β) : Tree β :=
  litOr x y (fun a b => guardB (kEq a.k b.k) 25 (k (ieq a.n b.n) s))
    (two AV.asIE 27 x y fun a b => guardB (kEq a.k b.k) 26 (brOn (.cmp .eql a.e b.e) s k))
/-- nil against nil, nil against the other, or the two others -/
def eqNil {α : Type} (n : Nat) (f : AV → Option α) (why : Nat) (x y : AV) (s : St) (k : Bool → St → Tree β) (both : α → α → Tree β) : Tree β :=
  ifB (x.isNil n) (ifB (y.isNil n) (k true s) (onSome why (f y) fun _ => k false s))
    (onSome why (f x) fun a => ifB (y.isNil n) (k false s) (onSome why (f y) fun b => both a b))
/-- the parts of two structs, one after the other: (type, place) -/
def eqParts (eq : TypeId → AV → AV → St → (Bool → St → Tree β) → Tree β) (part : TypeId → Nat → List AV → Option AV) :
    List (TypeId × Nat) → List AV → List AV → St → (Bool → St → Tree β) → Tree β
  | [], _, _, s, k => k true s
  | (t, o) :: l, xs, ys, s, k => onSome 28 (part t o xs) fun x => onSome 28 (part t o ys) fun y => eq t x y s fun b s => ifB b (eqParts eq part l xs ys s k) (k false s)
variable (P : Program)
def aggT (t : TypeId) : Option (Option Nat) :=
  match undA P t with
  | some (.struct _) | some (.array ..) => (infoA P t).map fun i => some i.size
  | some _ => some none
  | none => none
def aggPart (n o : Nat) (cs : List AV) : Option AV := (takeL n (dropL o cs)).map .agg
def partN (n : Option Nat) (o : Nat) (cs : List AV) : Option AV := Option.rec (motive := fun _ => Option AV) (nthL o cs) (fun n => aggPart n o cs) n
def partA (t : TypeId) (o : Nat) (cs : List AV) : Option AV := (aggT P t).bind fun n => partN n o cs
def fieldsEq (fs : Array Field) : List (TypeId × Nat) := fs.toList.filterMap fun f => if f.name ≠ "_" then some (f.type, f.offset) else none
abbrev EqF (β : Type) := TypeId → AV → AV → St → (Bool → St → Tree β) → Tree β
/-- one level of the comparison, by what the type is -/
def eqT1 (ih : EqF β) (t : TypeId) (d : TypeDesc) (x y : AV) (s : St) (k : Bool → St → Tree β) : Tree β :=
  match d with
  | .int _ => eqInt x y s k
  | .bool => onBool 30 x s fun a s => onBool 30 y s fun b s => k (a == b) s
  | .string => strOr x y (fun a b => k (strEq a b) s) (two AV.asSE 31 x y fun a b => brOn (.seq a b) s k)
  | .pointer e => eqNil 1 AV.asPtr 34 x y s k fun a b => onSome 33 (infoA P e) fun i => guardB (Nat.blt 0 i.size) 32 (eqPtr s a b k)
  | .interface _ => eqNil 5 AV.asIf 37 x y s k fun a b => ifB (Nat.beq a.t b.t) (onSome 36 (infoA P a.t) fun i => guardB i.comparable 35 (ih a.t a.v b.v s k)) (k false s)
  | .struct fs => two AV.asAgg 39 x y fun xs ys => guardB (!P.stoodInHeld t) 38 (eqParts ih (partA P) (fieldsEq fs) xs ys s k)
  | .slice _ => eqNil 2 AV.asSlc 40 x y s k fun _ _ => .bad 40
  | .map .. => eqNil 3 AV.asMap 41 x y s k fun _ _ => .bad 41
  | .func .. => eqNil 4 AV.asFn 42 x y s k fun _ _ => .bad 42
  | _ => .bad 43
def eqT0 : EqF β := fun _ _ _ _ _ => .bad 29
def eqTs (ih : EqF β) : EqF β := fun t x y s k => onSome 43 (undA P t) fun d => eqT1 P ih t d x y s k
def eqT (n : Nat) : EqF β := Nat.rec (motive := fun _ => EqF β) eqT0 (fun _ ih => eqTs P ih) n
/-- '==' and '!=' on what are no numbers and no strings; cst: one of the operands is a constant -/
def guardEq (t : TypeId) (cst : Bool) (x y : AV) : Bool :=
  bif x.isNil 5 && y.isNil 5 then cst else bif x.asAgg.isSome && y.asAgg.isSome then !P.eqGuardType P.depth t else true
def doEq (neg : Bool) (t : TypeId) (cst : Bool) (x y : AV) (s : St) (k : Kv β) : Tree β :=
  guardB (guardEq P t cst x y) 44 (eqT P 40 t x y s fun b s => k (.bool (bif neg then !b else b)) s)

/-! ### other quiet operations -/
inductive RecvK | same | deref (n : Option Nat)
structure Meth where
  f : FuncId
  deref : Option (Option Nat)
def methodA (t : TypeId) (name : String) : Option Meth :=
  match infoA P t with
  | some i => match i.methods.find? (·.name == name) with
    | some m => match m.path.isEmpty, m.func, undA P t with
      | true, some (f, true), some (.pointer _) => some ⟨f, none⟩
      | true, some (f, false), some (.pointer e) => match aggT P e with
        | some n => some ⟨f, some n⟩
        | none => none
      | true, some (f, false), some _ => some ⟨f, none⟩
      | _, _, _ => none
    | none => none
  | none => none
/-- the method of a type that is a number in the store: reckoned once for each -/
def onMethod (t : TypeId) (name : String) (k : Meth → Tree β) : Tree β :=
  Nat.rec (motive := fun _ => Tree β) (.bad 130) (fun t' _ => onSome 131 (methodA P (Nat.succ t') name) k) t
def Fn.asMethod : Fn → Option String | .method n => some n | _ => none
def headIf (a : List AV) : Option VT := match a with | v :: _ => v.asIf | [] => none
def nilckFn (f : VF) (t : Tree β) : Tree β :=
  onSomeOr (Fn.asMethod f.fn) (fun n => onSome 46 (headIf f.first) fun v => onMethod P v.t n fun r => guardB r.deref.isNone 45 t) t
def doNilck (x : AV) (s : St) (k : Kv β) : Tree β :=
  ifB (x.asPtr.isSome || x.asIf.isSome) (k x s) (onSome 50 x.asFn fun f => nilckFn P f (k x s))
def St.load (s : St) (n : Option Nat) (p : Pos) (o : Nat) : Option AV := (s.row p).bind fun cs => partN n o cs
def ldSeq (n : Option Nat) (s : St) (k : Kv β) (a : SP) : Tree β :=
  onSome 52 (s.seqAt a.p) fun b => guardB (n.isNone && inK s.asm a.i (.len b.s)) 52 (k (.sint b.k (.nth b.s a.i)) s)
def doLd (n : Option Nat) (x : AV) (s : St) (k : Kv β) : Tree β :=
  onSomeOr x.asPtr (fun a => onSome 51 (s.load n a.p a.off) fun v => k v s) (onSome 53 x.asSptr (ldSeq n s k))
def doFadr (off : Nat) (x : AV) (s : St) (k : Kv β) : Tree β :=
  onSome 54 x.asPtr fun a => k (.ptr a.p (Nat.add a.off off)) s
def doFld (off : Nat) (n : Option Nat) (x : AV) (s : St) (k : Kv β) : Tree β :=
  onSome 57 x.asAgg fun cs => onSome 55 (partN n off cs) fun v => k v s
/-- an index below a number: literal, or by branches (tries 0, 1, ..) -/
def tryIx (e : IE) (k : Nat → St → Tree β) (n : Nat) : Nat → St → Tree β :=
  Nat.rec (motive := fun _ => Nat → St → Tree β) (fun _ _ => .bad 58)
    (fun _ ih j s => brOn (.cmp .eql e (.c (.ofNat j))) s fun b s => ifB b (k j s) (ih (j + 1) s)) n
def Int.asNat : Int → Option Nat | .ofNat n => some n | _ => none
def AV.asNat (v : AV) : Option Nat := v.asInt.bind fun i => Int.asNat i.n
def onIx (i : AV) (len : Nat) (s : St) (k : Nat → St → Tree β) : Tree β :=
  onSomeOr i.asNat (fun n => guardB (Nat.blt n len) 59 (k n s)) (onSome 60 i.asIE fun e => guardB (IE.lit e.e).isNone 58 (tryIx e.e k len 0 s))
def ixSeq (sz : Nat) (i : AV) (s : St) (k : Kv β) (a : SQ) : Tree β :=
  onSome 66 i.asIE fun e => guardB (Nat.beq sz 1 && sameE a.lo (.c 0) && inK s.asm e.e a.hi) 66 (k (.sptr a.p e.e) s)
def doIxa (arr : Option Nat) (sz : Nat) (x i : AV) (s : St) (k : Kv β) : Tree β :=
  onSomeOr arr (fun n => onSome 61 x.asPtr fun a => onIx i n s fun j s => k (.ptr a.p (Nat.add a.off (Nat.mul j sz))) s)
    (onSomeOr x.asSlc (fun a => onIx i a.len s fun j s => k (.ptr a.p (Nat.add a.off (Nat.mul j sz))) s)
      (onSomeOr x.asSslc (ixSeq sz i s k) (onSome 62 x.asOpq fun z => onSome 62 (s.winAt (posOf z)) fun b => guardB (isIx z i && Nat.beq b.x z && Nat.beq b.sz sz) 62 (k (.ptr (posOf z) 0) s))))
def nthN (n : Nat) : List Nat → Option Nat :=
  Nat.rec (motive := fun _ => List Nat → Option Nat) (fun l => List.rec (motive := fun _ => Option Nat) none (fun h _ _ => some h) l)
    (fun _ ih l => List.rec (motive := fun _ => Option Nat) none (fun _ t _ => ih t) l) n
def ixLit (i : AV) (s : St) (k : Kv β) (l : List Nat) : Tree β := onIx i l.length s fun j s => onSome 63 (nthN j l) fun b => kInt k s .u8 (.ofNat (b % 256))
def ixSym (S n : IE) (i : AV) (s : St) (k : Kv β) (e : Tree β) : Tree β := onSomeOr i.asIE (fun j => ifB (inK s.asm j.e n) (k (.sint .u8 (.byt S j.e)) s) e) e
def doIxs (x i : AV) (s : St) (k : Kv β) : Tree β :=
  onSomeOr x.asStr (fun l => ifB i.asNat.isSome (ixLit i s k l) (ixSym (.sl l) (.c (.ofNat l.length)) i s k (ixLit i s k l))) (onSome 64 x.asSstr fun S => ixSym S (.len S) i s k (.bad 64))
def doIxv (len sz : Nat) (n : Option Nat) (x i : AV) (s : St) (k : Kv β) : Tree β :=
  onSome 67 x.asAgg fun cs => onIx i len s fun j s => onSome 65 (partN n (Nat.mul j sz) cs) fun v => k v s
def doNeg (x : AV) (s : St) (k : Kv β) : Tree β :=
  onSomeOr x.asInt (fun a => onSome 68 (subF a.k 0 a.n) (kInt k s a.k)) (onSome 69 x.asIE fun a => k (.sint a.k (.bin .sub a.k (.c 0) a.e)) s)
def doInv (x : AV) (s : St) (k : Kv β) : Tree β := onSome 70 x.asInt fun a => onSome 71 (xorF a.k (if a.k.signed then -1 else a.k.max) a.n) (kInt k s a.k)
def doNot (x : AV) (s : St) (k : Kv β) : Tree β :=
  onSomeOr x.asB (fun b => k (.bool (!b)) s) (onSome 72 x.asSB fun c => k (.sbool (.not c)) s)
def doUn (o : UnOp) : AV → St → Kv β → Tree β :=
  match o with
  | .neg => doNeg
  | .xor => doInv
  | .not => doNot
  | _ => fun _ _ _ => .bad 73
def AV.asByte (v : AV) : Option Nat := v.asInt.bind fun i => bif kEq i.k .u8 then Int.asNat i.n else none
def bytesL (l : List AV) : Option (List Nat) :=
  List.rec (motive := fun _ => Option (List Nat)) (some []) (fun v _ ih => v.asByte.bind fun b => ih.map fun r => b :: r) l
def cvInt (j : IntKind) (x : AV) (s : St) (k : Kv β) : Tree β :=
  onSomeOr x.asInt (fun a => kInt k s j (wrapF j a.n)) (onSome 74 x.asIE fun a => k (.sint j (.cv j a.e)) s)
def cvStr (x : AV) (s : St) (k : Kv β) : Tree β := onSomeOr x.asStr (fun l => k (.str l) s) (onSome 75 x.asSstr fun S => k (.sstr S) s)
def b2sSeq (s : St) (k : Kv β) (a : SQ) : Tree β :=
  onSome 78 (s.seqAt a.p) fun b => guardB (kEq b.k .u8 && leqK s.asm a.hi (.len b.s)) 78 (k (.sstr (subE b.s a.lo a.hi)) s)
def cvB2s (x : AV) (s : St) (k : Kv β) : Tree β :=
  ifB (x.isNil 2) (k (.str []) s) (onSomeOr x.asSlc (fun a => onSome 76 (s.loadN a.p a.off a.len) fun cs => onSome 77 (bytesL cs) fun l => k (.str l) s) (onSome 78 x.asSslc (b2sSeq s k)))
def cvR2s (x : AV) (s : St) (k : Kv β) : Tree β := onSome 80 x.asNat fun n => guardB (Nat.blt n 128) 79 (k (.str [n]) s)
def doConv (c : Conv) : AV → St → Kv β → Tree β :=
  match c with
  | .int j => cvInt j
  | .str => cvStr
  | .b2s => cvB2s
  | .r2s => cvR2s
  | .same => fun _ _ _ => .bad 81
def fill0 (_ : List AV) (_ : Fr) (z : List AV) (k : List AV → Tree β) : Tree β := k z
def fill1 (p : Part) (_ : List Part) (ih : List AV → Fr → List AV → (List AV → Tree β) → Tree β) (ls : List AV) (fr : Fr) (z : List AV) (k : List AV → Tree β) : Tree β :=
  onArg p.arg ls fr fun v => guardB (Nat.beq v.cells.length p.size) 83 (onSome 82 (spliceL p.off v.cells z) fun z => ih ls fr z k)
def fillA (ps : List Part) : List AV → Fr → List AV → (List AV → Tree β) → Tree β :=
  List.rec (motive := fun _ => List AV → Fr → List AV → (List AV → Tree β) → Tree β) fill0 fill1 ps
def onOptNat (v : Option AV) (d : Nat) (k : Nat → Tree β) : Tree β := Option.rec (motive := fun _ => Tree β) (k d) (fun v => onSome 84 v.asNat k) v
def takeN (n : Nat) : List Nat → List Nat :=
  Nat.rec (motive := fun _ => List Nat → List Nat) (fun _ => []) (fun _ ih l => List.rec (motive := fun _ => List Nat) [] (fun h t _ => h :: ih t) l) n
def dropN (n : Nat) : List Nat → List Nat :=
  Nat.rec (motive := fun _ => List Nat → List Nat) (fun l => l) (fun _ ih l => List.rec (motive := fun _ => List Nat) [] (fun _ t _ => ih t) l) n
/-- bounds of a slice expression: the capacity is c; l <= h <= m <= c -/
def bounds (len c : Nat) (lo hi mx : Option AV) (k : Nat → Nat → Nat → Tree β) : Tree β :=
  onOptNat mx c fun m => onOptNat hi len fun h => onOptNat lo 0 fun l =>
    guardB (Nat.ble l h && Nat.ble h m && Nat.ble m c && (hi.isSome || mx.isNone)) 85 (k l h m)
def atOff (o l m sz : Nat) : Nat := bif Nat.beq m l then o else Nat.add o (Nat.mul l sz)
def optIE (o : Option AV) (d : IE) : Option IE := match o with | none => some d | some v => v.asIE.map fun e => e.e
def optLit (o : Option AV) : Bool := match o with | none => true | some v => v.asNat.isSome
def slLit (lo hi mx : Option AV) (s : St) (k : Kv β) (b : List Nat) : Tree β :=
  guardB mx.isNone 86 (bounds b.length b.length lo hi none fun l h _ => k (.str (takeN (h - l) (dropN l b))) s)
def slSym (S n : IE) (lo hi mx : Option AV) (s : St) (k : Kv β) : Tree β :=
  onSome 87 (optIE lo (.c 0)) fun l => onSome 87 (optIE hi n) fun h => guardB (mx.isNone && leqK s.asm (.c 0) l && leqK s.asm l h && leqK s.asm h n) 86 (k (.sstr (.sub S l h)) s)
def slStr (x : AV) (lo hi mx : Option AV) (s : St) (k : Kv β) : Tree β :=
  onSomeOr x.asStr (fun b => ifB (optLit lo && optLit hi) (slLit lo hi mx s k b) (slSym (.sl b) (.c (.ofNat b.length)) lo hi mx s k)) (onSome 87 x.asSstr fun S => slSym S (.len S) lo hi mx s k)
def slArr (n sz : Nat) (x : AV) (lo hi mx : Option AV) (s : St) (k : Kv β) : Tree β :=
  onSome 88 x.asPtr fun a => bounds n n lo hi mx fun l h m => k (.slc a.p (atOff a.off l m sz) (h - l) (.ex (m - l))) s
def slEx (sz : Nat) (a : VS) (lo hi mx : Option AV) (s : St) (k : Kv β) (c : Nat) : Tree β :=
  bounds a.len c lo hi mx fun l h m => k (.slc a.p (atOff a.off l m sz) (h - l) (.ex (m - l))) s
def slOp (sz : Nat) (a : VS) (lo hi mx : Option AV) (s : St) (k : Kv β) (d : Nat) : Tree β :=
  ifB mx.isSome (bounds a.len a.len lo hi mx fun l h m => k (.slc a.p (atOff a.off l m sz) (h - l) (.ex (m - l))) s)
    (bounds a.len a.len lo hi none fun l h _ => ifB (Nat.beq l 0) (k (.slc a.p a.off h (.op d)) s) (guardB (Nat.blt l a.len) 89 (k (.slc a.p (Nat.add a.off (Nat.mul l sz)) (h - l) (.op (Nat.add d l))) s)))
def onCap (c : Cap) (f g : Nat → Tree β) : Tree β := Cap.rec (motive := fun _ => Tree β) f g c
def slSeqM (a : SQ) (l h : IE) (mx : Option AV) (s : St) (k : Kv β) : Tree β :=
  match mx with
  | none => guardB (a.cp.isNone || sameE h a.hi) 90 (k (.sslc a.p l h a.cp) s)
  | some m => onSome 90 m.asIE fun e => guardB (sameE e.e h) 90 (k (.sslc a.p l h (some h)) s)
/-- a part of a row: it begins at the row's beginning, or is not empty -/
def slSeq (sz : Nat) (lo hi mx : Option AV) (s : St) (k : Kv β) (a : SQ) : Tree β :=
  onSome 90 (optIE lo (.c 0)) fun l => onSome 90 (optIE hi a.hi) fun h =>
    guardB (Nat.beq sz 1 && sameE a.lo (.c 0) && leqK s.asm (.c 0) l && leqK s.asm l h && leqK s.asm h a.hi && (sameE l (.c 0) || lssK s.asm l h) && (mx.isNone || hi.isSome)) 90 (slSeqM a l h mx s k)
def slSlc (sz : Nat) (x : AV) (lo hi mx : Option AV) (s : St) (k : Kv β) : Tree β :=
  ifB (x.isNil 2) (bounds 0 0 lo hi mx fun _ _ _ => k .nils s) (onSomeOr x.asSlc (fun a => onCap a.cap (slEx sz a lo hi mx s k) (slOp sz a lo hi mx s k)) (onSome 90 x.asSslc (slSeq sz lo hi mx s k)))
def doSlice (sk : SlK) : AV → Option AV → Option AV → Option AV → St → Kv β → Tree β :=
  match sk with
  | .str => slStr
  | .arr n sz => slArr n sz
  | .slc sz => slSlc sz
def kLen (k : Kv β) (s : St) (n : Nat) : Tree β := kInt k s .i64 (.ofNat n)
def lenNum (n : Nat) (_ : AV) (s : St) (k : Kv β) : Tree β := kLen k s n
def lenStr (x : AV) (s : St) (k : Kv β) : Tree β := onSomeOr x.asStr (fun l => kLen k s l.length) (onSome 91 x.asSstr fun S => k (.sint .i64 (.len S)) s)
def lenSeq (s : St) (k : Kv β) (a : SQ) : Tree β := guardB (sameE a.lo (.c 0)) 92 (k (mkS .i64 a.hi) s)
def lenSlc (x : AV) (s : St) (k : Kv β) : Tree β := ifB (x.isNil 2) (kLen k s 0) (onSomeOr x.asSlc (fun a => kLen k s a.len) (onSomeOr x.asSslc (lenSeq s k) (onSome 92 x.asOpq fun z => k (.sint .i64 (.v z)) s)))
structure MapB where
  es : List Ent
  clock : Nat
def Blk.asMap : Blk → Option MapB | .map es c => some ⟨es, c⟩ | _ => none
def St.mapAt (s : St) (p : Pos) : Option MapB := (s.heap.get p).bind Blk.asMap
def lenMap (x : AV) (s : St) (k : Kv β) : Tree β := ifB (x.isNil 3) (kLen k s 0) (onSome 94 x.asMap fun p => onSome 93 (s.mapAt p) fun m => kLen k s m.es.length)
def doLen (lk : LenK) : AV → St → Kv β → Tree β :=
  match lk with
  | .num n => lenNum n
  | .str => lenStr
  | .slc => lenSlc
  | .map => lenMap
def Cap.asEx : Cap → Option Nat | .ex n => some n | _ => none
def doCap (n : Option Nat) (x : AV) (s : St) (k : Kv β) : Tree β :=
  onSomeOr n (kLen k s) (ifB (x.isNil 2) (kLen k s 0) (onSomeOr x.asSlc (fun a => onSome 96 a.cap.asEx (kLen k s)) (onSome 95 x.asSslc fun a => onSome 96 a.cp fun c => guardB (sameE a.lo (.c 0) && leqK s.asm (.c 0) c) 96 (k (mkS .i64 c) s))))
def mm2 (max : Bool) (x y : AV) (s : St) (k : Kv β) : Tree β :=
  litOr x y (fun a b => ifB (bif max then ilt a.n b.n else ilt b.n a.n) (k (.int a.k b.n) s) (k x s))
    (two AV.asIE 97 x y fun a b => guardB (kEq a.k b.k) 98 (brOn (bif max then .cmp .lss a.e b.e else .cmp .lss b.e a.e) s fun t s => ifB t (k y s) (k x s)))
def mmL (max : Bool) : List AV → AV → St → Kv β → Tree β
  | [], x, s, k => k x s
  | y :: l, x, s, k => mm2 max x y s fun z s => mmL max l z s k
def okV (ok : Bool) (v : AV) (b : Bool) : AV := bif ok then .tup [v, .bool b] else v
def doAssertT (t : TypeId) (z : AV) (ok : Bool) (x : AV) (s : St) (k : Kv β) : Tree β :=
  ifB (x.isNil 5) (guardB ok 97 (k (.tup [z, .bool false]) s))
    (onSome 99 x.asIf fun a => ifB (Nat.beq a.t t) (k (okV ok a.v true) s) (guardB ok 98 (k (.tup [z, .bool false]) s)))
def hasAll (want : Array (String × TypeId)) (got : Array Method) : Bool := want.toList.all fun w => got.any fun m => m.name == w.1 && m.sig == w.2
def implT (t u : TypeId) : Option Bool :=
  match undA P t, infoA P u with
  | some (.interface want), some i => some (hasAll want i.methods)
  | _, _ => none
def doAssertI (t : TypeId) (ok : Bool) (x : AV) (s : St) (k : Kv β) : Tree β :=
  ifB (x.isNil 5) (guardB ok 100 (k (.tup [.nili, .bool false]) s))
    (onSome 103 x.asIf fun a => Nat.rec (motive := fun _ => Tree β) (.bad 101) (fun u _ => onSome 102 (implT P t (Nat.succ u)) fun b =>
      guardB b 101 (k (okV ok x true) s)) a.t)

/-! ### maps -/
structure Found where
  i : Nat
  e : Ent
/-- the place of a key among entries -/
def findE (eq : AV → AV → St → (Bool → St → Tree β) → Tree β) (key : AV) : List Ent → Nat → St → (Option Found → St → Tree β) → Tree β
  | [], _, s, k => k none s
  | e :: l, i, s, k => eq key e.key s fun b s => ifB b (k (some ⟨i, e⟩) s) (findE eq key l (i + 1) s k)
/-- a key that is no interface value and holds none, and has the form of its type -/
def keyFits : Nat → TypeId → AV → Bool
  | 0, _, _ => false
  | d + 1, t, x => match undA P t with
    | some (.int _) | some .string | some .bool => true
    | some (.struct fs) => match x.asAgg with
      | some cs => (fieldsEq fs).all fun f => match partA P f.1 f.2 cs with
        | some v => keyFits d f.1 v
        | none => false
      | none => false
    | _ => false
def doLookup (kt : TypeId) (z : AV) (ok : Bool) (m key : AV) (s : St) (k : Kv β) : Tree β :=
  guardB (keyFits P 10 kt key) 106 (ifB (m.isNil 3) (k (okV ok z false) s) (onSome 105 m.asMap fun p => onSome 104 (s.mapAt p) fun b =>
    findE (eqT P 40 kt) key b.es 0 s fun r s => onSomeOr r (fun f => k (okV ok f.e.val true) s) (k (okV ok z false) s)))

/-! ### the quiet operations -/
def qMv (a : Arg) (_ : CallT β) (ls : List AV) (fr : Fr) (s : St) (k : Kv β) : Tree β := onArg a ls fr fun v => k v s
def qPick (c a b : Arg) (_ : CallT β) (ls : List AV) (fr : Fr) (s : St) (k : Kv β) : Tree β :=
  onArg c ls fr fun v => onBool 110 v s fun t s => onArg (bif t then a else b) ls fr fun v => k v s
def qNilck (a : Arg) (_ : CallT β) (ls : List AV) (fr : Fr) (s : St) (k : Kv β) : Tree β := onArg a ls fr fun v => doNilck P v s k
def qLd (n : Option Nat) (a : Arg) (_ : CallT β) (ls : List AV) (fr : Fr) (s : St) (k : Kv β) : Tree β := onArg a ls fr fun v => doLd n v s k
def qFadr (o : Nat) (a : Arg) (_ : CallT β) (ls : List AV) (fr : Fr) (s : St) (k : Kv β) : Tree β := onArg a ls fr fun v => doFadr o v s k
def qFld (o : Nat) (n : Option Nat) (a : Arg) (_ : CallT β) (ls : List AV) (fr : Fr) (s : St) (k : Kv β) : Tree β := onArg a ls fr fun v => doFld o n v s k
def on2 (a b : Arg) (ls : List AV) (fr : Fr) (k : AV → AV → Tree β) : Tree β := onArg a ls fr fun x => onArg b ls fr fun y => k x y
def qIxa (r : Option Nat) (z : Nat) (x i : Arg) (_ : CallT β) (ls : List AV) (fr : Fr) (s : St) (k : Kv β) : Tree β := on2 x i ls fr fun v j => doIxa r z v j s k
def qIxs (x i : Arg) (_ : CallT β) (ls : List AV) (fr : Fr) (s : St) (k : Kv β) : Tree β := on2 x i ls fr fun v j => doIxs v j s k
def qIxv (n z : Nat) (m : Option Nat) (x i : Arg) (_ : CallT β) (ls : List AV) (fr : Fr) (s : St) (k : Kv β) : Tree β := on2 x i ls fr fun v j => doIxv n z m v j s k
def qArith (o : BinOp) (a b : Arg) (_ : CallT β) (ls : List AV) (fr : Fr) (s : St) (k : Kv β) : Tree β := on2 a b ls fr fun x y => doArith o x y s k
def qCmp (o : BinOp) (a b : Arg) (_ : CallT β) (ls : List AV) (fr : Fr) (s : St) (k : Kv β) : Tree β := on2 a b ls fr fun x y => doCmp o x y s k
def qShift (l : Bool) (a b : Arg) (_ : CallT β) (ls : List AV) (fr : Fr) (s : St) (k : Kv β) : Tree β := on2 a b ls fr fun x y => doShift l x y s k
def qStr (o : BinOp) (a b : Arg) (_ : CallT β) (ls : List AV) (fr : Fr) (s : St) (k : Kv β) : Tree β := on2 a b ls fr fun x y => doStrOp o x y s k
def qEqv (n : Bool) (t : TypeId) (c : Bool) (a b : Arg) (_ : CallT β) (ls : List AV) (fr : Fr) (s : St) (k : Kv β) : Tree β := on2 a b ls fr fun x y => doEq P n t c x y s k
def qUn (o : UnOp) (a : Arg) (_ : CallT β) (ls : List AV) (fr : Fr) (s : St) (k : Kv β) : Tree β := onArg a ls fr fun x => doUn o x s k
def qConv (c : Conv) (a : Arg) (_ : CallT β) (ls : List AV) (fr : Fr) (s : St) (k : Kv β) : Tree β := onArg a ls fr fun x => doConv c x s k
def qMkif (t : TypeId) (a : Arg) (_ : CallT β) (ls : List AV) (fr : Fr) (s : St) (k : Kv β) : Tree β := onArg a ls fr fun x => k (.iface t x) s
def qMkfn (f : Fn) (a c : List Arg) (_ : CallT β) (ls : List AV) (fr : Fr) (s : St) (k : Kv β) : Tree β := onArgs a ls fr fun x => onArgs c ls fr fun y => k (.func f x y) s
def qBuild (z : List AV) (ps : List Part) (_ : CallT β) (ls : List AV) (fr : Fr) (s : St) (k : Kv β) : Tree β := fillA ps ls fr z fun z => k (.agg z) s
def qSlice (t : SlK) (x : Arg) (lo hi mx : Option Arg) (_ : CallT β) (ls : List AV) (fr : Fr) (s : St) (k : Kv β) : Tree β :=
  onArg x ls fr fun v => onOpt lo ls fr fun l => onOpt hi ls fr fun h => onOpt mx ls fr fun m => doSlice t v l h m s k
def qExt (a : Arg) (i : Nat) (_ : CallT β) (ls : List AV) (fr : Fr) (s : St) (k : Kv β) : Tree β := onArg a ls fr fun v => onSome 112 v.asTup fun vs => onSome 111 (nthL i vs) fun v => k v s
def qLen (t : LenK) (a : Arg) (_ : CallT β) (ls : List AV) (fr : Fr) (s : St) (k : Kv β) : Tree β := onArg a ls fr fun v => doLen t v s k
def qCap (n : Option Nat) (a : Arg) (_ : CallT β) (ls : List AV) (fr : Fr) (s : St) (k : Kv β) : Tree β := onArg a ls fr fun v => doCap n v s k
def qMm (m : Bool) (a : Arg) (l : List Arg) (_ : CallT β) (ls : List AV) (fr : Fr) (s : St) (k : Kv β) : Tree β := onArg a ls fr fun x => onArgs l ls fr fun l => mmL m l x s k
def qAssT (t : TypeId) (z : AV) (ok : Bool) (a : Arg) (_ : CallT β) (ls : List AV) (fr : Fr) (s : St) (k : Kv β) : Tree β := onArg a ls fr fun x => doAssertT t z ok x s k
def qAssI (t : TypeId) (ok : Bool) (a : Arg) (_ : CallT β) (ls : List AV) (fr : Fr) (s : St) (k : Kv β) : Tree β := onArg a ls fr fun x => doAssertI P t ok x s k
def qLook (t : TypeId) (z : AV) (ok : Bool) (m a : Arg) (_ : CallT β) (ls : List AV) (fr : Fr) (s : St) (k : Kv β) : Tree β := on2 m a ls fr fun v x => doLookup P t z ok v x s k

/-! ### new memory -/
def repL (z : List AV) (n : Nat) : List AV := Nat.rec (motive := fun _ => List AV) [] (fun _ ih => z ++ ih) n
def nAlloc (z : List AV) (_ : CallT β) (_ : List AV) (_ : Fr) (s : St) (k : Kv β) : Tree β := k (.ptr s.next 0) (s.new (.cells z true))
def nBox (a : Arg) (_ : CallT β) (ls : List AV) (fr : Fr) (s : St) (k : Kv β) : Tree β := onArg a ls fr fun v => k (.ptr s.next 0) (s.new (.cells v.cells true))
def nBslice (n : Nat) (z : List AV) (ps : List Part) (_ : CallT β) (ls : List AV) (fr : Fr) (s : St) (k : Kv β) : Tree β :=
  fillA ps ls fr z fun z => k (.slc s.next 0 n (.ex n)) (s.new (.cells z true))
def nMap (_ : CallT β) (_ : List AV) (_ : Fr) (s : St) (k : Kv β) : Tree β := k (.map s.next) (s.new (.map [] 0))
def zeroK (z : List AV) : Option IntKind := match z with | [.int k (.ofNat 0)] => some k | _ => none
/-- an empty row whose capacity is not known -/
def mkSeq (sz bytes : Nat) (z : List AV) (l c : AV) (s : St) (k : Kv β) : Tree β :=
  onSome 121 l.asNat fun l0 => onSome 122 c.asIE fun e => onSome 120 (zeroK z) fun kd =>
    guardB (Nat.beq l0 0 && Nat.beq sz 1 && leqK s.asm (.c 0) e.e && leqK s.asm e.e (.c 1000000) && Nat.ble bytes 1000) 120 (k (.sslc s.next (.c 0) (.c 0) (some e.e)) (s.new (.seq kd (.sl []) (some e.e))))
def nMksl (sz bytes : Nat) (z : List AV) (l c : Arg) (_ : CallT β) (ls : List AV) (fr : Fr) (s : St) (k : Kv β) : Tree β :=
  on2 l c ls fr fun l c => ifB (!c.asNat.isSome) (mkSeq sz bytes z l c s k) <| onSome 121 l.asNat fun l => onSome 122 c.asNat fun c =>
    guardB (Nat.ble l c && Nat.ble (Nat.mul c bytes) 1000000000 && Nat.ble c 1000000000 && Nat.beq z.length sz) 120 (k (.slc s.next 0 l (.ex c)) (s.new (.cells (repL z c) true)))
end Go.Ab
end

section
noncomputable section
namespace Go.Ab
variable {β : Type}

/-! ### structural sameness -/
mutual
def AV.same : AV → AV → Bool
  | .bool a, .bool b => a == b
  | .int j a, .int k b => (if j = k then true else false) && ieq a b
  | .str a, .str b => sameN a b
  | .nilp, .nilp => true
  | .ptr p o, .ptr q o' => p.beq q && Nat.beq o o'
  | .nils, .nils => true
  | .slc p o n c, .slc p' o' n' c' => p.beq p' && Nat.beq o o' && Nat.beq n n' && (if c = c' then true else false)
  | .nilm, .nilm => true
  | .map p, .map q => p.beq q
  | .nilf, .nilf => true
  | .func f a c, .func f' a' c' => (if f = f' then true else false) && sameL a a' && sameL c c'
  | .iface t v, .iface u w => Nat.beq t u && AV.same v w
  | .nili, .nili => true
  | .agg a, .agg b => sameL a b
  | .tup a, .tup b => sameL a b
  | .sint j a, .sint k b => (if j = k then true else false) && (if a = b then true else false)
  | .sbool a, .sbool b => (if a = b then true else false)
  | .opq x, .opq y => Nat.beq x y
  | .yld p, .yld q => p.beq q
  | .jslc p x n z, .jslc q x' n' z' => p.beq q && Nat.beq x x' && Nat.beq n n' && Nat.beq z z'
  | .sstr a, .sstr b => sameE a b
  | .sslc p l h c, .sslc p' l' h' c' => p.beq p' && sameE l l' && sameE h h' && sameO c c'
  | .sptr p i, .sptr q j => p.beq q && sameE i j
  | _, _ => false
def sameL : List AV → List AV → Bool
  | [], [] => true
  | a :: l, b :: m => AV.same a b && sameL l m
  | _, _ => false
def sameN : List Nat → List Nat → Bool
  | [], [] => true
  | a :: l, b :: m => Nat.beq a b && sameN l m
  | _, _ => false
end

/-- a key whose bits are plain -/
def bitsOk : Nat → AV → Bool
  | 0, _ => false
  | n + 1, v => match v with
    | .bool _ => true
    | .int _ _ => true
    | .str _ => true
    | .agg l => l.all (bitsOk n)
    | _ => false

/-! ### effects -/
variable (P : Program)
/-- the number under which a round is called -/
def yieldId : FuncId := 1000000000
def callN (call : CallT β) (f : FuncId) (args : List AV) (s : St) (k : Kv β) : Tree β := guardB (!Nat.beq f yieldId) 418 (call f args s k)
def doCallM (call : CallT β) (args : List AV) (s : St) (k : Kv β) (name : String) (r : VT) : Tree β :=
  onMethod P r.t name fun m => guardB m.deref.isNone 138 (callN call m.f (r.v :: args) s k)
def headTail (l : List AV) (k : AV → List AV → Tree β) : Tree β := List.rec (motive := fun _ => Tree β) (.bad 134) (fun h t _ => k h t) l
def isIfaceT (t : TypeId) : Option Bool := (undA P t).map fun d => match d with | .interface _ => true | _ => false
def fnFunc (f : FuncId) (call : CallT β) (a c : List AV) (s : St) (k : Kv β) : Tree β := callN call f (a ++ c) s k
def fnMethod (n : String) (call : CallT β) (a _c : List AV) (s : St) (k : Kv β) : Tree β := headTail a fun r l => onSome 132 r.asIf fun v => doCallM P call l s k n v
def fnMethodOf (t : TypeId) (n : String) (call : CallT β) (a _c : List AV) (s : St) (k : Kv β) : Tree β :=
  headTail a fun r l => onSome 133 (isIfaceT P t) fun b => ifB b (onSome 132 r.asIf fun v => doCallM P call l s k n v) (doCallM P call l s k n ⟨t, r⟩)
def fnNo (_ : CallT β) (_ _ : List AV) (_ : St) (_ : Kv β) : Tree β := .bad 136
def fnCall (f : Fn) : CallT β → List AV → List AV → St → Kv β → Tree β :=
  match f with
  | .func f => fnFunc f
  | .method n => fnMethod P n
  | .methodOf t n => fnMethodOf P t n
  | _ => fnNo
def doCallV (call : CallT β) (f : AV) (args : List AV) (s : St) (k : Kv β) : Tree β :=
  onSomeOr f.asYld (fun p => call yieldId (.yld p :: args) s k) (onSome 137 f.asFn fun v => fnCall P v.fn call (v.first ++ args) v.cap s k)
def doSt (n : Nat) (x v : AV) (s : St) (k : Kv β) : Tree β :=
  onSome 142 x.asPtr fun a => guardB (Nat.beq v.cells.length n) 141 (onSome 140 (s.storeN a.p a.off v.cells) fun s => k undefA s)
structure NL where
  n : Nat
  l : List AV
def byteAV (b : Nat) : AV := .int .u8 (.ofNat (b % 256))
/-- the cells that a slice or a string shows -/
def cellsOf (sz : Nat) (x : AV) (s : St) : Option NL :=
  bif x.isNil 2 then some ⟨0, []⟩ else
  match x.asSlc with
  | some a => (s.loadN a.p a.off (Nat.mul a.len sz)).map fun l => ⟨a.len, l⟩
  | none => bif Nat.beq sz 1 then x.asStr.map fun l => ⟨l.length, l.map byteAV⟩ else none
def growOk (bytes need : Nat) : Bool := Nat.ble ((4 * need + 4000) * bytes) 281474976710656 && Nat.ble need 1000000000
def fresh (bytes sz need : Nat) (cells : List AV) (s : St) (k : Kv β) : Tree β :=
  guardB (growOk bytes need) 143 (k (.slc s.next 0 need (.op 0)) (s.new (.grow cells sz)))
structure GB where
  cs : List AV
  sz : Nat
def Blk.asGrow : Blk → Option GB | .grow cs z => some ⟨cs, z⟩ | _ => none
def apEx (sz bytes : Nat) (a : VS) (b : NL) (s : St) (k : Kv β) (c : Nat) : Tree β :=
  ifB (Nat.ble (a.len + b.n) c) (onSome 145 (s.storeN a.p (a.off + a.len * sz) b.l) fun s => k (.slc a.p a.off (a.len + b.n) (.ex c)) s)
    (onSome 146 (s.loadN a.p a.off (a.len * sz)) fun old => fresh bytes sz (a.len + b.n) (old ++ b.l) s k)
def apMove (sz bytes : Nat) (a : VS) (b : NL) (g : GB) (s : St) (k : Kv β) : Tree β :=
  guardB (growOk bytes (a.len + b.n)) 149 (k (.slc s.next 0 (a.len + b.n) (.op 0)) (St.new (s.put a.p .dead) (.grow (dropL a.off g.cs ++ b.l) sz)))
def apOp (sz bytes : Nat) (a : VS) (b : NL) (s : St) (k : Kv β) (d : Nat) : Tree β :=
  onSome 151 (s.heap.get a.p) fun bl => onSome 151 bl.asGrow fun g => guardB (Nat.beq sz g.sz && Nat.beq a.off (d * sz)) 147
    (ifB (Nat.ble (a.off + (a.len + b.n) * sz) g.cs.length) (onSome 148 (s.storeIn a.p (a.off + a.len * sz) b.l bl) fun s => k (.slc a.p a.off (a.len + b.n) (.op d)) s)
      (guardB (Nat.beq (a.off + a.len * sz) g.cs.length && allOne b.l) 150 (apMove sz bytes a b g s k)))
/-- a row whose beginning is not known -/
def apJ (sz bytes : Nat) (a : JS) (b : NL) (s : St) (k : Kv β) : Tree β :=
  onSome 154 (s.heap.get a.p) fun bl => onSome 154 bl.asGrow fun g =>
    guardB (Nat.beq sz g.sz && Nat.beq sz a.sz && Nat.beq (a.n * sz) g.cs.length && allOne b.l && growOk bytes (1000000 + (a.n + b.n)) && bounded s.asm (some (.v a.x))) 155
      (k (.jslc s.next a.x (a.n + b.n) sz) (St.new (s.put a.p .dead) (.grow (g.cs ++ b.l) sz)))
/-- cells as a sequence -/
def seqC (k : IntKind) (v : AV) : Option IE := v.asIE.bind fun e => bif kEq k e.k then some e.e else none
def seqE (k : IntKind) : List AV → Option IE
  | [] => some (.sl [])
  | [v] => (seqC k v).map .one
  | v :: l => (seqC k v).bind fun e => (seqE k l).map fun t => .app (.one e) t
structure SW where
  k : IntKind
  s : IE
  cp : Option IE
def Blk.asSeqW : Blk → Option SW | .seq k s cp => some ⟨k, s, cp⟩ | _ => none
def appE (a b : IE) : IE := bif sameE a (.sl []) then b else .app a b
/-- a row of numbers grows -/
def apSeq (sz bytes : Nat) (a : SQ) (b : NL) (s : St) (k : Kv β) : Tree β :=
  onSome 156 (s.heap.get a.p) fun bl => onSome 156 bl.asSeqW fun g => onSome 156 (seqE g.k b.l) fun t =>
    guardB (Nat.beq sz 1 && sameE a.lo (.c 0) && (sameE a.hi (.len g.s) || (sameE a.hi (.c 0) && sameE g.s (.sl []))) && sameO a.cp g.cp && growOk bytes (1000000 + b.n) && shortS s.asm g.s) 156
      (k (.sslc s.next (.c 0) (.len (appE g.s t)) none) (St.new (s.put a.p .dead) (.seq g.k (appE g.s t) none)))
def apTo (sz bytes : Nat) (x : AV) (b : NL) (s : St) (k : Kv β) : Tree β :=
  ifB (x.isNil 2) (ifB (Nat.beq b.n 0) (k .nils s) (fresh bytes sz b.n b.l s k))
    (onSomeOr x.asSlc (fun a => onCap a.cap (apEx sz bytes a b s k) (apOp sz bytes a b s k)) (onSomeOr x.asSslc (fun a => apSeq sz bytes a b s k) (onSome 152 x.asJ fun a => apJ sz bytes a b s k)))
def zerosOf (bytes : Nat) (z : List AV) (n : Nat) : Option NL := bif Nat.ble (Nat.mul n bytes) 1000000000 && Nat.ble n 1000000000 then some ⟨n, repL z n⟩ else none
def doAppend (sz bytes : Nat) (z : List AV) (zeros : Bool) (x y : AV) (s : St) (k : Kv β) : Tree β :=
  guardB (Nat.beq z.length sz && Nat.blt 0 sz && Nat.blt 0 bytes) 153
    (onSome 144 (bif zeros then y.asNat.bind (zerosOf bytes z) else cellsOf sz y s) fun b => apTo sz bytes x b s k)
def cpTo (sz : Nat) (b : NL) (s : St) (k : Kv β) (a : VS) : Tree β :=
  onSome 161 (takeL (Nat.mul (Nat.min b.n a.len) sz) b.l) fun cs => onSome 162 (s.storeN a.p a.off cs) fun s => kLen k s (Nat.min b.n a.len)
def doCopy (sz : Nat) (x y : AV) (s : St) (k : Kv β) : Tree β :=
  onSome 160 (cellsOf sz y s) fun b => ifB (x.isNil 2) (kLen k s 0) (onSome 163 x.asSlc (cpTo sz b s k))
def setNth (n : Nat) (e : Ent) : List Ent → List Ent
  | [] => []
  | x :: l => match n with | 0 => e :: l | n + 1 => x :: setNth n e l
def delNth (n : Nat) : List Ent → List Ent
  | [] => []
  | x :: l => match n with | 0 => l | n + 1 => x :: delNth n l
def withMap (m : AV) (s : St) (k : Pos → MapB → Tree β) : Tree β := onSome 172 m.asMap fun p => onSome 171 (s.mapAt p) fun b => k p b
def doUpd (kt : TypeId) (m key v : AV) (s : St) (k : Kv β) : Tree β :=
  guardB (keyFits P 10 kt key) 173 (withMap m s fun p b => findE (eqT P 40 kt) key b.es 0 s fun r s =>
    onSomeOr r (fun f => guardB (AV.same f.e.key key && bitsOk 9 key) 170 (k undefA (s.put p (.map (setNth f.i { f.e with key, val := v } b.es) b.clock))))
      (k undefA (s.put p (.map (b.es ++ [{ key, val := v, born := b.clock }]) (b.clock + 1)))))
def doDel (kt : TypeId) (m key : AV) (s : St) (k : Kv β) : Tree β :=
  guardB (keyFits P 10 kt key) 176 (ifB (m.isNil 3) (k (.tup []) s) (withMap m s fun p b => findE (eqT P 40 kt) key b.es 0 s fun r s =>
    onSomeOr r (fun f => k (.tup []) (s.put p (.map (delNth f.i b.es) b.clock))) (k (.tup []) s)))
structure SIt where
  l : List Nat
  pos : Nat
def Blk.asIt : Blk → Option SIt | .sit l n => some ⟨l, n⟩ | _ => none
def doNext (x : AV) (s : St) (k : Kv β) : Tree β :=
  onSome 182 x.asPtr fun a => guardB (Nat.beq a.off 0) 182 (onSome 181 ((s.heap.get a.p).bind Blk.asIt) fun it =>
    onSomeOr (nthN it.pos it.l) (fun b => guardB (Nat.blt (b % 256) 128) 180 (k (.tup [.bool true, .int .i64 (.ofNat it.pos), .int .i32 (.ofNat (b % 256))]) (s.put a.p (.sit it.l (it.pos + 1)))))
      (k (.tup [.bool false]) s))
structure MIt where
  m : Option Pos
  since : Nat
  seen : List Nat
  last : Nat
def Blk.asMit : Blk → Option MIt | .mit m a b c => some ⟨m, a, b, c⟩ | _ => none
def doRngM (x : AV) (s : St) (k : Kv β) : Tree β :=
  ifB (x.isNil 3) (k (.ptr s.next 0) (s.new (.mit none 0 [] 0))) (onSome 386 x.asMap fun p => onSome 386 (s.mapAt p) fun m => k (.ptr s.next 0) (s.new (.mit (some p) m.clock [] m.clock)))
def notSeen (seen : List Nat) (e : Ent) : Bool := !seen.any (Nat.beq e.born)
def mitLeft (it : MIt) (b : MapB) : List Ent := b.es.filter (notSeen it.seen)
def mitOld (it : MIt) (b : MapB) : List Ent := (mitLeft it b).filter fun e => Nat.blt e.born it.since
def mitNew (it : MIt) (b : MapB) : List Ent := (mitLeft it b).filter fun e => Nat.ble it.since e.born
def mitGone (it : MIt) (b : MapB) : Bool := !it.seen.isEmpty && !b.es.isEmpty && b.es.all fun e => Nat.ble it.last e.born
/-- an iterator that has one way to go on -/
def mitStep (p : Pos) (it : MIt) (q : Pos) (b : MapB) (s : St) (k : Kv β) : Tree β :=
  guardB (!mitGone it b) 387 (match mitOld it b, mitNew it b with
    | [], [] => k (.tup [.bool false]) s
    | [e], [] => k (.tup [.bool true, e.key, e.val]) (s.put p (.mit (some q) it.since (it.seen ++ [e.born]) b.clock))
    | _, _ => .bad 388)
def doNextM (x : AV) (s : St) (k : Kv β) : Tree β :=
  onSome 389 x.asPtr fun a => guardB (Nat.beq a.off 0) 389 (onSome 389 ((s.heap.get a.p).bind Blk.asMit) fun it =>
    onSomeOr it.m (fun q => onSome 389 (s.mapAt q) fun b => mitStep a.p it q b s k) (k (.tup [.bool false]) s))
def doEntM (x : AV) (s : St) (k : Kv β) : Tree β :=
  onSome 390 x.asPtr fun a => guardB (Nat.beq a.off 0) 390 (onSome 390 ((s.heap.get a.p).bind Blk.asMit) fun it => onSome 390 it.m fun q => onSome 390 it.seen.getLast? fun t => onSome 390 (s.mapAt q) fun b =>
    guardB (Nat.beq b.clock it.last) 390 (onSome 390 (b.es.find? fun e => Nat.beq e.born t) fun e => k (.tup [e.key, e.val]) s))
def eRngM (a : Arg) (_ : CallT β) (ls : List AV) (fr : Fr) (s : St) (k : Kv β) : Tree β := onArg a ls fr fun v => doRngM v s k
def eNextM (a : Arg) (_ : CallT β) (ls : List AV) (fr : Fr) (s : St) (k : Kv β) : Tree β := onArg a ls fr fun v => doNextM v s k
def eEntM (a : Arg) (_ : CallT β) (ls : List AV) (fr : Fr) (s : St) (k : Kv β) : Tree β := onArg a ls fr fun v => doEntM v s k
def eSt (n : Nat) (a v : Arg) (_ : CallT β) (ls : List AV) (fr : Fr) (s : St) (k : Kv β) : Tree β := on2 a v ls fr fun x v => doSt n x v s k
def eApp (sz b : Nat) (z : List AV) (zs : Bool) (x y : Arg) (_ : CallT β) (ls : List AV) (fr : Fr) (s : St) (k : Kv β) : Tree β := on2 x y ls fr fun x y => doAppend sz b z zs x y s k
def eCopy (sz : Nat) (x y : Arg) (_ : CallT β) (ls : List AV) (fr : Fr) (s : St) (k : Kv β) : Tree β := on2 x y ls fr fun x y => doCopy sz x y s k
def eUpd (t : TypeId) (m a v : Arg) (_ : CallT β) (ls : List AV) (fr : Fr) (s : St) (k : Kv β) : Tree β := on2 m a ls fr fun m a => onArg v ls fr fun v => doUpd P t m a v s k
def eDel (t : TypeId) (m a : Arg) (_ : CallT β) (ls : List AV) (fr : Fr) (s : St) (k : Kv β) : Tree β := on2 m a ls fr fun m a => doDel P t m a s k
def eCallF (f : FuncId) (as : List Arg) (call : CallT β) (ls : List AV) (fr : Fr) (s : St) (k : Kv β) : Tree β := onArgs as ls fr fun as => callN call f as s k
def eCallV (f : Arg) (as : List Arg) (call : CallT β) (ls : List AV) (fr : Fr) (s : St) (k : Kv β) : Tree β := onArg f ls fr fun f => onArgs as ls fr fun as => doCallV P call f as s k
def eCallM (r : Arg) (n : String) (as : List Arg) (call : CallT β) (ls : List AV) (fr : Fr) (s : St) (k : Kv β) : Tree β :=
  onArg r ls fr fun r => onSome 132 r.asIf fun v => onArgs as ls fr fun as => doCallM P call as s k n v
def eS2b (bytes : Nat) (a : Arg) (_ : CallT β) (ls : List AV) (fr : Fr) (s : St) (k : Kv β) : Tree β :=
  onArg a ls fr fun v => onSome 184 v.asStr fun l => guardB (growOk bytes l.length) 183 (k (.slc s.next 0 l.length (.op 0)) (s.new (.grow (l.map byteAV) 1)))
def eRng (a : Arg) (_ : CallT β) (ls : List AV) (fr : Fr) (s : St) (k : Kv β) : Tree β := onArg a ls fr fun v => onSome 185 v.asStr fun l => k (.ptr s.next 0) (s.new (.sit l 0))
def eNext (a : Arg) (_ : CallT β) (ls : List AV) (fr : Fr) (s : St) (k : Kv β) : Tree β := onArg a ls fr fun v => doNext v s k
def eNo (w : Nat) (_ : CallT β) (_ : List AV) (_ : Fr) (_ : St) (_ : Kv β) : Tree β := .bad w
def eDfr (_ : Arg) (_ : List Arg) (_ : CallT β) (_ : List AV) (_ : Fr) (_ : St) (_ : Kv β) : Tree β := .bad 113
/-- every operation (a deferred call apart) -/
def evOp (o : AOp) : CallT β → List AV → Fr → St → Kv β → Tree β :=
  AOp.rec (motive := fun _ => CallT β → List AV → Fr → St → Kv β → Tree β)
    qMv qPick (qNilck P) qLd qFadr qFld qIxa qIxs qIxv qArith qCmp qShift qStr (qEqv P) qUn qConv qMkif qMkfn qBuild qSlice qExt qLen qCap qMm qAssT (qAssI P) (qLook P)
    nAlloc nBox nBslice nMap nMksl
    eSt eApp eCopy (eUpd P) (eDel P) eCallF (eCallV P) (eCallM P) eDfr eS2b eRng eNext eRngM eNextM eEntM eNo o

/-! ### functions -/
inductive ARes | tmp (p : Pos) | cell (p : Pos) (n : Option Nat)
structure FnInfo where
  ntmps : Nat
  mask : Nat
  code : AC
  res : List ARes
def SumT : Type 1 := ∀ β : Type, List AV → St → Kv β → Tree β
structure Ctx where
  /-- what is known of a function's body -/
  info : FuncId → Option FnInfo
  /-- the text of a function's code from a label on -/
  trCode : Nat → Code → AC
  sum : FuncId → Option SumT

/-! ### regions -/
def guardV (v : AV) (want : Bool) (s : St) (k : Bool → St → Tree β) : Tree β :=
  ifB v.asTup.isSome (k false s) (onBool 191 v s fun b s => k (b == want) s)
structure Gd where
  i : Nat
  want : Bool
def onGuard (g : Option (Nat × Bool)) (ls : List AV) (s : St) (k : Bool → St → Tree β) : Tree β :=
  onSomeOr g (fun g => onSome 190 (nthL g.1 ls) fun v => guardV v g.2 s k) (k true s)
def Fr.store (fr : Fr) (dst : Option Pos) (v : AV) : Fr := Option.rec (motive := fun _ => Fr) fr (fun p => ⟨fr.tmps.put p (some v), fr.defs⟩) dst
structure Dfr where
  f : Arg
  as : List Arg
def AOp.asDfr : AOp → Option Dfr | .dfr f as => some ⟨f, as⟩ | _ => none
def runDfr (o : AOper) (ih : List AV → Fr → St → Tree β) (ls : List AV) (fr : Fr) (s : St) (d : Dfr) : Tree β :=
  onArg d.f ls fr fun f => onSome 114 f.asFn fun _ => onArgs d.as ls fr fun as => ih (undefA :: ls) ⟨(fr.store o.dst undefA).tmps, (f, as) :: fr.defs⟩ s
def runOp (call : CallT β) (o : AOper) (ih : List AV → Fr → St → Tree β) (ls : List AV) (fr : Fr) (s : St) : Tree β :=
  ifB o.isDfr (onSome 113 o.op.asDfr (runDfr o ih ls fr s)) (evOp P o.op call ls fr s fun v s => ih (v :: ls) (fr.store o.dst v) s)
def runG (call : CallT β) (o : AOper) (ih : List AV → Fr → St → Tree β) (ls : List AV) (fr : Fr) (yes : Bool) (s : St) : Tree β :=
  ifB yes (runOp P call o ih ls fr s) (ih (undefA :: ls) (fr.store o.dst undefA) s)
def runR1 (call : CallT β) (o : AOper) (_ : List AOper) (ih : List AV → Fr → St → Tree β) (ls : List AV) (fr : Fr) (s : St) : Tree β :=
  onSomeOr o.guard (fun g => onSome 190 (nthL g.1 ls) fun v => guardV v g.2 s (runG P call o ih ls fr)) (runOp P call o ih ls fr s)
def runR (call : CallT β) (ops : List AOper) (K : Fr → St → Tree β) : List AV → Fr → St → Tree β :=
  List.rec (motive := fun _ => List AV → Fr → St → Tree β) (fun _ fr s => K fr s) (runR1 P call) ops

/-! a region that draws its order: the order of the text is carried out; then it is checked that every quiet operation gives the same in each state in which it may come up -/
structure Snap where
  ran : Bool
  ls : List AV
  val : AV
/-- a block that an operation of the region has made: the operation's number, the block's, what it holds at first -/
structure New where
  j : Nat
  p : Pos
  b : Blk
def isOkSame (v : AV) (t : Tree AV) : Bool := match t with | .ok u => AV.same u v | _ => false
def callNo {γ : Type} : CallT γ := fun _ _ _ _ => .bad 192
def okU (v : AV) (_ : St) : Tree AV := .ok v
def okP (v : AV) (s : St) : Tree (AV × St) := .ok (v, s)
/-- the outcome of one operation, and what follows · the branches are known behind it -/
def bind2 (t : Tree (AV × St)) : List (BE × Bool) → (List (BE × Bool) → AV → St → Tree β) → Tree β :=
  Tree.rec (motive := fun _ => List (BE × Bool) → (List (BE × Bool) → AV → St → Tree β) → Tree β) (fun p asm f => Prod.rec (motive := fun _ => Tree β) (f asm) p) (fun n _ _ => .bad n)
    (fun c _ _ it ie asm f => .br c (it ((c, true) :: asm) f) (ie ((c, false) :: asm) f)) t
/-- the new blocks that stand before an operation, laid into a heap that has them not yet -/
def addNews (m q : Nat) (ns : List New) (h : Trie Blk) : Trie Blk :=
  List.rec (motive := fun _ => Trie Blk) h (fun n _ ih => bif m.testBit n.j && Nat.ble q n.p.nat then ih.put n.p (some n.b) else ih) ns
/-- the operation in some states -/
def sameIn (o : AOp) (ls : List AV) (fr : Fr) (v : AV) (nx : Pos) (asm : List (BE × Bool)) (m : Nat) (ns : List New) (l : List St) : Bool :=
  List.rec (motive := fun _ => Bool) true (fun s _ ih => isOkSame v (evOp P o callNo ls fr ⟨addNews m s.next.nat ns s.heap, nx, asm⟩ okU) && ih) l
def window (lo hi : Nat) (states : List St) : List St := (states.drop lo).take (hi + 1 - lo)
def checkD (fr : Fr) (nx : Pos) (asm : List (BE × Bool)) (states : List St) (ns : List New) : List AOper → List Snap → List Win → Bool
  | [], [], [] => true
  | o :: ops, x :: xs, w :: ws =>
    (bif Nat.beq o.op.cls 0 && x.ran then sameIn P o.op x.ls fr x.val nx asm w.m ns (window w.lo w.hi states) else true) && checkD fr nx asm states ns ops xs ws
  | _, _, _ => false
def storeAll (fr : Fr) : List AOper → List Snap → Fr
  | o :: ops, x :: xs => storeAll (fr.store o.dst x.val) ops xs
  | _, _ => fr
def newSts (o : AOper) (s : St) (sts : List St) : List St := bif Nat.beq o.op.cls 2 then s :: sts else sts
structure DSt where
  j : Nat
  ls : List AV
  xs : List Snap
  sts : List St
  ns : List New
def dQuiet (ih : DSt → St → Tree β) (d : DSt) (s : St) (asm : List (BE × Bool)) (v : AV) : Tree β :=
  St.rec (motive := fun _ => Tree β) (fun h n _ => ih ⟨Nat.succ d.j, v :: d.ls, ⟨true, d.ls, v⟩ :: d.xs, d.sts, d.ns⟩ ⟨h, n, asm⟩) s
def dNew (ih : DSt → St → Tree β) (d : DSt) (s : St) (asm : List (BE × Bool)) (v : AV) (s2 : St) : Tree β :=
  onSome 193 (s2.heap.get s.next) fun b => St.rec (motive := fun _ => Tree β) (fun h n _ => ih ⟨Nat.succ d.j, v :: d.ls, ⟨true, d.ls, v⟩ :: d.xs, d.sts, ⟨d.j, n, b⟩ :: d.ns⟩ ⟨h.put n (some b), n.succ, asm⟩) s
def dEff (ih : DSt → St → Tree β) (d : DSt) (s : St) (asm : List (BE × Bool)) (v : AV) (s2 : St) : Tree β :=
  guardB (Nat.ble s.next.nat s2.next.nat) 194 (St.rec (motive := fun _ => Tree β) (fun h n _ => ih ⟨Nat.succ d.j, v :: d.ls, ⟨true, d.ls, v⟩ :: d.xs, ⟨h, n, asm⟩ :: d.sts, d.ns⟩ ⟨h, n, asm⟩) s2)
def by3 (n : Nat) (a b c : Tree β) : Tree β := Nat.rec (motive := fun _ => Tree β) a (fun n _ => Nat.rec (motive := fun _ => Tree β) b (fun _ _ => c) n) n
def opEnd (o : AOper) (ih : DSt → St → Tree β) (d : DSt) (s : St) (asm : List (BE × Bool)) (v : AV) (s2 : St) : Tree β :=
  by3 o.op.cls (dQuiet ih d s asm v) (dNew ih d s asm v s2) (dEff ih d s asm v s2)
def runDG (cd : CallT (AV × St)) (fr : Fr) (o : AOper) (ih : DSt → St → Tree β) (d : DSt) (yes : Bool) (s : St) : Tree β :=
  ifB yes (bind2 (evOp P o.op cd d.ls fr s okP) s.asm (opEnd o ih d s))
    (ih ⟨Nat.succ d.j, undefA :: d.ls, ⟨false, d.ls, undefA⟩ :: d.xs, newSts o s d.sts, d.ns⟩ s)
def runD1 (cd : CallT (AV × St)) (fr : Fr) (o : AOper) (_ : List AOper) (ih : DSt → St → Tree β) (d : DSt) (s : St) : Tree β :=
  onGuard o.guard d.ls s (runDG P cd fr o ih d)
def runD (cd : CallT (AV × St)) (fr : Fr) (ops : List AOper) (K : DSt → St → Tree β) : DSt → St → Tree β :=
  List.rec (motive := fun _ => DSt → St → Tree β) K (runD1 P cd fr) ops
def endD (ops : List AOper) (wins : List Win) (fr : Fr) (k : Fr → St → Tree β) (d : DSt) (s : St) : Tree β :=
  guardB (checkD P fr s.next s.asm d.sts.reverse d.ns ops d.xs.reverse wins) 195 (k (storeAll fr ops d.xs.reverse) s)
def doD (cd : CallT (AV × St)) (ops : List AOper) (wins : List Win) (fr : Fr) (s : St) (k : Fr → St → Tree β) : Tree β :=
  runD P cd fr ops (endD P ops wins fr k) ⟨0, [], [], [s], []⟩ s

/-! ### rounds -/
def opPlain (o : Oper) : Bool := match o.op with | .defer _ => false | _ => true
/-- code that may stand in a round: no deferred call, no scope, no range over a function -/
def rok : Code → Bool
  | .region _ ops _ => ops.toList.all opPlain
  | .seq a b => rok a && rok b
  | .cond _ a b => rok a && rok b
  | .block _ b => rok b
  | .loop b => rok b
  | .rangeFunc .. => false
  | .scope _ => false
  | _ => true
structure LRec where
  st : RSt
  m : Nat
  tmps : Trie AV
  ps : List Nat
  ac : Code
  bc : Code
def Blk.asLrec : Blk → Option LRec | .lrec st m t ps a b => some ⟨st, m, t, ps, a, b⟩ | _ => none
def Blk.asDfr : Blk → Option Bool | .dfr b => some b | _ => none
def St.recAt (s : St) (p : Pos) : Option LRec := (s.heap.get p).bind Blk.asLrec
def St.putRec (s : St) (p : Pos) (r : LRec) (st : RSt) : St := s.put p (.lrec st r.m r.tmps r.ps r.ac r.bc)
def RSt.isReady : RSt → Bool | .ready => true | _ => false
def RSt.isBusy : RSt → Bool | .busy => true | _ => false
/-- the loop's variables get their values -/
def putPs (mask : Nat) : List Nat → List AV → Trie AV → Trie AV
  | t :: ps, v :: vs, T => putPs mask ps vs (bif Nat.testBit mask t then T.put (posOf t) (some v) else T)
  | _, _, T => T
def psOk (nt : Nat) : List Nat → Bool
  | [] => true
  | t :: l => Nat.blt t nt && !l.any (Nat.beq t) && psOk nt l
/-! ### code -/
inductive AExit | norm | ret | exit (id : Nat) | goto (l : Nat)
abbrev Kx (β : Type) := AExit → Fr → St → Tree β
abbrev Ex (β : Type) := AC → Fr → St → Kx β → Tree β

def AExit.jump : AExit → Option RJ | .norm => none | .ret => some .ret | .exit id => some (.exit id) | .goto l => some (.goto l)
def stAfter (j : Option RJ) : RSt := match j with | none => .ready | some j => .done j
def initT1 (mask : Nat) (v : AV) (_ : List AV) (ih : Nat → Trie AV → Trie AV) (i : Nat) (t : Trie AV) : Trie AV := ih (Nat.succ i) (bif Nat.testBit mask i then t.put (posOf i) (some v) else t)
def initT (mask : Nat) (l : List AV) : Nat → Trie AV → Trie AV := List.rec (motive := fun _ => Nat → Trie AV → Trie AV) (fun _ t => t) (initT1 mask) l
def rTmp (p : Pos) (fr : Fr) (_ : St) : Option AV := fr.tmps.get p
def rCell (p : Pos) (n : Option Nat) (fr : Fr) (s : St) : Option AV := (fr.tmps.get p).bind fun v => v.asPtr.bind fun a => s.load n a.p a.off
def resV (r : ARes) : Fr → St → Option AV := ARes.rec (motive := fun _ => Fr → St → Option AV) rTmp rCell r
def resVs (fr : Fr) (s : St) (l : List ARes) : Option (List AV) :=
  List.rec (motive := fun _ => Option (List AV)) (some []) (fun r _ ih => (resV r fr s).bind fun v => ih.map fun vs => v :: vs) l
def oneOr (vs : List AV) : AV := match vs with | [v] => v | vs => .tup vs
def finish (i : FnInfo) (fr : Fr) (s : St) (k : Kv β) : Tree β := onSome 201 (resVs fr s i.res) fun vs => k (oneOr vs) s
def atEnd (k : Fr → St → Tree β) (e : AExit) (fr : Fr) (s : St) : Tree β :=
  AExit.rec (motive := fun _ => Tree β) (k fr s) (k fr s) (fun _ => .bad 202) (fun _ => .bad 202) e
def enterF (ih : Ex β) (i : FnInfo) (args : List AV) (s : St) (k : Fr → St → Tree β) : Tree β :=
  guardB (Nat.ble args.length i.ntmps) 203 (ih i.code ⟨initT i.mask args 0 .lf, []⟩ s (atEnd k))
variable (C : Ctx)
def Fn.asFunc : Fn → Option FuncId | .func f => some f | _ => none
def noDefs (fr : Fr) : Bool := List.rec (motive := fun _ => Bool) true (fun _ _ _ => false) fr.defs
def runDefs (ih : Ex β) : List (AV × List AV) → St → (St → Tree β) → Tree β
  | [], s, k => k s
  | (f, args) :: l, s, k => onSomeOr f.asYld (fun p => onSome 413 ((s.heap.get p).bind Blk.asDfr) fun b => guardB b 413 (runDefs ih l (s.put p (.dfr false)) k)) <| onSome 206 f.asFn fun v => onSome 206 (Fn.asFunc v.fn) fun f => onSome 204 (C.info f) fun i =>
      enterF ih i (v.first ++ args ++ v.cap) s fun fr s => guardB (noDefs fr) 205 (finish i fr s fun _ s => runDefs ih l s k)
def leave (ih : Ex β) (i : FnInfo) (k : Kv β) (fr : Fr) (s : St) : Tree β :=
  ifB (noDefs fr) (finish i fr s k) (runDefs C ih fr.defs s fun s => finish i fr s k)
def onSum (o : Option SumT) (k : SumT → Tree β) (e : Tree β) : Tree β := Option.rec (motive := fun _ => Tree β) e k o
/-- behind a round's body -/
def roundEnd (p : Pos) (k : Kv β) (ae : AExit) (fr : Fr) (s : St) : Tree β :=
  guardB (noDefs fr) 414 (onSome 414 (s.recAt p) fun r => k (.bool ae.jump.isNone) (s.putRec p r (stAfter ae.jump)))
def roundBody (ih : Ex β) (p : Pos) (r0 : LRec) (k : Kv β) (ae : AExit) (fr : Fr) (s : St) : Tree β :=
  AExit.rec (motive := fun _ => Tree β) (guardB (noDefs fr) 415 (onSome 415 (s.recAt p) fun r => guardB (r.st.isReady && rok r0.bc) 415 (ih (C.trCode r0.m r0.bc) fr (s.putRec p r .busy) (roundEnd p k))))
    (.bad 415) (fun _ => .bad 415) (fun _ => .bad 415) ae
def yieldA (ih : Ex β) (args : List AV) (s : St) (k : Kv β) : Tree β :=
  headTail args fun y vs => onSome 410 y.asYld fun p => onSome 410 (s.recAt p) fun r => guardB (Nat.beq vs.length r.ps.length && psOk (r.m % 65536) r.ps && rok r.ac) 411
    (ih (C.trCode r.m r.ac) ⟨putPs (r.m / 65536) r.ps vs r.tmps, []⟩ s (roundBody C ih p r k))
def callA (ih : Ex β) (f : FuncId) (args : List AV) (s : St) (k : Kv β) : Tree β :=
  ifB (Nat.beq f yieldId) (yieldA C ih args s k) <|
  onSum (C.sum f) (fun g => g β args s k) (onSome 207 (C.info f) fun i => enterF ih i args s (leave C ih i k))

def afterSeq (ih : Ex β) (b : AC) (k : Kx β) (e : AExit) (fr : Fr) (s : St) : Tree β :=
  AExit.rec (motive := fun _ => Tree β) (ih b fr s k) (k .ret fr s) (fun i => k (.exit i) fr s) (fun l => k (.goto l) fr s) e
def afterBlock (id : Nat) (k : Kx β) (e : AExit) (fr : Fr) (s : St) : Tree β :=
  AExit.rec (motive := fun _ => Tree β) (k .norm fr s) (k .ret fr s) (fun i => ifB (Nat.beq i id) (k .norm fr s) (k (.exit i) fr s)) (fun l => k (.goto l) fr s) e
def afterScope (ih : Ex β) (m : Nat) (c : Code) (k : Kx β) (e : AExit) (fr : Fr) (s : St) : Tree β :=
  AExit.rec (motive := fun _ => Tree β) (k .norm fr s) (k .ret fr s) (fun i => k (.exit i) fr s)
    (fun l => onSomeOr (findLabel c l) (fun rest => ih (.scope m c (C.trCode m rest)) fr s k) (k (.goto l) fr s)) e
def xSkip (_ : Ex β) (fr : Fr) (s : St) (k : Kx β) : Tree β := k .norm fr s
def xReg (ops : List AOper) (ih : Ex β) (fr : Fr) (s : St) (k : Kx β) : Tree β := runR P (callA C ih) ops (k .norm) [] fr s
def xD (cd : CallT (AV × St)) (ok : Bool) (ops : List AOper) (w : List Win) (_ : Ex β) (fr : Fr) (s : St) (k : Kx β) : Tree β := guardB ok 211 (doD P cd ops w fr s (k .norm))
def xSeq (a b : AC) (ih : Ex β) (fr : Fr) (s : St) (k : Kx β) : Tree β := ih a fr s (afterSeq ih b k)
def xCond (c : Arg) (a b : AC) (ih : Ex β) (fr : Fr) (s : St) (k : Kx β) : Tree β :=
  onArg c [] fr fun v => onBool 210 v s fun t s => ih (bif t then a else b) fr s k
def xBlock (id : Nat) (b : AC) (ih : Ex β) (fr : Fr) (s : St) (k : Kx β) : Tree β := ih b fr s (afterBlock id k)
def xLoop (b : AC) (ih : Ex β) (fr : Fr) (s : St) (k : Kx β) : Tree β := ih b fr s (afterSeq ih (.loop b) k)
def xExit (id : Nat) (_ : Ex β) (fr : Fr) (s : St) (k : Kx β) : Tree β := k (.exit id) fr s
def xScope (m : Nat) (c : Code) (b : AC) (ih : Ex β) (fr : Fr) (s : St) (k : Kx β) : Tree β := ih b fr s (afterScope C ih m c k)
def xGoto (l : Nat) (_ : Ex β) (fr : Fr) (s : St) (k : Kx β) : Tree β := k (.goto l) fr s
def xRet (_ : Ex β) (fr : Fr) (s : St) (k : Kx β) : Tree β := k .ret fr s
def xNo (w : Nat) (_ : Ex β) (_ : Fr) (_ : St) (_ : Kx β) : Tree β := .bad w
/-- a range over a function -/
def rngJump (kx : Kx β) (fr : Fr) (s : St) (st : RSt) : Tree β :=
  match st with
  | .done .ret => kx .ret fr s
  | .done (.exit id) => kx (.exit id) fr s
  | .done (.goto l) => kx (.goto l) fr s
  | .ready => kx .norm fr s
  | _ => .bad 416
def rngEnd (pd pl : Pos) (fr : Fr) (kx : Kx β) (_ : AV) (s : St) : Tree β :=
  onSome 417 (s.recAt pl) fun r => rngJump kx ⟨fr.tmps, (.yld pd, []) :: fr.defs⟩ (s.putRec pl r .over) r.st
def xRng (f : Arg) (ps : List Nat) (m : Nat) (ac bc : Code) (ih : Ex β) (fr : Fr) (s : St) (kx : Kx β) : Tree β :=
  onArg f [] fr fun fv => onSome 412 fv.asFn fun v => onSome 412 (Fn.asFunc v.fn) fun g =>
    callN (callA C ih) g (v.first ++ [.yld s.next.succ] ++ v.cap) ((s.new (.dfr true)).new (.lrec .ready m fr.tmps ps ac bc)) (rngEnd s.next s.next.succ fr kx)
def ex1 (cd : CallT (AV × St)) (c : AC) : Ex β → Fr → St → Kx β → Tree β :=
  AC.rec (motive := fun _ => Ex β → Fr → St → Kx β → Tree β) xSkip (xReg P C) (xD P cd) (fun a b _ _ => xSeq a b) (fun c a b _ _ => xCond c a b) (fun id b _ => xBlock id b)
    (fun b _ => xLoop b) xExit (fun m c b _ => xScope C m c b) (xRng C) xGoto xRet xNo c
def ex0 : Ex β := fun _ _ _ _ => .bad 212
def exS (cd : CallT (AV × St)) (ih : Ex β) : Ex β := fun c fr s k => ex1 P C cd c ih fr s k
def exec (n : Nat) : ∀ β : Type, Ex β := Nat.rec (motive := fun _ => ∀ β : Type, Ex β) (fun _ => ex0) (fun _ ih β => exS P C (callA C (ih (AV × St))) (ih β)) n
end Go.Ab
end

section
noncomputable section
namespace Go.Ab

/-! ## From the model's code -/
def findD1 (t : Nat) (d : Option Nat) (_ : List (Option Nat)) (ih : Nat → Option Nat) (j : Nat) : Option Nat :=
  Option.rec (motive := fun _ => Option Nat) (ih (Nat.succ j)) (fun u => Bool.rec (motive := fun _ => Option Nat) (ih (Nat.succ j)) (some j) (Nat.beq u t)) d
/-- the place of the newest definition of a temporary (the newest first) -/
def findD (t : Nat) (ds : List (Option Nat)) : Nat → Option Nat :=
  List.rec (motive := fun _ => Nat → Option Nat) (fun _ => none) (findD1 t) ds
def cstArg (v : AV) : Arg := bif closedF 8 v then .cst v else .bad
def trArg (ds : List (Option Nat)) (x : Operand) : Arg :=
  match x with
  | .tmp t => match findD t ds 0 with | some j => .loc j | none => .tmp (posOf t)
  | .const v => cstArg (abst v)
  | .global _ => .bad
  | .func f => .cst (.func (.func f) [] [])
def trArgs (ds : List (Option Nat)) (xs : Array Operand) : List Arg := xs.toList.map (trArg ds)
variable (P : Program)
def zeroOf (t : TypeId) : Option (List AV) :=
  match infoA P t with
  | some i => match i.zero with
    | some z => bif Nat.beq (abst z).cells.length i.size && closedF 8 (abst z) then some (abst z).cells else none
    | none => none
  | none => none
def zeroVal (t : TypeId) : Option AV :=
  match infoA P t with
  | some i => i.zero.bind fun z => bif closedF 8 (abst z) then some (abst z) else none
  | none => none
def sizeA (t : TypeId) : Option Nat := (infoA P t).map (·.size)
def partsS (ds : List (Option Nat)) (fs : Array Field) : List (Nat × Operand) → Option (List Part)
  | [] => some []
  | (i, x) :: l => match fs[i]? with
    | some f => match sizeA P f.type, partsS ds fs l with
      | some n, some r => some (⟨f.offset, n, trArg ds x⟩ :: r)
      | _, _ => none
    | none => none
def partsA (ds : List (Option Nat)) (n : Nat) : List (Nat × Operand) → List Part
  | [] => []
  | (i, x) :: l => ⟨i * n, n, trArg ds x⟩ :: partsA ds n l
def sizesOk (fs : Array Field) : Bool := fs.toList.all fun f => (infoA P f.type).isSome
def trBuild (ds : List (Option Nat)) (t : TypeId) (ps : Array (Nat × Operand)) : AOp :=
  match zeroOf P t, undA P t with
  | some z, some (.struct fs) => match partsS P ds fs ps.toList with
    | some l => bif sizesOk P fs then .build z l else .no 300
    | none => .no 300
  | some z, some (.array _ e) => match sizeA P e with
    | some n => .build z (partsA ds n ps.toList)
    | none => .no 301
  | _, _ => .no 302
def trBSlice (ds : List (Option Nat)) (t : TypeId) (len : Nat) (ps : Array (Nat × Operand)) : AOp :=
  match undA P t with
  | some (.slice e) => match zeroOf P e with
    | some z => bif Nat.ble (len * z.length) 16777216 then .bslice len (repL z len) (partsA ds z.length ps.toList) else .no 303
    | none => .no 304
  | _ => .no 305
def isConstO : Operand → Bool | .const _ => true | _ => false
def binOpA (o : BinOp) (x y : Arg) : AOp :=
  match o with
  | .eql | .neq | .lss | .leq | .gtr | .geq => .cmp o x y
  | .shl => .shift true x y
  | .shr => .shift false x y
  | _ => .arith o x y
def eqOpA (o : BinOp) (t : TypeId) (c : Bool) (x y : Arg) : AOp :=
  match o with
  | .eql => .eqv false t c x y
  | .neq => .eqv true t c x y
  | _ => .no 306
def trBin (ds : List (Option Nat)) (o : BinOp) (t : TypeId) (x y : Operand) : AOp :=
  match undA P t with
  | some (.int _) => binOpA o (trArg ds x) (trArg ds y)
  | some .string => .strop o (trArg ds x) (trArg ds y)
  | some _ => eqOpA o t (isConstO x || isConstO y) (trArg ds x) (trArg ds y)
  | none => .no 307
def trConv (ds : List (Option Nat)) (s d : TypeId) (x : Operand) : AOp :=
  match undA P s, undA P d with
  | some (.int _), some (.int k) => .conv (.int k) (trArg ds x)
  | some .string, some .string => .conv .str (trArg ds x)
  | some .string, some (.slice e) => match undA P e, infoA P e with
    | some (.int .u8), some i => .s2b i.bytes (trArg ds x)
    | _, _ => .no 308
  | some (.slice e), some .string => match undA P e with
    | some (.int .u8) => .conv .b2s (trArg ds x)
    | _ => .no 309
  | some (.int _), some .string => .conv .r2s (trArg ds x)
  | _, _ => .no 310
def trOpt (ds : List (Option Nat)) (x : Option Operand) : Option Arg := x.map (trArg ds)
def trSlice (ds : List (Option Nat)) (t : TypeId) (x : Operand) (lo hi mx : Option Operand) : AOp :=
  match undA P t with
  | some .string => .slice .str (trArg ds x) (trOpt ds lo) (trOpt ds hi) (trOpt ds mx)
  | some (.array n e) => match sizeA P e with
    | some z => .slice (.arr n z) (trArg ds x) (trOpt ds lo) (trOpt ds hi) (trOpt ds mx)
    | none => .no 311
  | some (.slice e) => match sizeA P e with
    | some z => .slice (.slc z) (trArg ds x) (trOpt ds lo) (trOpt ds hi) (trOpt ds mx)
    | none => .no 312
  | some (.pointer a) => match undA P a with
    | some (.array n e) => match sizeA P e with
      | some z => .slice (.arr n z) (trArg ds x) (trOpt ds lo) (trOpt ds hi) (trOpt ds mx)
      | none => .no 313
    | _ => .no 314
  | _ => .no 315
def trFadr (ds : List (Option Nat)) (s : TypeId) (x : Operand) (f : Nat) : AOp :=
  match undA P s with
  | some (.struct fs) => match fs[f]? with
    | some g => match sizeA P g.type with
      | some (_ + 1) => .fadr g.offset (trArg ds x)
      | _ => .no 316
    | none => .no 317
  | _ => .no 318
def trFld (ds : List (Option Nat)) (s : TypeId) (x : Operand) (f : Nat) : AOp :=
  match undA P s with
  | some (.struct fs) => match fs[f]? with
    | some g => match aggT P g.type with
      | some n => .fld g.offset n (trArg ds x)
      | none => .no 319
    | none => .no 320
  | _ => .no 321
def trIxa (ds : List (Option Nat)) (t : TypeId) (x i : Operand) : AOp :=
  match undA P t with
  | some (.array n e) => match sizeA P e with
    | some z => .ixa (some n) z (trArg ds x) (trArg ds i)
    | none => .no 322
  | some (.slice e) => match sizeA P e with
    | some z => .ixa none z (trArg ds x) (trArg ds i)
    | none => .no 323
  | _ => .no 324
def trIx (ds : List (Option Nat)) (t : TypeId) (x i : Operand) : AOp :=
  match undA P t with
  | some .string => .ixs (trArg ds x) (trArg ds i)
  | some (.array n e) => match sizeA P e, aggT P e with
    | some z, some m => .ixv n z m (trArg ds x) (trArg ds i)
    | _, _ => .no 325
  | _ => .no 326
def trAssert (ds : List (Option Nat)) (x : Operand) (a : TypeId) (ok : Bool) : AOp :=
  match undA P a with
  | some (.interface _) => match zeroVal P a with
    | some z => bif z.isNil 5 then .assertI a ok (trArg ds x) else .no 329
    | none => .no 329
  | some _ => match zeroVal P a with
    | some z => .assertT a z ok (trArg ds x)
    | none => .no 327
  | none => .no 328
def lenKind (t : TypeId) : Option LenK :=
  match undA P t with
  | some .string => some .str
  | some (.array n _) => some (.num n)
  | some (.pointer a) => match undA P a with
    | some (.array n _) => some (.num n)
    | _ => none
  | some (.slice _) => some .slc
  | some (.map ..) => some .map
  | _ => none
def apKind (d : TypeDesc) : Option Bool := match d with | .int _ => some true | .slice _ => some false | .string => some false | _ => none
def appOp (zs : Bool) (i : Option TypeInfo) (z : Option (List AV)) (x y : Arg) : AOp :=
  match i, z with
  | some i, some z => .append i.size i.bytes z zs x y
  | _, _ => .no 333
def sliceE (t : TypeId) : Option TypeId := match undA P t with | some (.slice e) => some e | _ => none
def trAppend (ds : List (Option Nat)) (t u : TypeId) (x y : Operand) : AOp :=
  match sliceE P t, (undA P u).bind apKind with
  | some e, some zs => appOp zs (infoA P e) (zeroOf P e) (trArg ds x) (trArg ds y)
  | _, _ => .no 334
def trCopy (ds : List (Option Nat)) (t : TypeId) (x y : Operand) : AOp :=
  match (sliceE P t).bind (sizeA P) with
  | some z => .copy z (trArg ds x) (trArg ds y)
  | none => .no 335
def trDelete (ds : List (Option Nat)) (t : TypeId) (x y : Operand) : AOp :=
  match undA P t with
  | some (.map k _) => .del k (trArg ds x) (trArg ds y)
  | _ => .no 337
def trBuiltin (ds : List (Option Nat)) (b : Builtin) (args : Array Operand) (ts : Array TypeId) : AOp :=
  match b, args.toList, ts.toList with
  | .len, [x], [t] => match lenKind P t with
    | some k => .len k (trArg ds x)
    | none => .no 330
  | .cap, [x], [t] => match lenKind P t with
    | some (.num n) => .cap (some n) (trArg ds x)
    | some .slc => .cap none (trArg ds x)
    | _ => .no 331
  | .append, [x, y], [t, u] => trAppend P ds t u x y
  | .copy, [x, y], t :: _ => trCopy P ds t x y
  | .min, x :: l, _ => .minmax false (trArg ds x) (l.map (trArg ds))
  | .max, x :: l, _ => .minmax true (trArg ds x) (l.map (trArg ds))
  | .delete, [x, y], t :: _ => trDelete P ds t x y
  | _, _, _ => .no 338
def trCall (ds : List (Option Nat)) (c : Call) : AOp :=
  match c.callee with
  | .value f => match f with
    | .func f => .callF f (trArgs ds c.args)
    | f => .callV (trArg ds f) (trArgs ds c.args)
  | .invoke r n => .callM (trArg ds r) n (trArgs ds c.args)
  | .builtin b => trBuiltin P ds b c.args c.argTypes
def trMkSl (ds : List (Option Nat)) (t : TypeId) (l c : Operand) : AOp :=
  match undA P t with
  | some (.slice e) => match infoA P e, zeroOf P e with
    | some i, some z => .mksl i.size i.bytes z (trArg ds l) (trArg ds c)
    | _, _ => .no 340
  | _ => .no 341
def trLookup (ds : List (Option Nat)) (t : TypeId) (x i : Operand) (ok : Bool) : AOp :=
  match undA P t with
  | some (.map k e) => match zeroVal P e with
    | some z => .lookup k z ok (trArg ds x) (trArg ds i)
    | none => .no 343
  | _ => .no 344
def trOp (ds : List (Option Nat)) (o : Op) : AOp :=
  match o with
  | .move x => .mv (trArg ds x)
  | .assign x => .mv (trArg ds x)
  | .pick c a b => .pick (trArg ds c) (trArg ds a) (trArg ds b)
  | .alloc e => match zeroOf P e with | some z => .alloc z | none => .no 350
  | .box _ x => .box (trArg ds x)
  | .build t ps => trBuild P ds t ps
  | .buildSlice t n ps => trBSlice P ds t n ps
  | .load t a => match aggT P t with | some n => .ld n (trArg ds a) | none => .no 351
  | .store t a v => match sizeA P t with | some n => .st n (trArg ds a) (trArg ds v) | none => .no 352
  | .nilCheck x => .nilck (trArg ds x)
  | .binOp o t x y _ => trBin P ds o t x y
  | .unOp o _ x => .un o (trArg ds x)
  | .convert s d x => trConv P ds s d x
  | .makeInterface t x => match undA P t with | some (.interface _) => .no 353 | some _ => .mkif t (trArg ds x) | none => .no 353
  | .makeFunc fn a c => .mkfn fn (trArgs ds a) (trArgs ds c)
  | .makeMap _ none => .mkmap
  | .makeSlice t l c => trMkSl P ds t l c
  | .slice t x lo hi mx => trSlice P ds t x lo hi mx
  | .fieldAddr s x f => trFadr P ds s x f
  | .field s x f => trFld P ds s x f
  | .indexAddr t x i => trIxa P ds t x i
  | .index t x i => trIx P ds t x i
  | .lookup t x i ok => trLookup P ds t x i ok
  | .mapUpdate t m k v => match undA P t with | some (.map kt _) => .upd kt (trArg ds m) (trArg ds k) (trArg ds v) | _ => .no 354
  | .insert t m k v => match undA P t with | some (.map kt _) => .upd kt (trArg ds m) (trArg ds k) (trArg ds v) | _ => .no 354
  | .range t x => match undA P t with | some .string => .rngS (trArg ds x) | some (.map ..) => .rngM (trArg ds x) | _ => .no 355
  | .next it b => bif b then .nextS (trArg ds it) else .nextM (trArg ds it)
  | .entry it => .entM (trArg ds it)
  | .typeAssert x _ a ok => trAssert P ds x a ok
  | .extract x i => .ext (trArg ds x) i
  | .call c => trCall P ds c
  | .defer c => match c.callee with
    | .value f => .dfr (trArg ds f) (trArgs ds c.args)
    | _ => .no 356
  | _ => .no 357
variable (ntmps mask : Nat)
def trDst (d : Option Nat) : Option Pos := match d with | some d => bif Nat.testBit mask d then some (posOf d) else none | none => none
def dstOk (d : Option Nat) : Bool := match d with | some d => Nat.blt d ntmps | none => true
def trGuard (ops : Array Oper) (ds : List (Option Nat)) (g : Option (Nat × Bool)) : Option (Option (Nat × Bool)) :=
  match g with
  | none => some none
  | some (j, w) => match (ops[j]?).bind (·.dst) with
    | some t => (findD t ds 0).map fun i => some (i, w)
    | none => none
def isDefer (o : Op) : Bool := match o with | .defer _ => true | _ => false
def trOper (ops : Array Oper) (ds : List (Option Nat)) (o : Oper) : AOper :=
  bif dstOk ntmps o.dst then
    match trGuard ops ds o.guard with
    | some g => ⟨trDst mask o.dst, g, trOp P ds o.op, isDefer o.op⟩
    | none => ⟨none, none, .no 360, false⟩
  else ⟨none, none, .no 361, false⟩
def trOps1 (ops : Array Oper) (o : Oper) (_ : List Oper) (ih : List (Option Nat) → List AOper) (ds : List (Option Nat)) : List AOper :=
  trOper P ntmps mask ops ds o :: ih (o.dst :: ds)
def trOps (ops : Array Oper) (l : List Oper) : List (Option Nat) → List AOper :=
  List.rec (motive := fun _ => List (Option Nat) → List AOper) (fun _ => []) (trOps1 P ntmps mask ops) l

/-! ### regions that draw their order: what must hold of the order -/
def bindsB (g : Ground) : Bool := match g with | .textOnly _ => false | .gcOnly _ => false | _ => true
def nthM (n : Nat) (l : List Nat) : Nat := (nthN n l).getD 0
/-- the operations that stand before one, given the masks of those ahead of it (the newest first); j: its number -/
def maskOf (acc : List Nat) (j : Nat) (es : List Edge) : Nat :=
  List.rec (motive := fun _ => Nat) 0 (fun e _ ih => bif bindsB e.ground then Nat.lor (Nat.lor (2 ^ e.on) (nthM (j - 1 - e.on) acc)) ih else ih) es
def masksOf (l : List Oper) : List Nat → Nat → List Nat :=
  List.rec (motive := fun _ => List Nat → Nat → List Nat) (fun acc _ => acc) (fun o _ ih acc j => ih (maskOf acc j o.after.toList :: acc) (Nat.succ j)) l
/-- masks of the operations of a class -/
def clsMask (c : Nat) (l : List AOper) : Nat → Nat :=
  List.rec (motive := fun _ => Nat → Nat) (fun _ => 0) (fun o _ ih i => Nat.lor (bif Nat.beq o.op.cls c then 2 ^ i else 0) (ih (Nat.succ i))) l
def subMask (a b : Nat) : Bool := Nat.beq (Nat.land a b) a
def isDst (t : Nat) (d : Option Nat) : Bool := Option.rec (motive := fun _ => Bool) false (fun d => Nat.beq d t) d
/-- the number of the operation that writes a temporary -/
def defOf (t : Nat) (l : List (Option Nat)) : Nat → Option Nat :=
  List.rec (motive := fun _ => Nat → Option Nat) (fun _ => none) (fun d _ ih i => bif isDst t d then some i else ih (Nat.succ i)) l
/-- b: the masks, number j at place j -/
def tmpOk (b : List Nat) (dsts : List (Option Nat)) (j : Nat) (t : Nat) : Bool :=
  Option.rec (motive := fun _ => Bool) true (fun i => bif Nat.blt i j then (nthM j b).testBit i else bif Nat.blt j i then (nthM i b).testBit j else false) (defOf t dsts 0)
def edgesOk (j : Nat) (es : List Edge) : Bool :=
  List.rec (motive := fun _ => Bool) true (fun e _ ih => bif bindsB e.ground then (bif Nat.blt e.on j then ih else false) else ih) es
def below (n m : Nat) : Nat := m % 2 ^ n
def opdTmp (x : Operand) : Option Nat := match x with | .tmp t => some t | _ => none
def guardOkD (ops : Array Oper) (j : Nat) (g : Option (Nat × Bool)) : Bool :=
  match g with | none => true | some (g, _) => Nat.blt g j && ((ops[g]?).bind (·.dst)).isSome
def opOkD (b : List Nat) (chain news : Nat) (ops : Array Oper) (dsts : List (Option Nat)) (j : Nat) (o : Oper) : Bool :=
  edgesOk j o.after.toList && (o.looksAt ops).all (tmpOk b dsts j) && guardOkD ops j o.guard &&
  (bif chain.testBit j then subMask (below j (Nat.lor chain news)) (nthM j b) else true)
def distinctD (l : List (Option Nat)) : Bool :=
  List.rec (motive := fun _ => Bool) true (fun d l ih => (Option.rec (motive := fun _ => Bool) true (fun d => !l.any (isDst d)) d) && ih) l
def allOkD (b : List Nat) (chain news : Nat) (ops : Array Oper) (dsts : List (Option Nat)) (l : List Oper) : Nat → Bool :=
  List.rec (motive := fun _ => Nat → Bool) (fun _ => true) (fun o _ ih j => opOkD b chain news ops dsts j o && ih (Nat.succ j)) l
def noDefer (l : List Oper) : Bool := l.all fun o => match o.op with | .defer _ => false | .select .. => false | _ => true
def drawOk (ops : Array Oper) (as : List AOper) : Bool :=
  noDefer ops.toList && distinctD (ops.toList.map (·.dst)) && allOkD (masksOf ops.toList [] 0).reverse (clsMask 2 as 0) (clsMask 1 as 0) ops (ops.toList.map (·.dst)) ops.toList 0
/-- the numbers of the effects -/
def chainOf (l : List AOper) : Nat → List Nat :=
  List.rec (motive := fun _ => Nat → List Nat) (fun _ => []) (fun o _ ih i => bif Nat.beq o.op.cls 2 then i :: ih (Nat.succ i) else ih (Nat.succ i)) l
/-- the number of effects before an operation, and the number of effects that are not behind it -/
def winOf (b : List Nat) (chain : List Nat) (j m : Nat) : Win :=
  ⟨(chain.filter fun i => m.testBit i).length, (chain.filter fun i => !(nthM i b).testBit j).length, m⟩
def winsFrom (b : List Nat) (chain : List Nat) (l : List Nat) : Nat → List Win :=
  List.rec (motive := fun _ => Nat → List Win) (fun _ => []) (fun m _ ih j => winOf b chain j m :: ih (Nat.succ j)) l
def winsOf (ops : Array Oper) (as : List AOper) : List Win :=
  winsFrom (masksOf ops.toList [] 0).reverse (chainOf as 0) (masksOf ops.toList [] 0).reverse 0

def tr : Code → AC
  | .skip => .skip
  | .region _ ops draw => bif draw then .dreg (drawOk ops (trOps P ntmps mask ops ops.toList [])) (trOps P ntmps mask ops ops.toList []) (winsOf ops (trOps P ntmps mask ops ops.toList [])) else .reg (trOps P ntmps mask ops ops.toList [])
  | .seq a b => .seq (tr a) (tr b)
  | .cond c a b => .cond (trArg [] c) (tr a) (tr b)
  | .block id b => .block id (tr b)
  | .loop b => .loop (tr b)
  | .rangeFunc f ps a b => .rng (trArg [] f) ps.toList (ntmps + 65536 * mask) a b
  | .exit id => .exit id
  | .scope b => .scope (ntmps + 65536 * mask) b (tr b)
  | .label _ => .skip
  | .goto l => .goto l
  | .ret => .ret
  | .refuse _ => .no 371

def trRes (r : ResultVar) : Option ARes :=
  match r with
  | .tmp t => some (.tmp (posOf t))
  | .cell t ty => (aggT P ty).map fun n => .cell (posOf t) n
def trRess : List ResultVar → Option (List ARes)
  | [] => some []
  | r :: l => match trRes P r, trRess l with
    | some a, some b => some (a :: b)
    | _, _ => none
def fnInfo (masks : List Nat) (f : FuncId) : Option FnInfo :=
  match funcA P f with
  | some fn => match fn.body, trRess P fn.results.toList with
    | some c, some res => bif fn.name != "runtime.NumGoroutine" && Nat.blt fn.ntmps 65536 then some ⟨fn.ntmps, masks.getD f 0, tr P fn.ntmps (masks.getD f 0) c, res⟩ else none
    | _, _ => none
  | none => none
end Go.Ab
end
