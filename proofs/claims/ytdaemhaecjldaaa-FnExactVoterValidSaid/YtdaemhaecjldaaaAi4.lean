/- The operations that compute and read: what each gives in the abstract, and that the machine gives it. -/
import Derived.Test.YtdaemhaecjldaaaAi3
namespace Go.Proofs.Ytdaemhaecjldaaa
open Go Go.RowKit

def AV.flat : AV → Bool
  | .int _ _ => true
  | .bool _ => true
  | _ => false

def AState.app (s : AState) (d : Option Nat) (v : AV) (ups : List (Nat × ABlk)) : AState := { s with hp := ups ++ s.hp }.put d v

/-- Some state stands in the relation and fits. -/
def Post (B : Base) (K : AState → Prop) (a : Act) (w : World) : Prop := ∃ X s, X.base = B ∧ R X s a w ∧ K s

def eqCellsK : List AV → List AV → Bool → (Bool → Prop) → Prop
  | [], [], acc, K => K acc
  | .int k a :: xs, .int k' b :: ys, acc, K => k = k' ∧ eqCellsK xs ys (acc && (a == b)) K
  | _, _, _, _ => False

def intK (op : BinOp) (k k' : IntKind) (a b : Int) (K : AV → Prop) : Prop :=
  match op with
  | .add => k = k' ∧ K (.int k (k.wrap (a + b)))
  | .sub => k = k' ∧ K (.int k (k.wrap (a - b)))
  | .mul => k = k' ∧ K (.int k (k.wrap (a * b)))
  | .quo => k = k' ∧ b ≠ 0 ∧ K (.int k (k.wrap (a.tdiv b)))
  | .rem => k = k' ∧ b ≠ 0 ∧ K (.int k (a.tmod b))
  | .and => k = k' ∧ K (.int k (k.wrap ((BitVec.ofInt k.bits a &&& BitVec.ofInt k.bits b).toNat : Nat)))
  | .or => k = k' ∧ K (.int k (k.wrap ((BitVec.ofInt k.bits a ||| BitVec.ofInt k.bits b).toNat : Nat)))
  | .xor => k = k' ∧ K (.int k (k.wrap ((BitVec.ofInt k.bits a ^^^ BitVec.ofInt k.bits b).toNat : Nat)))
  | .andNot => k = k' ∧ K (.int k (k.wrap ((BitVec.ofInt k.bits a &&& ~~~(BitVec.ofInt k.bits b)).toNat : Nat)))
  | .shl => 0 ≤ b ∧ K (.int k (k.wrap (a * 2 ^ (min b.toNat k.bits))))
  | .shr => 0 ≤ b ∧ K (.int k (a.fdiv (2 ^ (min b.toNat k.bits))))
  | .eql => k = k' ∧ K (.bool (a == b))
  | .neq => k = k' ∧ K (.bool (a != b))
  | .lss => k = k' ∧ K (.bool (decide (a < b)))
  | .leq => k = k' ∧ K (.bool (decide (a ≤ b)))
  | .gtr => k = k' ∧ K (.bool (decide (a > b)))
  | .geq => k = k' ∧ K (.bool (decide (a ≥ b)))

def isSlice (T : Tab) (t : TypeId) : Bool := match T t with
  | some i => (match i.k with | .slice _ => true | _ => false)
  | none => false

def isBool (T : Tab) (t : TypeId) : Bool := match T t with
  | some i => (match i.k with | .bool => true | _ => false)
  | none => false

/-- The cells of a type of struct that '==' compares cell by cell. -/
def eqsSize (T : Tab) (t : TypeId) : Option Nat := match T t with
  | some i => if i.eqs then some i.size else none
  | none => none

def binK (T : Tab) (op : BinOp) (t : TypeId) (x y : AV) (K : AV → Prop) : Prop :=
  match x, y with
  | .int k a, .int k' b => intK op k k' a b K
  | .bool a, .bool b => isBool T t = true ∧ match op with
    | .eql => K (.bool (a == b))
    | .neq => K (.bool (a != b))
    | _ => False
  | .sl (some nn) _, .sl (some false) [] => isSlice T t = true ∧ match op with
    | .eql => K (.bool (!nn))
    | .neq => K (.bool nn)
    | _ => False
  | .agg xs, .agg ys => eqsSize T t = some xs.length ∧ xs.length = ys.length ∧ match op with
    | .eql => eqCellsK xs ys true fun b => K (.bool b)
    | .neq => eqCellsK xs ys true fun b => K (.bool (!b))
    | _ => False
  | _, _ => False

def unK (op : UnOp) (x : AV) (K : AV → Prop) : Prop :=
  match op, x with
  | .not, .bool b => K (.bool (!b))
  | .neg, .int k n => K (.int k (k.wrap (0 - n)))
  | _, _ => False

/-- The value that a guarded operation left, if its guard held. -/
def unMay (c : Bool) : AV → (AV → Prop) → Prop
  | .may g v, K => (c = true → g = true) ∧ K v
  | v, K => K v

def pickV (c : Bool) : AV → AV → Option AV
  | .bool a, .bool b => some (.bool (bif c then a else b))
  | .int k a, .int k' b => if k = k' then some (.int k (bif c then a else b)) else none
  | _, _ => none

def pickK (c x y : AV) (K : AV → Prop) : Prop :=
  match c with
  | .bool c => unMay c x fun x => unMay (!c) y fun y => ∃ v, pickV c x y = some v ∧ K v
  | _ => False

/-- The cells of an element of a slice type. -/
def elemSize (T : Tab) (t : TypeId) : Option Nat := match T t with
  | some i => (match i.k with | .slice e => (T e).map TI.size | _ => none)
  | none => none

/-- The length and the cells of an element of an array type. -/
def arrElem (T : Tab) (t : TypeId) : Option (Nat × Nat) := match T t with
  | some i => (match i.k with | .arr n e => (T e).map fun i => (n, i.size) | _ => none)
  | none => none

/-- Where a field lies, and its cells. -/
def fieldOff (T : Tab) (t : TypeId) (f : Nat) : Option (Nat × Nat) := match T t with
  | some i => (match i.k with
    | .struct fs => (match fs[f]? with
      | some (o, ft) => (T ft).map fun i => (o, i.size)
      | none => none)
    | _ => none)
  | none => none

def lenK (T : Tab) (s : AState) (t : TypeId) (x : AV) (K : AV → Prop) : Prop :=
  match x with
  | .sl _ es => isSlice T t = true ∧ K (.int .i64 es.length)
  | .row id n => isSlice T t = true ∧ (match s.blk id with | .row _ _ _ _ => True | .fro _ _ => True | _ => False) ∧ K (.int .i64 n)
  | _ => match arrElem T t with
    | some (n, _) => K (.int .i64 n)
    | none => False

def fieldAddrK (T : Tab) (s : AState) (t : TypeId) (x : AV) (f : Nat) (K : AV → Prop) : Prop :=
  match fieldOff T t f with
  | some (o, fsz) => 0 < fsz ∧ (match x with
    | .loc id off => (match s.blk id with | .var _ => True | _ => False) ∧ K (.loc id (off + o))
    | .elt id i off => (match s.blk id with | .row _ _ _ _ => True | .fro _ _ => True | _ => False) ∧ K (.elt id i (off + o))
    | .pel cs => o < cs.length ∧ K (.pel (cs.drop o))
    | _ => False)
  | none => False

def indexAddrK (T : Tab) (s : AState) (t : TypeId) (x y : AV) (K : AV → Prop) : Prop :=
  match y with
  | .int _ n => (match x with
    | .sl _ es => (0 ≤ n ∧ n < es.length) ∧ elemSize T t = some (es.getD n.toNat []).length ∧ K (.pel (es.getD n.toNat []))
    | .row id len => (match s.blk id with
      | .row _ _ sz _ => elemSize T t = some sz
      | .fro sz _ => elemSize T t = some sz
      | _ => False) ∧ (0 ≤ n ∧ n < len) ∧ K (.elt id n.toNat 0)
    | .loc id off => (match s.blk id with | .var _ => True | _ => False) ∧ (match arrElem T t with
      | some (m, sz) => (0 ≤ n ∧ n < m) ∧ K (.loc id (off + n.toNat * sz))
      | none => False)
    | _ => False)
  | _ => False

/-- The cells from an address on. -/
def cellsK (s : AState) (flat : Bool) (size : Nat) (x : AV) (K : List AV → List (Nat × ABlk) → Prop) : Prop :=
  match x with
  | .loc id off => (match s.blk id with
    | .var cs => off + size ≤ cs.length ∧ K ((cs.drop off).take size) []
    | _ => False)
  | .elt id e off => (match s.blk id with
    | .row true nn sz es => e < es.length ∧ off + size ≤ sz ∧
        (if flat then (((es.getD e []).drop off).take size).all AV.flat = true ∧ K (((es.getD e []).drop off).take size) []
         else K (((es.getD e []).drop off).take size) [(id, .row false nn sz es)])
    | .row false _ sz es => e < es.length ∧ off + size ≤ sz ∧ K (((es.getD e []).drop off).take size) []
    | .fro sz es => e < es.length ∧ off + size ≤ sz ∧ K (((es.getD e []).drop off).take size) []
    | _ => False)
  | .pel cs => size ≤ cs.length ∧ K (cs.take size) []
  | _ => False

/-- Is the type an aggregate, of how many cells, are all of them numbers or bools. -/
def tyShape (T : Tab) (t : TypeId) : Option (Bool × Nat × Bool) := match T t with
  | some i => some (i.agg, i.size, i.flat)
  | none => none

def loadK (T : Tab) (s : AState) (t : TypeId) (x : AV) (K : AV → List (Nat × ABlk) → Prop) : Prop :=
  match tyShape T t with
  | some (true, size, flat) => cellsK s flat size x fun cs ups => K (.agg cs) ups
  | some (false, size, flat) => size = 1 ∧ cellsK s flat size x fun cs ups => K (cs.getD 0 .top) ups
  | none => False

end Go.Proofs.Ytdaemhaecjldaaa
