/-
  An evaluator of the model on pure values, and its soundness: what evalCall answers for a function and its arguments, the function returns in the model, and nothing older turns. Part 1.
-/
import GoSem.Dispatch
import GoSem.Core.Program
import Derived.Orders
import Derived.Lib.Join
import Derived.Lib.ItoaNum
import Derived.Lib.Bytealg
import Derived.WalkKit
import Derived.Lib.FrozenHead
import Derived.DeepKeys

set_option linter.all false
section
/-
  The pure evaluator: definitions. No proof here.
-/
namespace Go.PS

inductive Root where
  | heap (i : Nat)
  | slot (t : Nat)
  deriving DecidableEq, Repr

inductive Tag where
  | mu (sz : Nat)
  | ow (sz : Nat)
  | sh
  | fr
  deriving DecidableEq, Repr

inductive PV where
  | undef
  | int (k : IntKind) (n : Int)
  | bool (b : Bool)
  | str (s : List UInt8)
  | raw (v : Value)
  | agg (cs : List PV)
  | tup (vs : List PV)
  | sl (g : Tag) (n : Nat) (cs : List PV)
  | nilp
  | ptr (r : Root) (pre : Option Nat) (off : Nat)
  | hd (r : Root) (pre : Option Nat)
  | vw (r : Root) (pre : Option Nat) (off sz n : Nat)
  | ep (cs : List PV) (off : Nat)
  | box (cs : List PV)
  | fn (f : FuncId) (cap : List PV)
  | mp (i : Nat)
  | bp (i : Nat)
  | rf (i n : Nat) (cs : List PV)
  deriving Inhabited
/-- An object: a variable's cells, or a map's keys and values; a builder's bytes (bld); or the storage of a slice of n rows of s cells that lies in other memory (rf), and which one it has taken the place of. -/
inductive Node where
  | cells (cs : List PV)
  | map (ks vs : List PV)
  | row (s n : Nat) (par : Option Nat)
  | bld (T e : TypeId) (bs : List UInt8)
  deriving Inhabited

inductive Kill where
  | slot (t : Nat)
  | subs (r : Root)
  | at (r : Root) (o : Nat)
  | heaps

abbrev Fr := List (Nat × PV)
abbrev Heap := List Node

def get : Fr → Nat → PV
  | [], _ => .undef
  | (k, v) :: r, t => if k = t then v else get r t

structure Hint where
  keep : Nat → List Nat
  head : Nat → List Nat
  box : Nat → Bool
  prim : Option (Nat × Nat) := none
  own : Option Nat := none
  dies : Nat → Bool := fun _ => false
  free : Nat → List Nat := fun _ => []
  pairs : Nat → List (Nat × Nat) := fun _ => []
  soft : Nat → List (Nat × Option Nat) := fun _ => []
  lazy : Nat → Option Nat := fun _ => none
  nest : Nat → Bool := fun _ => false
  bld : Nat → Option TypeId := fun _ => none

structure St where
  fr : Fr
  hp : Heap
  base : Nat
  dirty : Bool

def PV.kids : PV → List PV
  | .agg cs | .box cs | .sl _ _ cs => cs
  | _ => []

def Kill.hits (r : Root) (pre : Option Nat) : Kill → Bool
  | .slot t => r == .slot t
  | .subs r' => r == r' && pre.isSome
  | .at r' o => r == r' && pre == some o
  | .heaps => (match r with | .heap _ => true | _ => false) && pre.isSome

/-- Strikes the views that a change makes stale. -/
def Kill.on (k : Kill) : PV → PV
  | .ptr r pre off => if k.hits r pre then .undef else .ptr r pre off
  | .hd r pre => if k.hits r pre then .undef else .hd r pre
  | .vw r pre off sz n => if k.hits r pre then .undef else .vw r pre off sz n
  | v => v
def killFr (k : Kill) (fr : Fr) : Fr := fr.map fun e => (e.1, k.on e.2)
/-- A slot loses its value, and views of it go stale. -/
def drop (t : Nat) (fr : Fr) : Fr := (t, .undef) :: killFr (.slot t) fr
/-- A slot is written. -/
def setFr (fr : Fr) (t : Nat) (v : PV) : Fr :=
  match get fr t with
  | .sl .. | .box _ | .agg _ => (t, (Kill.slot t).on v) :: killFr (.slot t) fr
  | _ => (t, (Kill.slot t).on v) :: fr

/-- The node at a place. -/
def rootPV (st : St) : Root → PV
  | .slot t => get st.fr t
  | .heap i => match st.hp[i]? with | some (.cells cs) => .box cs | some (.map ..) => .box [] | some (.row ..) => .undef | some (.bld ..) => .undef | none => .undef

def nav (st : St) (r : Root) (pre : Option Nat) : Option PV :=
  match pre, rootPV st r with
  | none, .box cs => some (.box cs)
  | none, .sl (.mu s) n cs => some (.sl (.mu s) n cs)
  | none, .sl (.ow s) n cs => some (.sl (.ow s) n cs)
  | some o, .box cs => match cs[o]? with
    | some (.sl (.mu s) n xs) => some (.sl (.mu s) n xs)
    | some (.sl (.ow s) n xs) => some (.sl (.ow s) n xs)
    | _ => none
  | _, _ => none

/-- A slice node: its tag, length, cells. -/
def navS (st : St) (r : Root) (pre : Option Nat) : Option (Tag × Nat × List PV) :=
  match nav st r pre with
  | some (.sl g n cs) => some (g, n, cs)
  | _ => none

def putRoot (st : St) (r : Root) (x : PV) : St :=
  match r with
  | .slot t => { st with fr := (t, x) :: st.fr }
  | .heap i => { st with hp := st.hp.set i (.cells x.kids), dirty := st.dirty || decide (i < st.base) }

def PV.withKids (x : PV) (cs : List PV) : PV :=
  match x with
  | .agg _ => .agg cs
  | .box _ => .box cs
  | .sl g n _ => .sl g n cs
  | x => x

/-- Puts a node in its place. -/
def put (st : St) (r : Root) (pre : Option Nat) (x : PV) : St :=
  match pre with
  | none => putRoot st r x
  | some o => putRoot st r ((rootPV st r).withKids ((rootPV st r).kids.set o x))

def splice : List PV → Nat → List PV → List PV
  | cs, _, [] => cs
  | [], _, _ :: _ => []
  | _ :: cs, 0, v :: vs => v :: splice cs 0 vs
  | c :: cs, off + 1, v :: vs => c :: splice cs off (v :: vs)
theorem splice_nil (cs : List PV) (off : Nat) : splice cs off [] = cs := by cases cs <;> cases off <;> rfl
theorem splice_none (off : Nat) (vs : List PV) : splice [] off vs = [] := by cases vs <;> cases off <;> rfl
theorem splice_cons : ∀ (cs : List PV) (off : Nat) (v : PV) (vs : List PV), splice cs off (v :: vs) = splice (cs.set off v) (off + 1) vs
  | [], off, v, vs => by rw [List.set_nil, splice_none, splice_none]
  | c :: cs, 0, v, vs => by
    rw [List.set_cons_zero, splice]
    cases vs with
    | nil => rw [splice_nil, splice_nil]
    | cons w ws => rw [splice]
  | c :: cs, off + 1, v, vs => by
    rw [List.set_cons_succ, splice, splice_cons cs off v vs]
    cases vs with
    | nil => rw [splice_nil, splice_nil]
    | cons w ws => rw [splice]

section types
variable (P : Program)
def sizeT (T : TypeId) : Nat := match P.info? T with | some i => i.size | none => 0
def elemT (T : TypeId) : Option TypeId := match P.underlying T with | some (.slice e) => some e | _ => none
def isAggT (T : TypeId) : Bool := match P.underlying T with | some (.struct _) | some (.array ..) => true | _ => false

end types

def ofConst : Value → PV
  | .bool b => .bool b
  | .int k n => .int k n
  | .string s => .str s.data.toList
  | .pointer none => .nilp
  | .slice none 0 0 => .sl (.mu 0) 0 []
  | .agg _ | .tuple _ | .pointer _ | .slice .. | .map (some _) | .chan (some _) | .func .. | .iface .. => .undef
  | v => .raw v
/-- A type's zero value, as cells. -/
def zeroT (P : Program) (T : TypeId) : Option (List PV) :=
  match P.info? T with
  | some i => match i.zero with
    | some v => some (v.cells.toList.map ofConst)
    | none => none
  | none => none

/-- Is it a builder that holds nothing? -/
def zeroBld (P : Program) (T : TypeId) : Bool :=
  match P.info? T with
  | some i => (match i.zero with
    | some v => (match v.cells.toList with
      | [.pointer none, .slice none 0 0] => true
      | _ => false)
    | none => false)
  | none => false

def opv (fr : Fr) : Operand → PV
  | .tmp t => match get fr t with | .box _ => .ptr (.slot t) none 0 | v => v
  | .const v => ofConst v
  | .global _ => .undef
  | .func f => .fn f []

/-- What a copy of a cell, of a slot's value is. -/
def viewCell (r : Root) (o : Nat) : PV → PV
  | .sl (.mu _) .. | .sl (.ow _) .. => .hd r (some o)
  | v => v
def shr : PV → PV
  | .sl (.mu _) n _ => if n = 0 then .sl .sh 0 [] else .undef
  | .sl (.ow _) n xs => .sl .sh n xs
  | v => v
def shareCells (cs : List PV) : List PV := cs.map shr
def viewSlot (t : Nat) : PV → PV
  | .sl (.mu _) .. | .sl (.ow _) .. => .hd (.slot t) none
  | .box _ => .ptr (.slot t) none 0
  | .agg cs => .agg (shareCells cs)
  | v => v

/-- A slice as it is read: how many elements, and its cells. -/
def content (st : St) : PV → Option (Nat × List PV)
  | .sl _ n cs => some (n, cs)
  | .rf _ n cs => some (n, cs)
  | .hd r pre => match navS st r pre with | some (_, n, cs) => some (n, cs) | none => none
  | .vw r pre off sz n => match nav st r pre with
    | some x => if off + n * sz ≤ x.kids.length then some (n, shareCells ((x.kids.drop off).take (n * sz))) else none
    | none => none
  | _ => none

def lenOf (st : St) : PV → Option Nat
  | .sl _ n _ => some n
  | .rf _ n _ => some n
  | .hd r pre => match navS st r pre with | some (_, n, _) => some n | none => none
  | .vw _ _ _ _ n => some n
  | .str s => some s.length
  | _ => none

def bytesOf : List PV → Option (List UInt8)
  | [] => some []
  | .int .u8 n :: r => match bytesOf r with | some l => some (UInt8.ofNat n.toNat :: l) | none => none
  | _ => none
def ofBytes (s : List UInt8) : List PV := s.map fun b => .int .u8 b.toNat

/-- All of these, if they are all known. -/
def andL : List (Option Bool) → Option Bool
  | [] => some true
  | x :: xs => match x, andL xs with
    | some a, some b => some (a && b)
    | _, _ => none
/-- Structs and arrays of numbers, bools and texts, compared part by part. -/
def eqT (P : Program) : Nat → TypeId → List PV → List PV → Option Bool
  | 0, _, _, _ => none
  | d + 1, T, cs, ds => match P.underlying T with
    | some .bool => match cs, ds with | [.bool a], [.bool b] => some (a == b) | _, _ => none
    | some (.int _) => match cs, ds with | [.int k a], [.int k' b] => if k = k' then some (a == b) else none | _, _ => none
    | some .string => match cs, ds with | [.str a], [.str b] => some (a == b) | _, _ => none
    | some (.struct fs) => if P.stoodInHeld T then none else
        andL (fs.toList.map fun f => if f.name = "_" then some true else eqT P d f.type ((cs.drop f.offset).take (sizeT P f.type)) ((ds.drop f.offset).take (sizeT P f.type)))
    | some (.array n e) =>
        andL ((List.range n).map fun i => eqT P d e ((cs.drop (i * sizeT P e)).take (sizeT P e)) ((ds.drop (i * sizeT P e)).take (sizeT P e)))
    | _ => none
def eqVal (P : Program) (T : TypeId) (x y : PV) : Option Bool :=
  match P.underlying T, x, y with
  | some .bool, .bool a, .bool b => some (a == b)
  | some (.pointer _), .nilp, .nilp => some true
  | some (.pointer _), .nilp, .ptr .. => some false
  | some (.pointer _), .ptr .., .nilp => some false
  | some (.func ..), .raw .nilFunc, .raw .nilFunc => some true
  | some (.func ..), .fn .., .raw .nilFunc => some false
  | some (.struct _), .agg a, .agg b | some (.array ..), .agg a, .agg b => if P.eqGuardType P.depth T then none else eqT P 20 T a b
  | _, _, _ => none

def bytesLess : List UInt8 → List UInt8 → Bool
  | _, [] => false
  | [], _ :: _ => true
  | a :: x, b :: y => a < b || (a == b && bytesLess x y)

def binI (op : BinOp) (k : IntKind) (a b : Int) : Option PV :=
  match op with
  | .add => some (.int k (k.wrap (a + b)))
  | .sub => some (.int k (k.wrap (a - b)))
  | .mul => some (.int k (k.wrap (a * b)))
  | .quo => if b = 0 then none else some (.int k (k.wrap (a.tdiv b)))
  | .rem => if b = 0 then none else some (.int k (a.tmod b))
  | .and => some (.int k (k.wrap ((BitVec.ofInt k.bits a &&& BitVec.ofInt k.bits b).toNat)))
  | .or => some (.int k (k.wrap ((BitVec.ofInt k.bits a ||| BitVec.ofInt k.bits b).toNat)))
  | .xor => some (.int k (k.wrap ((BitVec.ofInt k.bits a ^^^ BitVec.ofInt k.bits b).toNat)))
  | .andNot => some (.int k (k.wrap ((BitVec.ofInt k.bits a &&& ~~~ BitVec.ofInt k.bits b).toNat)))
  | .eql => some (.bool (a == b))
  | .neq => some (.bool (a != b))
  | .lss => some (.bool (a < b))
  | .leq => some (.bool (a ≤ b))
  | .gtr => some (.bool (a > b))
  | .geq => some (.bool (a ≥ b))
  | _ => none
def binS (op : BinOp) (a b : List UInt8) : Option PV :=
  match op with
  | .add => if a.length + b.length ≤ 9223372036854775807 then some (.str (a ++ b)) else none
  | .eql => some (.bool (a == b))
  | .neq => some (.bool (!(a == b)))
  | .lss => some (.bool (bytesLess a b))
  | .leq => some (.bool (bytesLess a b || a == b))
  | .gtr => some (.bool (!(bytesLess a b || a == b)))
  | .geq => some (.bool (!bytesLess a b))
  | _ => none
/-- Floats compared, by their bits. -/
def binF (op : BinOp) (k : FloatKind) (a b : Nat) : Option PV :=
  match op with
  | .eql => some (.bool (k.format.order a b == some .eq))
  | .neq => some (.bool (k.format.order a b != some .eq))
  | .lss => some (.bool (k.format.order a b == some .lt))
  | .leq => some (.bool (k.format.order a b == some .lt || k.format.order a b == some .eq))
  | .gtr => some (.bool (k.format.order a b == some .gt))
  | .geq => some (.bool (k.format.order a b == some .gt || k.format.order a b == some .eq))
  | _ => none
def bin (P : Program) (T : TypeId) (op : BinOp) (x y : PV) : Option PV :=
  match x, y with
  | .raw (.float k a), .raw (.float k' b) => if k = k' then binF op k a b else none
  | .int k a, .int k' b => match op with
    | .shl => if b < 0 then none else some (.int k (k.wrap (a * 2 ^ (min b.toNat k.bits))))
    | .shr => if b < 0 then none else some (.int k (a.fdiv (2 ^ (min b.toNat k.bits))))
    | op => if k = k' then binI op k a b else none
  | .str a, .str b => binS op a b
  | x, y => match op with
    | .eql => (eqVal P T x y).map .bool
    | .neq => (eqVal P T x y).map fun e => .bool (!e)
    | _ => none

def un (op : UnOp) (x : PV) : Option PV :=
  match op, x with
  | .neg, .int k n => some (.int k (k.wrap (0 - n)))
  | .xor, .int k n => binI .xor k (if k.signed then -1 else k.max) n
  | .not, .bool b => some (.bool !b)
  | _, _ => none

def conv (P : Program) (st : St) (src dst : TypeId) (x : PV) : Option PV :=
  match P.underlying src, P.underlying dst, x with
  | some (.int _), some (.int k), .int _ n => some (.int k (k.wrap n))
  | some .string, some .string, .str s => some (.str s)
  | some .string, some (.slice e), .str s => match P.underlying e with
    | some (.int .u8) => some (.sl (.mu 1) s.length (ofBytes s))
    | _ => none
  | some (.slice e), some .string, x => match P.underlying e, content st x with
    | some (.int .u8), some (n, cs) => if cs.length = n then (bytesOf cs).map .str else none
    | _, _ => none
  | _, _, _ => none

def asInt : PV → Option Int
  | .int _ n => some n
  | _ => none

def bound (v : PV) (y : Nat) : Option Nat := match v with
  | .int _ i => if 0 ≤ i ∧ i ≤ y then some i.toNat else none
  | _ => none
def lowB (lo : Option PV) (h : Nat) : Option Nat := match lo with
  | some x => bound x h
  | none => some 0
/-- The bounds of a slice expression: low, high, and the third one if it stands. -/
def bounds (len : Nat) (lo hi mx : Option PV) : Option (Nat × Nat × Option Nat) :=
  match mx, hi with
  | none, none => (lowB lo len).map fun l => (l, len, none)
  | none, some h => match bound h len with
    | some h => (lowB lo h).map fun l => (l, h, none)
    | none => none
  | some m, some h => match bound m len with
    | some m => match bound h m with
      | some h => (lowB lo h).map fun l => (l, h, some m)
      | none => none
    | none => none
  | some _, none => none

def sliceOp (P : Program) (st : St) (T : TypeId) (x : PV) (lo hi mx : Option PV) : Option PV :=
  match P.underlying T, x with
  | some .string, .str s => match bounds s.length lo hi mx with
    | some (l, h, none) => some (.str ((s.drop l).take (h - l)))
    | _ => none
  | some (.slice e), .hd r pre => match navS st r pre with
    | some (_, n, cs) => match bounds n lo hi mx with
      | some (l, h, none) => if cs.length = n * sizeT P e then some (.vw r pre (l * sizeT P e) (sizeT P e) (h - l)) else none
      | some (l, _, some m) => if m = l then some (.sl .fr 0 []) else none
      | none => none
    | none => none
  | some (.slice e), .vw r pre off sz n => match bounds n lo hi mx with
      | some (l, h, none) => if sz = sizeT P e then some (.vw r pre (off + l * sz) sz (h - l)) else none
      | some (l, _, some m) => if m = l then some (.sl .fr 0 []) else none
      | none => none
  | some (.slice e), .sl g n cs => match bounds n lo hi mx with
      | some (l, h, none) => if (g = .sh ∨ g = .fr) ∧ cs.length = n * sizeT P e then
           some (.sl .sh (h - l) ((cs.drop (l * sizeT P e)).take ((h - l) * sizeT P e))) else none
      | some (l, _, some m) => if m = l then some (.sl .fr 0 []) else none
      | none => none
  | some (.array n e), .ptr r pre off => match bounds n lo hi mx with
      | some (l, h, none) => some (.vw r pre (off + l * sizeT P e) (sizeT P e) (h - l))
      | some (l, _, some m) => if m = l then some (.sl .fr 0 []) else none
      | none => none
  | some (.array n e), .ep cs off => match bounds n lo hi mx with
      | some (l, h, none) => if off + n * sizeT P e ≤ cs.length then some (.sl .sh (h - l) ((cs.drop (off + l * sizeT P e)).take ((h - l) * sizeT P e))) else none
      | some (l, _, some m) => if m = l then some (.sl .fr 0 []) else none
      | none => none
  | _, _ => none

def indexAddr (P : Program) (st : St) (T : TypeId) (x ix : PV) : Option PV :=
  match ix with
  | .int _ i =>
    match P.underlying T, x with
    | some (.array n e), .ptr r pre off => if 0 ≤ i ∧ i < n then some (.ptr r pre (off + i.toNat * sizeT P e)) else none
    | some (.array n e), .ep cs off => if 0 ≤ i ∧ i < n then some (.ep cs (off + i.toNat * sizeT P e)) else none
    | some (.slice e), .hd r pre => match navS st r pre with
      | some (_, n, cs) => if 0 ≤ i ∧ i < n ∧ cs.length = n * sizeT P e then some (.ptr r pre (i.toNat * sizeT P e)) else none
      | none => none
    | some (.slice e), .vw r pre off sz n => if 0 ≤ i ∧ i < n ∧ sz = sizeT P e then some (.ptr r pre (off + i.toNat * sizeT P e)) else none
    | some (.slice e), .rf _ n cs => if 0 ≤ i ∧ i < n ∧ cs.length = n * sizeT P e then some (.ep cs (i.toNat * sizeT P e)) else none
    | some (.slice e), .sl g n cs =>
      if g = .sh ∨ g = .fr then (if 0 ≤ i ∧ i < n ∧ cs.length = n * sizeT P e then some (.ep cs (i.toNat * sizeT P e)) else none) else none
    | _, _ => none
  | _ => none

def indexVal (P : Program) (T : TypeId) (x ix : PV) : Option PV :=
  match ix with
  | .int _ i =>
    match P.underlying T, x with
    | some (.array n e), .agg cs => if 0 ≤ i ∧ i < n ∧ cs.length = n * sizeT P e then
        (if isAggT P e then some (.agg (shareCells ((cs.drop (i.toNat * sizeT P e)).take (sizeT P e)))) else (cs[i.toNat * sizeT P e]?).map shr) else none
    | some .string, .str s => if 0 ≤ i ∧ i < s.length then (s[i.toNat]?).map fun b => .int .u8 b.toNat else none
    | _, _ => none
  | _ => none

def fieldOf (P : Program) (T : TypeId) (i : Nat) : Option Field := match P.underlying T with | some (.struct fs) => fs[i]? | _ => none

def load (P : Program) (st : St) (T : TypeId) (x : PV) : Option PV :=
  match x with
  | .ptr r pre off => match nav st r pre with
    | some nd =>
      if isAggT P T then
        (if off + sizeT P T ≤ nd.kids.length then
          (match nd with
           | .box _ => some (.agg (shareCells ((nd.kids.drop off).take (sizeT P T))))
           | _ => some (.agg ((nd.kids.drop off).take (sizeT P T)))) else none)
      else match nd.kids[off]? with
        | some v => (match nd with | .box _ => some (viewCell r off v) | _ => some v)
        | none => none
    | none => none
  | .ep cs off =>
      if isAggT P T then (if off + sizeT P T ≤ cs.length then some (.agg ((cs.drop off).take (sizeT P T))) else none)
      else cs[off]?
  | _ => none

/-- Lays parts into cells. -/
def cellsOf : PV → List PV
  | .agg cs => cs
  | v => [v]
def fillP (place : Nat → Option (Nat × Nat)) (cells : List PV) : List Nat → List PV → Option (List PV)
  | i :: is, v :: vs => match place i with
    | some (off, size) => if (cellsOf v).length = size ∧ off + size ≤ cells.length then fillP place (splice cells off (cellsOf v)) is vs else none
    | none => none
  | [], [] => some cells
  | _, _ => none

def minL : PV → List PV → Option PV
  | x, [] => some x
  | .int k a, .int k' b :: r => if k = k' then minL (.int k (if b < a then b else a)) r else none
  | _, _ => none
def maxL : PV → List PV → Option PV
  | x, [] => some x
  | .int k a, .int k' b :: r => if k = k' then maxL (.int k (if b > a then b else a)) r else none
  | _, _ => none

/-- A value that says all of itself. -/
def plain0 : PV → Bool
  | .int .. | .bool _ | .str _ | .raw _ => true
  | _ => false
/-- Results as they are handed back. -/
def outCell : PV → PV
  | .sl _ n cs => .sl .sh n cs
  | v => v
/-- The same; a nil slice is known as one. -/
def outNil : PV → PV
  | .sl (.mu 0) 0 [] => .sl (.mu 0) 0 []
  | v => outCell v
def noOwn : PV → Option PV
  | .sl (.mu _) .. | .sl (.ow _) .. | .agg _ | .box _ => none
  | v => some v

/-- Keys are numbers or texts. -/
def sameK : PV → PV → Option Bool
  | .int k a, .int k' b => if k = k' then some (a == b) else none
  | .str a, .str b => some (a == b)
  | _, _ => none
/-- The place of a key among keys. -/
def findK (x : PV) : List PV → Option (Option Nat)
  | [] => some none
  | y :: ys => match sameK x y with
    | some true => some (some 0)
    | some false => match findK x ys with
      | some (some n) => some (some (n + 1))
      | r => r
    | none => none
def keyT (P : Program) (K : TypeId) (x : PV) : Bool := match P.underlying K, x with
  | some (.int _), .int .. => true
  | some .string, .str _ => true
  | _, _ => false
/-- A type's zero value. -/
def zeroV (P : Program) (T : TypeId) : Option PV :=
  match P.info? T with
  | some i => match i.zero with
    | some (.agg vs) => some (.agg (vs.toList.map ofConst))
    | some v => some (ofConst v)
    | none => none
  | none => none
def lookupV (P : Program) (K E : TypeId) (ks vs : List PV) (x : PV) : Option (PV × Bool) :=
  if keyT P K x = true then
    (match findK x ks with
    | some (some j) => match vs[j]? with | some y => some (y, true) | none => none
    | some none => match zeroV P E with | some z => some (z, false) | none => none
    | none => none)
  else none
def mapAt (st : St) : PV → Option (List PV × List PV)
  | .mp i => match st.hp[i]? with | some (.map ks vs) => some (ks, vs) | _ => none
  | .raw (.map none) => some ([], [])
  | _ => none
def lookupOp (P : Program) (st : St) (T : TypeId) (x ix : PV) (ok : Bool) : Option PV :=
  match P.underlying T, mapAt st x with
  | some (.map K E), some (ks, vs) => match lookupV P K E ks vs ix with
    | some (y, b) => some (if ok then .tup [y, .bool b] else y)
    | none => none
  | _, _ => none

/-- A slot's slice, where it is looked into: as a view. -/
def seen : Operand → PV → PV
  | .tmp t, v => viewSlot t v
  | _, v => v
/-- Operations that change nothing but the slot that they write. -/
def stepA (P : Program) (st : St) (o : Oper) : Option PV :=
  let v := opv st.fr
  match o.op with
  | .move x => match x with
    | .tmp t => some (viewSlot t (get st.fr t))
    | x => some (v x)
  | .pick c a b => match v c with
    | .bool true => noOwn (v a)
    | .bool false => noOwn (v b)
    | _ => none
  | .load T a => if (P.underlying T).isSome then load P st T (v a) else none
  | .nilCheck x => match v x with
    | .ptr r pre off => some (.ptr r pre off)
    | .ep cs off => some (.ep cs off)
    | .fn f cap => some (.fn f cap)
    | _ => none
  | .fieldAddr T x i => match fieldOf P T i with
    | some f => if sizeT P f.type = 0 then none else match v x with
      | .ptr r pre off => some (.ptr r pre (off + f.offset))
      | .ep cs off => some (.ep cs (off + f.offset))
      | _ => none
    | none => none
  | .field T x i => match fieldOf P T i, v x with
    | some f, .agg cs => if f.offset + sizeT P f.type ≤ cs.length then
        (if isAggT P f.type then some (.agg (shareCells ((cs.drop f.offset).take (sizeT P f.type)))) else (cs[f.offset]?).map shr) else none
    | _, _ => none
  | .indexAddr T x ix => indexAddr P st T (seen x (v x)) (v ix)
  | .index T x ix => indexVal P T (v x) (v ix)
  | .binOp op T x y _ => bin P T op (v x) (v y)
  | .unOp op _ x => un op (v x)
  | .convert a b x => conv P st a b (v x)
  | .slice T x lo hi mx => sliceOp P st T (v x) (lo.map v) (hi.map v) (mx.map v)
  | .extract x i => match v x with
    | .tup vs => vs[i]?
    | _ => none
  | .makeSlice T l c => match elemT P T, v l, v c with
    | some e, .int _ n, .int _ m => match zeroT P e with
      | some z => if n = m ∧ 0 ≤ n ∧ n ≤ 140737488355328 ∧ z.length = sizeT P e ∧ (P.info? e).any (fun i => decide (i.bytes * n ≤ 140737488355328)) then some (.sl (.mu (sizeT P e)) n.toNat (List.replicate n.toNat (z.map outCell)).flatten) else none
      | none => none
    | _, _, _ => none
  | .call c => match c.callee with
    | .builtin .len => match c.args.toList, c.argTypes.toList with
      | [x], [T] => match P.underlying T with
        | some (.array n _) => some (.int .i64 n)
        | some (.pointer A) => match P.underlying A with | some (.array n _) => some (.int .i64 n) | _ => none
        | some .string => match v x with | .str s => some (.int .i64 s.length) | _ => none
        | some (.slice _) => match v x with | .str _ => none | y => match lenOf st y with | some n => some (.int .i64 n) | none => none
        | _ => none
      | _, _ => none
    | .builtin .min => match c.args.toList.map v with | x :: y :: r => minL x (y :: r) | _ => none
    | .builtin .max => match c.args.toList.map v with | x :: y :: r => maxL x (y :: r) | _ => none
    | .builtin .complex => match c.args.toList.map v with | [.raw (.float k a), .raw (.float k' b)] => if k = k' then some (.raw (.complex k a b)) else none | _ => none
    | .builtin .real => match c.args.toList.map v with | [.raw (.complex k a _)] => some (.raw (.float k a)) | _ => none
    | .builtin .imag => match c.args.toList.map v with | [.raw (.complex k _ b)] => some (.raw (.float k b)) | _ => none
    | _ => none
  | _ => none

/-- A place is emptied; views of it go stale. -/
def moveOut (st : St) (r : Root) (pre : Option Nat) : St :=
  match r, pre with
  | .slot t, none => { st with fr := drop t st.fr }
  | r, some o => put { st with fr := killFr (.at r o) st.fr } r (some o) .undef
  | _, none => st

/-- May it lie in memory, or be handed to a callee? -/
def storable : PV → Bool
  | .raw (.tuple _) => false
  | .int .. | .bool _ | .str _ | .raw _ | .nilp | .sl .. | .ptr (.heap _) none _ | .fn .. | .mp _ | .rf .. => true
  | _ => false

/-- Is there memory for so many elements? -/
def fits (P : Program) (e : TypeId) (m : Nat) : Bool :=
  match P.info? e, zeroT P e with
  | some i, some z => decide (m * i.bytes ≤ 140737488355328 ∧ 0 < i.bytes ∧ z.length = i.size)
  | _, _ => false
def appendGo (P : Program) (st : St) (e : TypeId) (k : Nat) (ys : List PV) (r : Root) (pre : Option Nat) : Option (St × PV) :=
  match navS st r pre with
  | some (g, n, cs) =>
    if cs.length = n * sizeT P e ∧ fits P e (n + k) = true then
      (match g with
       | .mu s => if s = sizeT P e ∨ (s = 0 ∧ n = 0) then some (moveOut st r pre, .sl (.mu (sizeT P e)) (n + k) (cs ++ ys.map outNil)) else none
       | .ow s => if s = sizeT P e ∨ (s = 0 ∧ n = 0) then some (moveOut st r pre, .sl (.ow (sizeT P e)) (n + k) (cs ++ ys.map outNil)) else none
       | _ => none)
    else none
  | none => none
/-- The built-in append: the old slice is moved into the new one. -/
def appendOp (P : Program) (st : St) (T : TypeId) (x : Operand) (y : PV) : Option (St × PV) :=
  match elemT P T, content st y with
  | some e, some (k, ys) =>
    if ys.length = k * sizeT P e ∧ ys.all storable = true then
      (match opv st.fr x with
      | .hd r pre => appendGo P st e k ys r pre
      | .sl .fr n cs => if cs.length = n * sizeT P e ∧ fits P e (n + k) = true then some (st, .sl (if n = 0 then .mu (sizeT P e) else .ow (sizeT P e)) (n + k) (cs ++ ys.map outNil)) else none
      | .sl .. => (match x with
        | .tmp t => appendGo P st e k ys (.slot t) none
        | _ => none)
      | _ => none)
    else none
  | _, _ => none

/-- Has no other storage taken its place? -/
def rowAlive (hp : Heap) (i : Nat) : Bool := hp.all fun nd => match nd with | .row _ _ (some j) => j != i | _ => true
/-- An append onto a slice that lies in other memory: the longer one lies in storage that is told of anew. -/
def appendNest (P : Program) (st : St) (T : TypeId) (x y : PV) : Option (St × PV) :=
  match elemT P T, content st y with
  | some e, some (k, ys) =>
    if ys.length = k * sizeT P e ∧ ys.all storable = true ∧ 0 < sizeT P e ∧ 0 < k then
      (match x with
      | .rf i n cs => (match st.hp[i]? with
        | some (.row s m _) => if m = n ∧ s = sizeT P e ∧ cs.length = n * s ∧ rowAlive st.hp i = true ∧ fits P e (n + k) = true then
            some ({ st with hp := st.hp ++ [.row s (n + k) (some i)], dirty := st.dirty || decide (i < st.base) }, .rf st.hp.length (n + k) (cs ++ ys.map outNil)) else none
        | _ => none)
      | .sl (.mu 0) 0 [] => if fits P e k = true then some ({ st with hp := st.hp ++ [.row (sizeT P e) k none] }, .rf st.hp.length k (ys.map outNil)) else none
      | _ => none)
    else none
  | _, _ => none

/-- A slice of a whole local array, which nobody looks at any more: it lasts. -/
def eatBox (P : Program) (st : St) (T : TypeId) (x : Operand) : Option (St × PV) :=
  match x with
  | .tmp t => (match get st.fr t, P.underlying T with
    | .box cs, some (.array n e) => if cs.length = n * sizeT P e ∧ cs.all plain0 = true ∧ 0 < cs.length then some ({ st with fr := drop t st.fr }, .sl .sh n cs) else none
    | _, _ => none)
  | _ => none

/-- What is handed over: a view becomes what it shows, an owned slice in a temporary is moved. -/
def takeV (st : St) : PV → Option (St × PV)
  | .hd r pre => match navS st r pre with
    | some (.mu s, n, cs) => some (moveOut st r pre, .sl (.mu s) n cs)
    | some (_, n, cs) => some (st, .sl .sh n cs)
    | none => none
  | .vw r pre off sz n => match navS st r pre with
    | some (.ow _, _, cs) => if off + n * sz ≤ cs.length then some (st, .sl .sh n ((cs.drop off).take (n * sz))) else none
    | _ => none
  | .box _ | .undef => none
  | v => some (st, v)

/-- Does it last wherever it is put? -/
def lasting : PV → Bool
  | .int .. | .bool _ | .str _ | .raw _ | .nilp | .sl .sh _ _ | .sl .fr _ _ | .sl (.mu 0) 0 [] | .ptr (.heap _) none _ | .fn .. | .mp _ | .bp _ | .rf .. => true
  | _ => false
def take (st : St) (x : Operand) : Option (St × PV) :=
  match x, opv st.fr x with
  | .tmp t, .sl (.mu s) n cs => some ({ st with fr := drop t st.fr }, .sl (.mu s) n cs)
  | .tmp t, .sl (.ow s) n cs => some ({ st with fr := drop t st.fr }, .sl (.ow s) n cs)
  | .tmp t, .agg cs => if cs.all lasting then some (st, .agg cs) else some ({ st with fr := drop t st.fr }, .agg cs)
  | _, v => takeV st v

/-- A nil slice takes its type's element size. -/
def retag (P : Program) (T : TypeId) : PV → PV
  | .sl (.mu 0) 0 [] => match elemT P T with | some e => .sl (.mu (sizeT P e)) 0 [] | none => .sl (.mu 0) 0 []
  | v => v

def assign (P : Program) (st : St) (o : Oper) (dst : Nat) (x : Operand) : Option St :=
  match take st x with
  | some (st, v) =>
    match v with
    | .hd .. | .vw .. => none
    | v => some { st with fr := setFr st.fr dst (retag P o.type v) }
  | none => none

/-- Views that a write makes stale. -/
def killOf (r : Root) (off : Nat) : PV → Kill
  | .agg _ => .subs r
  | _ => .at r off

def store (P : Program) (st : St) (T : TypeId) (a x : Operand) : Option St :=
  match take st x with
  | none => none
  | some (st, v) =>
    match opv st.fr a with
    | .ptr r pre off => match nav st r pre with
      | some nd =>
        if (cellsOf v).length = sizeT P T ∧ (P.info? T).isSome = true ∧ off + (cellsOf v).length ≤ nd.kids.length ∧ (cellsOf v).all storable = true ∧ 0 < (cellsOf v).length then
          (match nd with
           | .box cs => some (putRoot { st with fr := killFr (killOf r off v) st.fr } r (.box (splice cs off (cellsOf (retag P T v)))))
           | .sl (.mu s) n cs => some (put st r pre (.sl (.mu s) n (splice cs off ((cellsOf v).map outCell))))
           | _ => none)
        else none
      | none => none
    | _ => none

/-- Cells are written, from a place's cell on. -/
def copyTo (st : St) (r : Root) (pre : Option Nat) (off : Nat) (ys : List PV) : Option St :=
  match nav st r pre with
  | some (.sl (.mu s) n cs) => if off + ys.length ≤ cs.length then some (put st r pre (.sl (.mu s) n (splice cs off (ys.map outCell)))) else none
  | some (.box cs) => if off + ys.length ≤ cs.length then some (putRoot { st with fr := killFr (.subs r) st.fr } r (.box (splice cs off ys))) else none
  | _ => none
/-- What a copy reads. -/
def copySrc (P : Program) (e : TypeId) (st : St) (y : PV) : Option (Nat × List PV) :=
  match y with
  | .str s => if sizeT P e = 1 then some (s.length, ofBytes s) else none
  | y => content st y
/-- The built-in copy. -/
def copyOp (P : Program) (st : St) (T : TypeId) (x y : PV) : Option (St × Nat) :=
  match elemT P T with
  | none => none
  | some e => match copySrc P e st y with
    | none => none
    | some (k, ys) =>
      if ys.length = k * sizeT P e ∧ ys.all storable = true then
        (match x with
        | .hd r pre => match navS st r pre with
          | some (_, n, _) => (copyTo st r pre 0 (ys.take (min k n * sizeT P e))).map fun st => (st, min k n)
          | none => none
        | .vw r pre off sz n => if sz = sizeT P e then (copyTo st r pre off (ys.take (min k n * sizeT P e))).map fun st => (st, min k n) else none
        | .sl _ 0 [] => some (st, 0)
        | _ => none)
      else none

/-- The built-in clear, of a part of a slice that is a place's alone. -/
def clearOp (P : Program) (st : St) (T : TypeId) (x : PV) : Option St :=
  match elemT P T, x with
  | some e, .vw r pre off sz n => (match zeroT P e, nav st r pre with
    | some z, some (.sl (.mu s) k cs) =>
      if sz = sizeT P e ∧ z.length = sizeT P e ∧ 0 < n * sizeT P e ∧ off + n * sizeT P e ≤ cs.length ∧ (z.map outCell).all storable = true then
        some (put st r pre (.sl (.mu s) k (splice cs off (List.replicate n (z.map outCell)).flatten))) else none
    | _, _ => none)
  | _, _ => none

def setSlot (st : St) (dst : Option Nat) (v : PV) : St :=
  match dst with
  | some t => { st with fr := setFr st.fr t v }
  | none => st

def out : PV → PV
  | .agg cs => .agg (cs.map outCell)
  | v => outCell v
/-- A nil slice that the text names is known as one. -/
def outC : Operand → PV → PV
  | .const _, .sl (.mu 0) 0 [] => .sl (.mu 0) 0 []
  | _, v => out v
/-- A slice that a place owns is shared: from now on its elements last. -/
def shareAt (st : St) (r : Root) (pre : Option Nat) : Option (St × PV) :=
  match navS st r pre with
  | some (.mu s, n, cs) => some (put st r pre (.sl (.ow s) n cs), .sl .sh n cs)
  | some (_, n, cs) => some (st, .sl .sh n cs)
  | none => none
/-- The same for the slices in a stretch of a variable. -/
def shareRange (st : St) (r : Root) (off : Nat) : Nat → St
  | 0 => st
  | k + 1 => match shareAt (shareRange st r off k) r (some (off + k)) with
    | some (st, _) => st
    | none => shareRange st r off k
/-- Views that are handed over are shared, but for those whose place has no more use. -/
def preShare (dies : Nat → Bool) (st : St) (x : Operand) : St :=
  match x, opv st.fr x with
  | .tmp t, .hd r pre => if dies t then st else (match shareAt st r pre with | some (st, _) => st | none => st)
  | _, _ => st
/-- A value that is handed over for good: what it owned is shared. -/
def takeOut (st : St) (x : Operand) : Option (St × PV) :=
  match opv st.fr x with
  | .hd r pre => shareAt st r pre
  | _ => match take st x with
    | some (st, v) => if (cellsOf v).all storable = true then some (st, outC x v) else none
    | none => none
def takeL (st : St) : List Operand → Option (St × List PV)
  | [] => some (st, [])
  | x :: xs => match takeOut st x with
    | none => none
    | some (st, v) => match takeL st xs with
      | none => none
      | some (st, vs) => some (st, v :: vs)

inductive Ex where
  | normal | exit (id : Nat) | goto (l : Nat) | ret

abbrev CallF := FuncId → List PV → Heap → Option (PV × Heap × Bool)

/-- Arguments: one of them may keep what it owns. -/
def takeArgs (st : St) (args : List Operand) : Option Nat → Option (St × List PV)
  | none => takeL st args
  | some i => match args[i]? with
    | none => none
    | some x => match takeL st (args.eraseIdx i) with
      | none => none
      | some (st, vs) => match take st x with
        | none => none
        | some (st, v) => match v with
          | .sl g n cs => some (st, vs.insertIdx i (.sl g n cs))
          | _ => none
/-- A value that leans on no memory. -/
def plain1 : PV → Bool
  | .int .. | .bool _ | .str _ | .nilp | .raw _ | .sl _ 0 [] => true
  | _ => false
def plainA : PV → Bool
  | .agg cs => cs.all plain1
  | v => plain1 v
/-- The same, or a new slice of such values. -/
def plain : PV → Bool
  | .tup vs => vs.all plainA
  | .sl (.mu _) _ cs => cs.all plain1
  | v => plainA v
/-- A call. One that writes nothing and answers a plain value leaves everything as it was. -/
def callOp (callF : CallF) (own : Option Nat) (st : St) (f : FuncId) (pre : List PV) (args : List Operand) (dst : Option Nat) : Option St :=
  match takeArgs st args own with
  | none => none
  | some (st1, vs) => match callF f (vs ++ pre) st1.hp with
    | none => none
    | some (r, hp, d) =>
      if own = none ∧ d = false ∧ plain r = true then some (setSlot st dst r)
      else if d = false ∧ plain r = true then some (setSlot st1 dst r)
      else some (setSlot { st1 with hp := hp, dirty := st1.dirty || d, fr := if d then killFr .heaps st1.fr else st1.fr } dst r)

def placeOf (P : Program) (T : TypeId) : Option (Nat → Option (Nat × Nat)) :=
  match P.underlying T with
  | some (.struct fs) => some fun i => (fs[i]?).map fun f => (f.offset, sizeT P f.type)
  | some (.array _ e) => some fun i => some (i * sizeT P e, sizeT P e)
  | _ => none

/-- A struct's parts, moved into its cells one behind the other. -/
def buildL (pl : Nat → Option (Nat × Nat)) (st : St) (cs : List PV) : List (Nat × Operand) → Option (St × List PV)
  | [] => some (st, cs)
  | (i, x) :: r => match pl i, take st x with
    | some (off, size), some (st, v) => if (cellsOf v).length = size ∧ off + size ≤ cs.length ∧ (cellsOf v).all storable = true then buildL pl st (splice cs off (cellsOf v)) r else none
    | _, _ => none

def boxOp (P : Program) (H : Hint) (st : St) (o : Oper) (T : TypeId) (x : Operand) : Option St :=
  match o.dst with
    | some t => if H.box t then (match take { st with fr := drop t st.fr } x with
        | some (st, v) => if (cellsOf v).all storable = true then some { st with fr := (t, .box (cellsOf (retag P T v))) :: st.fr } else none
        | none => none)
      else (match take st x with
        | some (st, v) => if (cellsOf v).all storable = true then some { st with fr := setFr st.fr t (.ptr (.heap st.hp.length) none 0), hp := st.hp ++ [.cells (cellsOf (retag P T v))] } else none
        | none => none)
    | none => none
def buildOp (P : Program) (st : St) (o : Oper) (T : TypeId) (parts : Array (Nat × Operand)) : Option St :=
  match zeroT P T, placeOf P T, o.dst with
    | some z, some pl, some d => match buildL pl { st with fr := drop d st.fr } z parts.toList with
      | some (st, cs) => some { st with fr := (d, .agg cs) :: st.fr }
      | none => none
    | _, _, _ => none

/-- An entry is written. -/
def mapPut (P : Program) (st : St) (T : TypeId) (m k x : Operand) : Option St :=
  match takeL st [x], P.underlying T with
  | some (st', [y]), some (.map K _) => match opv st.fr m, opv st.fr k with
    | .mp i, key => match st'.hp[i]? with
      | some (.map ks vs) =>
        if keyT P K key = true then
          (match findK key ks with
          | some (some j) => some { st' with hp := st'.hp.set i (.map ks (vs.set j y)), dirty := st'.dirty || decide (i < st'.base) }
          | some none => some { st' with hp := st'.hp.set i (.map (ks ++ [key]) (vs ++ [y])), dirty := st'.dirty || decide (i < st'.base) }
          | none => none)
        else none
      | _ => none
    | _, _ => none
  | _, _ => none
def isMu : PV → Bool
  | .sl (.mu _) _ _ => true
  | _ => false
/-- Would a load share what it reads? -/
def shares (P : Program) (st : St) (T : TypeId) (a : Operand) : Bool :=
  match opv st.fr a with
  | .ptr r none off => isAggT P T && (((rootPV st r).kids.drop off).take (sizeT P T)).any isMu
  | _ => false
/-- The mark of a function that sorts rows in place: the closure, how many cells a row has, which of them is the key. -/
def sortsOf : Option Nat → Option (Nat × Nat × Nat)
  | some k => if 10000 ≤ k ∧ k < 1000000000 then some (k / 10000 - 1, k / 100 % 100, k % 100) else none
  | none => none
/-- The mark of a function of the library that has no code. -/
def extsOf : Option Nat → Option Nat
  | some k => if 5000 ≤ k ∧ k < 5100 then some (k - 5000) else none
  | none => none
/-- What it answers: 0: a float of bits; 1: the bits of a float. -/
def extOp (e : Nat) (cap args : List PV) : Option PV :=
  match cap with
  | [] => match e, args with
    | 0, [.int .u64 n] => some (.raw (.float .f64 n.toNat))
    | 1, [.raw (.float .f64 b)] => some (.int .u64 b)
    | _, _ => none
  | _ :: _ => none
/-- The mark of a method of a builder: which one (0: a byte; 1: a text; 2: what it holds), the type of builders, that of bytes. -/
def bldOf : Option Nat → Option (Nat × TypeId × TypeId)
  | some k => if 1000000000 ≤ k then some ((k - 1000000000) % 4, (k - 1000000000) / 4000, (k - 1000000000) / 4 % 1000) else none
  | none => none
def bldOp (st : St) (k : Nat × TypeId × TypeId) (cap : List PV) (args : List Operand) (dst : Option Nat) : Option St :=
  match cap, args with
  | [], x :: xs => (match opv st.fr x with
    | .bp i => (match st.hp[i]? with
      | some (.bld T e bs) =>
        if T = k.2.1 ∧ e = k.2.2 then
          (match k.1, xs.map (opv st.fr) with
          | 0, [.int .u8 c] => if 0 ≤ c ∧ c < 256 ∧ bs.length + 1 ≤ 140737488355328 then
              some (setSlot { st with hp := st.hp.set i (.bld T e (bs ++ [UInt8.ofNat c.toNat])), dirty := st.dirty || decide (i < st.base) } dst (.raw .nilIface)) else none
          | 1, [.str s] => if bs.length + s.length ≤ 140737488355328 then
              some (setSlot { st with hp := st.hp.set i (.bld T e (bs ++ s)), dirty := st.dirty || decide (i < st.base) } dst (.tup [.int .i64 s.length, .raw .nilIface])) else none
          | 2, [] => if 0 < bs.length then some (setSlot { st with hp := st.hp.set i (.bld T e bs), dirty := st.dirty || decide (i < st.base) } dst (.str bs)) else none
          | _, _ => none)
        else none
      | _ => none)
    | _ => none)
  | _, _ => none
def intsOf : List PV → Option (List Int)
  | [] => some []
  | .int .i64 n :: r => match intsOf r with | some l => some (n :: l) | none => none
  | _ => none
def chunk (s : Nat) : Nat → List Int → List (List Int)
  | 0, _ => []
  | n + 1, l => l.take s :: chunk s n (l.drop s)
def keyI (key : Nat) (r : List Int) : Int := r.getD key 0
def insK (key : Nat) (r : List Int) : List (List Int) → List (List Int)
  | [] => [r]
  | x :: xs => if keyI key r ≤ keyI key x then r :: x :: xs else x :: insK key r xs
def sortK (key : Nat) : List (List Int) → List (List Int)
  | [] => []
  | r :: rs => insK key r (sortK key rs)
/-- Rows with keys that are all unlike, sorted in place. -/
def sortOp (st : St) (k : Nat × Nat × Nat) (cap : List PV) (args : List Operand) (dst : Option Nat) : Option St :=
  match cap, args with
  | [], [x, y] => match opv st.fr x, opv st.fr y with
    | .hd r pre, .fn g [] => match nav st r pre with
      | some (.sl (.mu s) n cs) => match intsOf cs with
        | some l => if g = k.1 ∧ s = k.2.1 ∧ k.2.2 < s ∧ cs.length = n * s ∧ n ≤ 1000 ∧ ((chunk s n l).map (keyI k.2.2)).Nodup then
            some (setSlot (put st r pre (.sl (.mu s) n ((sortK k.2.2 (chunk s n l)).flatten.map (.int .i64)))) dst (.tup [])) else none
        | none => none
      | _ => none
    | _, _ => none
  | _, _ => none
def stepOp (P : Program) (H : Hint) (own : FuncId → Option Nat) (callF : CallF) (st : St) (o : Oper) : Option St :=
  match o.op with
  | .assign x => match o.dst with | some t => assign P (preShare H.dies st x) o t x | none => none
  | .store T a x => (store P (preShare H.dies st x) T a x).map fun st => setSlot st o.dst .undef
  | .alloc T => match o.dst, zeroT P T with
    | some t, some z => if H.box t then some { st with fr := (t, .box z) :: drop t st.fr }
        else (match H.bld t with
          | none => some { st with fr := setFr st.fr t (.ptr (.heap st.hp.length) none 0), hp := st.hp ++ [.cells z] }
          | some e => if zeroBld P T = true then some { st with fr := setFr st.fr t (.bp st.hp.length), hp := st.hp ++ [.bld T e []] } else none)
    | _, _ => none
  | .box T x => boxOp P H (preShare H.dies st x) o T x
  | .build T parts => buildOp P (parts.toList.foldl (fun st p => preShare H.dies st p.2) st) o T parts
  | .buildSlice T n parts => match takeL st (parts.toList.map (·.2)), elemT P T with
    | some (st, vs), some e => match zeroT P e with
      | some z => if n * sizeT P e ≤ 16777216 ∧ z.length = sizeT P e then
          (match fillP (fun i => some (i * sizeT P e, sizeT P e)) (List.replicate n (z.map outCell)).flatten (parts.toList.map (·.1)) vs with
           | some cs => some (setSlot st o.dst (.sl (.mu (sizeT P e)) n cs))
           | none => none) else none
      | none => none
    | _, _ => none
  | .slice T x none none none => if o.dst.any H.nest then (match eatBox P st T x with
      | some (st, v) => some (setSlot st o.dst v)
      | none => none) else (stepA P st o).map fun v => setSlot st o.dst v
  | .makeFunc (.func f) first cap => if first.size = 0 then (match takeL st cap.toList with
      | some (st, vs) => some (setSlot st o.dst (.fn f vs))
      | none => none) else none
  | .call c => match c.callee with
    | .builtin .copy => match c.args.toList, c.argTypes.toList with
      | [x, y], [T, _] => match copyOp P st T (opv st.fr x) (opv st.fr y) with
        | some (st, n) => some (setSlot st o.dst (.int .i64 n))
        | none => none
      | _, _ => none
    | .builtin .clear => match c.args.toList, c.argTypes.toList with
      | [x], [T] => (match clearOp P st T (opv st.fr x) with
        | some st => some (setSlot st o.dst (.raw (.tuple #[])))
        | none => none)
      | _, _ => none
    | .builtin .append => match c.args.toList, c.argTypes.toList with
      | [x, y], [T, U] => if (elemT P U).isSome = true then (match (if o.dst.any H.nest then appendNest P st T (opv st.fr x) (opv st.fr y) else appendOp P st T x (opv st.fr y)) with
        | some (st, v) => some (setSlot st o.dst v)
        | none => none) else none
      | _, _ => none
    | .builtin _ => (stepA P st o).map fun v => setSlot st o.dst v
    | .value f => match opv st.fr f with
      | .fn f cap => (match bldOf (own f) with
        | some k => bldOp st k cap c.args.toList o.dst
        | none => match sortsOf (own f) with
          | some k => sortOp st k cap c.args.toList o.dst
          | none => match extsOf (own f) with
            | some e => (extOp e cap (c.args.toList.map (opv st.fr))).map fun v => setSlot st o.dst v
            | none => callOp callF (own f) st f cap c.args.toList o.dst)
      | _ => none
    | _ => none
  | .load T a =>
    let st := match opv st.fr a with
      | .ptr (.slot t) none off => if isAggT P T then shareRange st (.slot t) off (sizeT P T) else st
      | .ptr (.heap i) none off => if shares P st T a = true then shareRange st (.heap i) off (sizeT P T) else st
      | _ => st
    (stepA P st o).map fun v => setSlot st o.dst v
  | .makeSlice .. => match o.dst with | some _ => (stepA P st o).map fun v => setSlot st o.dst v | none => none
  | .lookup T x ix ok => match lookupOp P st T (opv st.fr x) (opv st.fr ix) ok with
    | some v => some (setSlot st o.dst v)
    | none => none
  | .makeMap _ none => match o.dst with
    | some t => some { st with fr := setFr st.fr t (.mp st.hp.length), hp := st.hp ++ [.map [] []] }
    | none => none
  | .mapUpdate T m k x | .insert T m k x => match mapPut P st T m k x with
    | some st => some (setSlot st o.dst .undef)
    | none => none
  | _ => (stepA P st o).map fun v => setSlot st o.dst v

/-- May the operation run? The guard's answer. -/
def wantedP (ops : Array Oper) (fr : Fr) (o : Oper) : Option Bool :=
  match o.guard with
  | none => some true
  | some (j, want) => match (ops[j]?).bind (·.dst) with
    | some t => match get fr t with
      | .bool b => some (b == want)
      | .raw (.tuple _) => some false
      | _ => none
    | none => none

def evalOps (P : Program) (H : Hint) (own : FuncId → Option Nat) (callF : CallF) (ops : Array Oper) : List Oper → St → Option St
  | [], st => some st
  | o :: rest, st => match wantedP ops st.fr o with
    | some true => match stepOp P H own callF st o with
      | some st => evalOps P H own callF ops rest st
      | none => none
    | some false => evalOps P H own callF ops rest (setSlot st o.dst (.raw (.tuple #[])))
    | none => none

/-- A struct that is loaded whole for a call, and the call: one that writes nothing and answers a plain value leaves all as it was ahead of the load. -/
def stepLC (P : Program) (H : Hint) (own : FuncId → Option Nat) (callF : CallF) (st : St) (o1 o2 : Oper) : Option St :=
  match o1.op, o1.dst, o1.guard, o2.op, o2.guard with
  | .load _ _, some t, none, .call c, none => match c.callee with
    | .value fo => match stepOp P H own callF st o1 with
      | none => none
      | some st1 => match opv st1.fr fo with
        | .fn f cap => if own f = none then (match takeArgs st1 c.args.toList none with
          | none => none
          | some (st2, vs) => match callF f (vs ++ cap) st2.hp with
            | some (r, _, false) => if plain r = true then some (setSlot { st with fr := setFr st.fr t .undef } o2.dst r) else none
            | _ => none) else none
        | _ => none
    | _ => none
  | _, _, _, _, _ => none
def evalOpsL (P : Program) (H : Hint) (own : FuncId → Option Nat) (callF : CallF) (ops : Array Oper) (k : Nat) (l : List Oper) (st : St) : Option St :=
  match evalOps P H own callF ops (l.take k) st with
  | none => none
  | some st => match l.drop k with
    | o1 :: o2 :: rest => match stepLC P H own callF st o1 o2 with
      | none => none
      | some st => evalOps P H own callF ops rest st
    | _ => none

def rooty : PV → Bool
  | .sl (.mu _) _ _ | .sl (.ow _) _ _ | .box _ | .agg _ => true
  | _ => false

def refOf : PV → Option (Root × Option Nat)
  | .ptr r pre _ | .hd r pre | .vw r pre _ _ _ => some (r, pre)
  | _ => none


/-- Regions that ask for their order: whose memory an operation turns: nobody's, the heap's, a variable's. -/
inductive Wk where
  | none
  | heap
  | slot (s : Nat)
  deriving DecidableEq
/-- What an operation that is not ordered against all others may do. 'pure n F': it writes its slot alone, and looks at the slots F; n = 0: whatever the heap is; n = 1: it looks at objects; n = 2: it leans on the whole heap. 'heavy k': it turns k. -/
inductive Cl where
  | pure (n : Nat) (F : List Nat)
  | heavy (k : Wk)
def refH (v : PV) : Bool := match refOf v with | some (.heap _, _) => true | _ => false
def viewH (v : PV) : Bool := match refOf v with | some (.heap _, some _) => true | _ => false
/-- To take it leaves everything as it is. -/
def okV (st : St) : PV → Bool
  | .sl .sh _ _ | .sl .fr _ _ => true
  | .sl .. | .box _ | .undef => false
  | .agg cs => cs.all lasting
  | .hd r pre => (match navS st r pre with | some (.ow _, _, _) => true | _ => false)
  | .vw r pre _ _ _ => (match navS st r pre with | some (.ow _, _, _) => true | _ => false)
  | _ => true
def okOp (st : St) (x : Operand) : Bool :=
  match x with
  | .tmp _ => okV st (opv st.fr x)
  | .const _ | .func _ => true
  | .global _ => false
/-- The same, or a slice of the temporary's own. -/
def okArgs (st : St) : List Operand → Bool
  | [] => true
  | x :: xs => match x, opv st.fr x with
    | .tmp t, .sl (.mu _) _ _ | .tmp t, .sl (.ow _) _ _ => okArgs { st with fr := drop t st.fr } xs
    | _, _ => okOp st x && okArgs st xs
def known : PV → Bool
  | .undef => false
  | _ => true
def idle (st : St) (o : Oper) : Bool := match o.dst with | some d => !rooty (get st.fr d) | none => true
def plainOp : Op → Bool
  | .move _ | .pick .. | .nilCheck _ | .fieldAddr .. | .field .. | .extract .. | .binOp .. | .unOp .. | .assign _ => true
  | _ => false
/-- How far it looks into the heap. -/
def touch (op : Op) (v : PV) : Bool := if plainOp op then viewH v else refH v
def depth (ops : Array Oper) (st : St) (o : Oper) (v : PV) : Nat :=
  if viewH v || (o.looksAt ops).any (fun t => touch o.op (get st.fr t)) then 1 else 0
def rootS (v : PV) : List Nat := match refOf v with | some (.slot s, _) => [s] | _ => []
/-- The slots that it looks at, and those that its answer shows. -/
def foot (ops : Array Oper) (st : St) (o : Oper) (v : PV) : List Nat :=
  (o.looksAt ops).flatMap (fun t => t :: rootS (get st.fr t)) ++ rootS v ++ o.dst.toList
section steps
variable (P : Program) (H : Hint) (own : FuncId → Option Nat) (callF : CallF) (ops : Array Oper) (st : St) (o : Oper)
def dPure (v : PV) : St × Cl := (setSlot st o.dst v, .pure (depth ops st o v) (foot ops st o v))
def dA : Option (St × Cl) := match stepA P st o with
  | some v => some (dPure ops st o v)
  | none => none
def dStore (T : TypeId) (a x : Operand) : Option (St × Cl) :=
  if okOp st x = true ∧ o.dst = none then
    (match store P st T a x with
    | some st' => (match opv st.fr a with
      | .ptr (.slot s) _ _ => some (st', .heavy (.slot s))
      | _ => some (st', .heavy .heap))
    | none => none)
  else none
def isView : PV → Bool
  | .hd .. | .vw .. => true
  | _ => false
def dAssign (x : Operand) : Option (St × Cl) :=
  if okOp st x = true ∧ o.dst.isSome = true then
    (match take st x with
    | some (_, v) => if isView v = true then none else some (dPure ops st o (retag P o.type v))
    | none => none)
  else none
/-- A slice of a temporary's own is moved. -/
def dMoveOwn (x : Operand) : Option (St × Cl) :=
  match x with
  | .tmp t => (match get st.fr t with
    | .sl (.mu s) m cs => if o.dst.isSome = true then some (setSlot { st with fr := drop t st.fr } o.dst (retag P o.type (.sl (.mu s) m cs)), .heavy (.slot t)) else none
    | _ => none)
  | _ => none
def ownOp (x : Operand) : Bool := match x with
  | .tmp t => isMu (get st.fr t)
  | _ => false
/-- A new object in the heap. -/
def dBox (T : TypeId) (x : Operand) : Option (St × Cl) :=
  match o.dst with
  | some d =>
    if H.box d = false ∧ okOp st x = true then
      (match take st x with
      | some (_, v) => if (cellsOf v).all storable = true then
          some (setSlot { st with hp := st.hp ++ [.cells (cellsOf (retag P T v))] } o.dst (.ptr (.heap st.hp.length) none 0), .heavy .none) else none
      | none => none)
    else none
  | none => none
def dAlloc (T : TypeId) : Option (St × Cl) :=
  match o.dst, zeroT P T with
  | some t, some z => if H.box t = true then some ({ st with fr := (t, .box z) :: drop t st.fr }, .pure 0 (foot ops st o (.box z))) else none
  | _, _ => none
def dBuild (T : TypeId) (parts : Array (Nat × Operand)) : Option (St × Cl) :=
  match zeroT P T, placeOf P T, o.dst with
  | some z, some pl, some d =>
    if parts.toList.all (fun p => okOp st p.2) = true ∧ parts.toList.all (fun p => okOp { st with fr := drop d st.fr } p.2) = true then
      (match buildL pl { st with fr := drop d st.fr } z parts.toList with
      | some (_, cs) => some ({ st with fr := (d, .agg cs) :: drop d st.fr }, .pure (depth ops st o (.agg cs)) (foot ops st o (.agg cs)))
      | none => none)
    else none
  | _, _, _ => none
def dSlice (T : TypeId) (n : Nat) (parts : Array (Nat × Operand)) : Option (St × Cl) :=
  if (parts.toList.map (·.2)).all (okOp st) = true then
    (match takeL st (parts.toList.map (·.2)), elemT P T with
    | some (_, vs), some e => (match zeroT P e with
      | some z => if n * sizeT P e ≤ 16777216 ∧ z.length = sizeT P e then
          (match fillP (fun i => some (i * sizeT P e, sizeT P e)) (List.replicate n (z.map outCell)).flatten (parts.toList.map (·.1)) vs with
           | some cs => some (dPure ops st o (.sl (.mu (sizeT P e)) n cs))
           | none => none) else none
      | none => none)
    | _, _ => none)
  else none
/-- A slice of one element that is a slice of a temporary's own: it is moved. -/
def ownPart (parts : Array (Nat × Operand)) : Bool := match parts.toList with
  | [(_, .tmp t)] => isMu (get st.fr t)
  | _ => false
def dSlice1 (T : TypeId) (n : Nat) (parts : Array (Nat × Operand)) : Option (St × Cl) :=
  match parts.toList with
  | [(j, .tmp t)] => (match get st.fr t, elemT P T with
    | .sl (.mu _) m cs, some e => (match zeroT P e with
      | some z => if n * sizeT P e ≤ 16777216 ∧ z.length = sizeT P e ∧ n = 1 then
          (match fillP (fun i => some (i * sizeT P e, sizeT P e)) (List.replicate n (z.map outCell)).flatten [j] [.sl .sh m cs] with
           | some ds => some (setSlot { st with fr := drop t st.fr } o.dst (.sl (.mu (sizeT P e)) n ds), .heavy (.slot t))
           | none => none) else none
      | none => none)
    | _, _ => none)
  | _ => none
def dLoad (T : TypeId) (a : Operand) : Option (St × Cl) := if shares P st T a = true then none else dA P ops st o
def dCall (f : FuncId) (cap : List PV) (args : List Operand) : Option (St × Cl) :=
  if own f = none ∧ okArgs st args = true then
    (match takeL st args with
    | none => none
    | some (_, vs) => (match callF f (vs ++ cap) st.hp with
      | none => none
      | some (r, hp, d) =>
        if d = false ∧ plain r = true then some (setSlot st o.dst r, .pure 2 (foot ops st o r))
        else if args.all (okOp st) = true then
          some (setSlot { st with hp := hp, dirty := st.dirty || d, fr := if d then killFr .heaps st.fr else st.fr } o.dst r, .heavy (if d then .heap else .none))
        else none))
  else none
/-- A call that takes over its first argument. -/
def dCallO (f : FuncId) (cap : List PV) (args : List Operand) : Option (St × Cl) :=
  match args with
  | .tmp t :: xs => (match get st.fr t with
    | .sl (.mu s) m cs =>
      if xs.all (okOp st) = true then
        (match takeL st xs with
        | none => none
        | some (_, vs) => (match callF f ((.sl (.mu s) m cs :: vs) ++ cap) st.hp with
          | some (r, _, false) => if plain r = true then some (setSlot { st with fr := drop t st.fr } o.dst r, .heavy (.slot t)) else none
          | _ => none))
      else none
    | _ => none)
  | .const u :: xs => (match ofConst u with
    | .sl (.mu 0) 0 [] =>
      if xs.all (okOp st) = true then
        (match takeL st xs with
        | none => none
        | some (_, vs) => (match callF f ((.sl (.mu 0) 0 [] :: vs) ++ cap) st.hp with
          | some (r, _, false) => if plain r = true then some (setSlot st o.dst r, .pure 2 (foot ops st o r)) else none
          | _ => none))
      else none
    | _ => none)
  | _ => none
def dCallX (f : FuncId) (cap : List PV) (args : List Operand) : Option (St × Cl) :=
  if own f = some 0 then dCallO callF ops st o f cap args else dCall own callF ops st o f cap args
/-- Whose slice an append moves. -/
def appAt (st : St) (x : Operand) : Option (Root × Option Nat) := match opv st.fr x with
  | .hd r pre => some (r, pre)
  | .sl (.mu _) _ _ => (match x with | .tmp t => some (.slot t, none) | _ => none)
  | .sl (.ow _) _ _ => (match x with | .tmp t => some (.slot t, none) | _ => none)
  | _ => none
def dNest (T U : TypeId) (x y : Operand) : Option (St × Cl) :=
  if (elemT P U).isSome = true then
    (match appendNest P st T (opv st.fr x) (opv st.fr y) with
    | some (st', v) => some (setSlot st' o.dst v, .heavy .none)
    | none => none)
  else none
def dAppend (T U : TypeId) (x y : Operand) : Option (St × Cl) :=
  if (elemT P U).isSome = true then
    (match appendOp P st T x (opv st.fr y) with
    | some (st', v) => (match appAt st x with
      | some (.slot s, _) => some (setSlot st' o.dst v, .heavy (.slot s))
      | some (.heap _, _) => some (setSlot st' o.dst v, .heavy .heap)
      | none => none)
    | none => none)
  else none
def dLookup (T : TypeId) (x ix : Operand) (ok : Bool) : Option (St × Cl) :=
  match lookupOp P st T (opv st.fr x) (opv st.fr ix) ok with
  | some v => some (setSlot st o.dst v, .pure 2 (foot ops st o v))
  | none => none
def dMake : Option (St × Cl) := if o.dst.isSome = true then dA P ops st o else none
def stepD1 : Option (St × Cl) :=
  match o.op with
  | .makeFunc .. => none
  | .box T x => dBox P H st o T x
  | .makeSlice .. => dMake P ops st o
  | .lookup T x ix ok => dLookup P ops st o T x ix ok
  | .store T a x => dStore P st o T a x
  | .assign x => if ownOp st x = true then dMoveOwn P st o x else dAssign P ops st o x
  | .alloc T => dAlloc P H ops st o T
  | .build T parts => dBuild P ops st o T parts
  | .buildSlice T n parts => if ownPart st parts = true then dSlice1 P st o T n parts else dSlice P ops st o T n parts
  | .load T a => dLoad P ops st o T a
  | .slice T x none none none => if o.dst.any H.nest then none else dA P ops st o
  | .call c => (match c.callee with
    | .value f => (match opv st.fr f with
      | .fn f cap => dCallX own callF ops st o f cap c.args.toList
      | _ => none)
    | .builtin .append => (match c.args.toList, c.argTypes.toList with
      | [x, y], [T, U] => if o.dst.any H.nest then dNest P st o T U x y else dAppend P st o T U x y
      | _, _ => none)
    | .builtin .copy => none
    | .builtin .clear => none
    | .builtin _ => dA P ops st o
    | _ => none)
  | _ => dA P ops st o
def stepD : Option (St × Cl) :=
  if idle st o = true ∧ ((o.looksAt ops).all fun t => known (get st.fr t)) = true then stepD1 P H own callF ops st o else none
end steps

/-- A step with its guard. -/
def gD (P : Program) (H : Hint) (own : FuncId → Option Nat) (callF : CallF) (ops : Array Oper) (st : St) (o : Oper) : Option (St × Cl) :=
  match wantedP ops st.fr o with
  | some true => stepD P H own callF ops st o
  | some false => if idle st o = true then some (setSlot st o.dst (.raw (.tuple #[])), .pure 0 (o.looksAt ops ++ o.dst.toList)) else none
  | none => none
def gS (P : Program) (H : Hint) (own : FuncId → Option Nat) (callF : CallF) (ops : Array Oper) (st : St) (o : Oper) : Option St :=
  match wantedP ops st.fr o with
  | some true => stepOp P H own callF st o
  | some false => some (setSlot st o.dst (.raw (.tuple #[])))
  | none => none
def clash : Cl → Cl → Bool
  | .pure n F, .heavy k | .heavy k, .pure n F => (match k with
    | .none => decide (2 ≤ n)
    | .heap => decide (1 ≤ n)
    | .slot s => F.contains s)
  | .heavy _, .heavy _ => true
  | _, _ => false
def clOf (cls : List (Nat × Cl)) (i : Nat) : Cl := match cls.find? (fun e => e.1 == i) with | some e => e.2 | none => .pure 2 []
def evalD (P : Program) (H : Hint) (own : FuncId → Option Nat) (callF : CallF) (ops : Array Oper) (free : List Nat) : Nat → List Oper → List (Nat × Cl) → St → Option (St × List (Nat × Cl))
  | _, [], cls, st => some (st, cls)
  | i, o :: rest, cls, st =>
    if free.contains i = true then (match gD P H own callF ops st o with
      | some (st, c) => evalD P H own callF ops free (i + 1) rest ((i, c) :: cls) st
      | none => none)
    else (match gS P H own callF ops st o with
      | some st => evalD P H own callF ops free (i + 1) rest cls st
      | none => none)
/-- A region whose order is open: in the order of the text, where it plays no part. -/
def evalDraw (P : Program) (H : Hint) (own : FuncId → Option Nat) (callF : CallF) (id : Nat) (ops : Array Oper) (st : St) : Option St :=
  match evalD P H own callF ops (H.free id) 0 ops.toList [] st with
  | some (st, cls) => if (H.pairs id).all (fun p => !clash (clOf cls p.1) (clOf cls p.2)) then some st else none
  | none => none

/-- Which operations an operation waits for; all that come before it, as bits. -/
def directs (o : Oper) : List Nat := (o.after.toList.filter (Region.binds .any)).map (·.on)
def maskOf (acc : List Nat) (o : Oper) : Nat := (directs o).foldl (fun m p => m ||| 2 ^ p ||| acc.getD p 0) 0
def masks (ops : List Oper) : List Nat := ops.foldl (fun acc o => acc ++ [maskOf acc o]) []
def heavyKind (o : Oper) : Bool := match o.op with
  | .store .. => true
  | .box .. => true
  | .assign x => (match x with | .tmp _ => true | _ => false)
  | .buildSlice _ n _ => n == 1
  | .call c => (match c.callee with | .value _ => true | .builtin .append => true | _ => false)
  | _ => false
def pairChk (ops : Array Oper) (free : List Nat) (pairs : List (Nat × Nat)) (ms : List Nat) (i j : Nat) (oj : Oper) : Bool :=
  (ms.getD j 0).testBit i || (match ops[i]? with
    | some oi => free.contains i && free.contains j && Oper.apart ops oi oj && ((!heavyKind oi && !heavyKind oj) || pairs.contains (i, j))
    | none => false)
def drawChk (ops : Array Oper) (free : List Nat) (pairs : List (Nat × Nat)) : Bool :=
  let ms := masks ops.toList
  (List.range ops.size).all fun j => match ops[j]? with
    | none => true
    | some oj => (directs oj).all (fun p => decide (p < j)) && (List.range j).all fun i => pairChk ops free pairs ms i j oj

/-- What is kept of a frame. -/
def keepRef (keep : List Nat) : PV → PV
  | .ptr (.slot t) pre off => if keep.contains t then .ptr (.slot t) pre off else .undef
  | .hd (.slot t) pre => if keep.contains t then .hd (.slot t) pre else .undef
  | .vw (.slot t) pre off sz n => if keep.contains t then .vw (.slot t) pre off sz n else .undef
  | v => v
def canon (keep : List Nat) (st : St) : St :=
  { st with fr := keep.map fun t => (t, keepRef keep (get st.fr t)) }

/-- Slices that are shared from here on. -/
def soft1 (st : St) (p : Nat × Option Nat) : St := match shareAt st (.slot p.1) p.2 with
  | some (st, _) => st
  | none => st
def softAll (ps : List (Nat × Option Nat)) (st : St) : St := ps.foldl soft1 st

def firstReg : Code → Nat
  | .region id _ _ => id
  | .seq a _ => firstReg a
  | .cond _ a _ => firstReg a
  | .block _ c | .loop c | .scope c => firstReg c
  | _ => 0

def iter (body : St → Option (Ex × St)) : Nat → St → Option (Ex × St)
  | 0, _ => none
  | n + 1, st => match body st with
    | some (.normal, st) => iter body n st
    | r => r

def hasLabel (l : Nat) : Code → Bool
  | .seq a b => hasLabel l a || hasLabel l b
  | .label l' => l' == l
  | _ => false

/-- A scope: a jump inside it starts it anew from a label. -/
def scopeIter (f : Option Nat → St → Option (Ex × St)) (has : Nat → Bool) (head : Nat → List Nat) : Nat → Option Nat → St → Option (Ex × St)
  | 0, _, _ => none
  | n + 1, j, st => match f j st with
    | some (.goto l, st) => if has l then scopeIter f has head n (some l) (canon (head (1000 + l)) st) else some (.goto l, st)
    | r => r

def evalCode (P : Program) (H : Hint) (own : FuncId → Option Nat) (callF : CallF) (n : Nat) : Code → Option Nat → St → Option (Ex × St)
  | .seq a b, none, st => match evalCode P H own callF n a none st with
    | some (.normal, st) => evalCode P H own callF n b none st
    | r => r
  | .seq a b, some l, st =>
    if hasLabel l a then (match evalCode P H own callF n a (some l) st with
      | some (.normal, st) => evalCode P H own callF n b none st
      | r => r)
    else evalCode P H own callF n b (some l) st
  | .label l', j, st => match j with
    | some l => if l' = l then some (.normal, st) else none
    | none => some (.normal, st)
  | _, some _, _ => none
  | .skip, none, st => some (.normal, st)
  | .region id ops dr, none, st => match (if dr then evalDraw P H own callF id ops st else match H.lazy id with | none => evalOps P H own callF ops ops.toList st | some k => evalOpsL P H own callF ops k ops.toList st) with
    | some st => some (.normal, canon (H.keep id) (softAll (H.soft id) st))
    | none => none
  | .cond c a b, none, st => match opv st.fr c with
    | .bool true => evalCode P H own callF n a none st
    | .bool false => evalCode P H own callF n b none st
    | _ => none
  | .block id b, none, st => match evalCode P H own callF n b none st with
    | some (.exit id', st) => if id' = id then some (.normal, st) else some (.exit id', st)
    | r => r
  | .loop b, none, st => iter (fun st => evalCode P H own callF n b none (canon (H.head (firstReg b)) st)) n st
  | .scope b, none, st => scopeIter (evalCode P H own callF n b) (fun l => hasLabel l b) H.head n none st
  | .exit id, none, st => some (.exit id, st)
  | .goto l, none, st => some (.goto l, st)
  | .ret, none, st => some (.ret, st)
  | _, none, _ => none

/-- A result is handed back; one that lies in a local variable is taken out of it. -/
def takeRes (P : Program) (st : St) : ResultVar → Option (St × PV)
  | .tmp t => takeOut st (.tmp t)
  | .cell a T => match get st.fr a with
    | .box cs => if cs.length = sizeT P T ∧ cs.all storable = true ∧ (P.underlying T).isSome = true then
        (if isAggT P T then some ({ st with fr := drop a st.fr }, .agg (cs.map outCell))
         else match cs with | [c] => some ({ st with fr := drop a st.fr }, outCell c) | _ => none) else none
    | _ => none
def takeMany (P : Program) (st : St) : List ResultVar → Option (St × List PV)
  | [] => some (st, [])
  | x :: xs => match takeRes P st x with
    | none => none
    | some (st, v) => match takeMany P st xs with
      | none => none
      | some (st, vs) => some (st, v :: vs)
/-- What a call answers. -/
def takeRs (P : Program) (st : St) : List ResultVar → Option (St × PV)
  | [.tmp t] => match get st.fr t with
    | .sl g n cs => some ({ st with fr := drop t st.fr }, .sl g n cs)
    | _ => takeOut st (.tmp t)
  | [x] => takeRes P st x
  | xs => match takeMany P st xs with
    | some (st, vs) => some (st, .tup vs)
    | none => none

/-- A text's pieces between marks. -/
def splitL (c : UInt8) : List UInt8 → List (List UInt8)
  | [] => [[]]
  | b :: l => if b == c then [] :: splitL c l else (match splitL c l with
    | [] => [[b]]
    | w :: r => (b :: w) :: r)
def strsOf : List PV → Option (List (List UInt8))
  | [] => some []
  | .str s :: r => match strsOf r with | some l => some (s :: l) | none => none
  | _ => none
/-- Functions of the library that are known by themselves. -/
def primCall (k : Nat × Nat) (args : List PV) (hp : Heap) : Option (PV × Heap × Bool) :=
  match k, args with
  | (1, s), [.sl .sh n cs] => if n ≤ 4194304 ∧ cs.length = n * s ∧ cs.all storable = true then some (.sl (.mu s) n (cs.map outNil), hp, false) else none
  | (2, b), [] => some (.bool (b == 1), hp, false)
  | (3, _), [.str s, .str [c]] => if s.length ≤ 4000000000 then some (.sl (.mu 1) (splitL c s).length ((splitL c s).map .str), hp, false) else none
  | (4, _), [.sl .sh n cs, .str sep] => (match strsOf cs with
    | some xs => if xs.length = n ∧ 0 < n ∧ n ≤ 140737488355328 ∧ (Lib.join xs sep).length ≤ 140737488355328 then some (.str (Lib.join xs sep), hp, false) else none
    | none => none)
  | (5, _), [.int .i64 n] => if 0 ≤ n ∧ n ≤ 9223372036854775807 then some (.str (Lib.decDigits n.toNat), hp, false) else none
  | (6, _), [.str s, .int .u8 c] => some (.int .i64 (Lib.indexByte s c.toNat.toUInt8), hp, false)
  | _, _ => none

def evalCall (P : Program) (H : FuncId → Hint) : Nat → CallF
  | 0, _, _, _ => none
  | n + 1, f, args, hp => match (H f).prim with
    | some k => primCall k args hp
    | none => match P.funcs[f]? with
    | none => none
    | some fn => match fn.body with
      | some body => if fn.ntmps < args.length then none else
        (match evalCode P (H f) (fun f => (H f).own) (evalCall P H n) n body none { fr := args.zipIdx.map (fun (v, i) => (i, v)), hp := hp, base := hp.length, dirty := false } with
        | some (.normal, st) | some (.ret, st) => (match takeRs P st fn.results.toList with
          | some (st, v) => some (v, st.hp, st.dirty)
          | none => none)
        | _ => none)
      | none => none

end Go.PS
end

section
/-
  The pure evaluator and the model: when a value, a frame and a heap of the one stand for those of the other.
-/
namespace Go.PS

inductive Key where
  | obj (i : Nat)
  | box (t : Nat)
  | st (r : Root) (pre : Option Nat)
  | froz
  | frg
  deriving DecidableEq

structure G where
  loc : Root → Option Nat → Nat × Nat
  own : Nat → Option Key
  imm : Nat → Nat → Prop
  cap : Nat → Nat

def atomic : Value → Bool
  | .float .. | .complex .. | .nilFunc | .nilIface | .map none | .chan none => true
  | .tuple cs => cs.size == 0
  | _ => false

/-- A value that stays as it is, whatever is written. -/
inductive V (g : G) (w : World) (hn : Nat) : Value → PV → Prop where
  | undef (v) : V g w hn v .undef
  | int (k n) : V g w hn (.int k n) (.int k n)
  | bool (b) : V g w hn (.bool b) (.bool b)
  | str (s : ByteArray) : V g w hn (.string s) (.str s.data.toList)
  | raw (v) (h : atomic v = true) : V g w hn v (.raw v)
  | nilp : V g w hn (.pointer none) .nilp
  | ptr (i off b) (hi : i < hn ∧ g.cap i = 0) (hl : g.loc (.heap i) none = (b, 0)) : V g w hn (.pointer (some ⟨b, off, none⟩)) (.ptr (.heap i) none off)
  | sl0 (a tg) : V g w hn (.slice a 0 0) (.sl tg 0 [])
  | sh0 (a cap) : V g w hn (.slice a 0 cap) (.sl .sh 0 [])
  | sl (tg b o n cap cs) (f : Nat → Value) (htg : tg = .sh ∨ tg = .fr ∧ cap = n) (hle : n ≤ cap)
      (hc : ∀ j y, cs[j]? = some y → g.imm b (o + j) ∧ w.cell? ⟨b, o + j, none⟩ = some (f j)) (hv : ∀ j y, cs[j]? = some y → V g w hn (f j) y) :
      V g w hn (.slice (some ⟨b, o, none⟩) n cap) (.sl tg n cs)
  | fn (f) (cv : Array Value) (cap) (hs : cv.size = cap.length) (hv : ∀ (j : Nat) (v : Value) (y : PV), cv[j]? = some v → cap[j]? = some y → V g w hn v y) :
      V g w hn (.func (.func f) #[] cv) (.fn f cap)
  | agg (vs : Array Value) (cs) (hs : vs.size = cs.length) (hv : ∀ (j : Nat) (v : Value) (y : PV), vs[j]? = some v → cs[j]? = some y → V g w hn v y) : V g w hn (.agg vs) (.agg cs)
  | mp (i b) (hi : i < hn) (hl : g.loc (.heap i) none = (b, 0)) : V g w hn (.map (some b)) (.mp i)
  | bp (i b) (hi : i < hn) (hl : g.loc (.heap i) none = (b, 0)) : V g w hn (.pointer (some ⟨b, 0, none⟩)) (.bp i)
  | rf (i b o n cap cs) (f : Nat → Value) (hi : i < hn) (hl : g.loc (.heap i) none = (b, o)) (hcap : g.cap i = cap) (hle : n ≤ cap) (h0 : 0 < n)
      (hc : ∀ j y, cs[j]? = some y → g.imm b (o + j) ∧ w.cell? ⟨b, o + j, none⟩ = some (f j)) (hv : ∀ j y, cs[j]? = some y → V g w hn (f j) y) :
      V g w hn (.slice (some ⟨b, o, none⟩) n cap) (.rf i n cs)

/-- Nothing that a lasting value leans on turns. -/
structure Ext0 (g : G) (w : World) (hn : Nat) (g' : G) (w' : World) (hn' : Nat) : Prop where
  imm : ∀ b o, g.imm b o → g'.imm b o ∧ w'.cell? ⟨b, o, none⟩ = w.cell? ⟨b, o, none⟩
  loc : ∀ i, i < hn → g'.loc (.heap i) none = g.loc (.heap i) none
  cap : ∀ i, i < hn → g'.cap i = g.cap i
  hn : hn ≤ hn'

theorem Ext0.refl (g : G) (w : World) (hn : Nat) : Ext0 g w hn g w hn := ⟨fun _ _ h => ⟨h, rfl⟩, fun _ _ => rfl, fun _ _ => rfl, Nat.le_refl _⟩
theorem Ext0.trans {g g1 g2 : G} {w w1 w2 : World} {n n1 n2 : Nat} (h : Ext0 g w n g1 w1 n1) (h' : Ext0 g1 w1 n1 g2 w2 n2) : Ext0 g w n g2 w2 n2 :=
  ⟨fun b o hi => ⟨(h'.imm b o (h.imm b o hi).1).1, ((h'.imm b o (h.imm b o hi).1).2).trans (h.imm b o hi).2⟩,
   fun i hi => (h'.loc i (Nat.lt_of_lt_of_le hi h.hn)).trans (h.loc i hi), fun i hi => (h'.cap i (Nat.lt_of_lt_of_le hi h.hn)).trans (h.cap i hi), Nat.le_trans h.hn h'.hn⟩

theorem V.mono {g g' : G} {w w' : World} {hn hn' : Nat} (e : Ext0 g w hn g' w' hn') {v : Value} {x : PV} (h : V g w hn v x) : V g' w' hn' v x := by
  induction h with
  | undef v => exact .undef v
  | int k n => exact .int k n
  | bool b => exact .bool b
  | str s => exact .str s
  | raw v h => exact .raw v h
  | nilp => exact .nilp
  | ptr i off b hi hl => exact .ptr i off b ⟨Nat.lt_of_lt_of_le hi.1 e.hn, (e.cap i hi.1).trans hi.2⟩ ((e.loc i hi.1).trans hl)
  | sl0 a tg => exact .sl0 a tg
  | sh0 a cap => exact .sh0 a cap
  | sl tg b o n cap cs f htg hle hc hv ih =>
    exact .sl tg b o n cap cs f htg hle (fun j y hj => ⟨(e.imm _ _ (hc j y hj).1).1, ((e.imm _ _ (hc j y hj).1).2).trans (hc j y hj).2⟩) ih
  | fn f cv cap hs hv ih => exact .fn f cv cap hs ih
  | agg vs cs hs hv ih => exact .agg vs cs hs ih
  | mp i b hi hl => exact .mp i b (Nat.lt_of_lt_of_le hi e.hn) ((e.loc i hi).trans hl)
  | bp i b hi hl => exact .bp i b (Nat.lt_of_lt_of_le hi e.hn) ((e.loc i hi).trans hl)
  | rf i b o n cap cs f hi hl hcap hle h0 hc hv ih =>
    exact .rf i b o n cap cs f (Nat.lt_of_lt_of_le hi e.hn) ((e.loc i hi).trans hl) ((e.cap i hi).trans hcap) hle h0 (fun j y hj => ⟨(e.imm _ _ (hc j y hj).1).1, ((e.imm _ _ (hc j y hj).1).2).trans (hc j y hj).2⟩) ih

/-- Cells that read, from a place on. -/
def Cells (g : G) (w : World) (hn : Nat) (b o : Nat) (cs : List PV) : Prop :=
  ∀ j y, cs[j]? = some y → ∃ v, w.cell? ⟨b, o + j, none⟩ = some v ∧ V g w hn v y
def ImmC (g : G) (b o n : Nat) : Prop := ∀ j, j < n → g.imm b (o + j)

theorem lt_of_some {α : Type} {l : List α} {j : Nat} {y : α} (h : l[j]? = some y) : j < l.length := by
  rcases Nat.lt_or_ge j l.length with h' | h'
  · exact h'
  · simp [List.getElem?_eq_none h'] at h

theorem V.sl_of {g : G} {w : World} {hn : Nat} {tg : Tag} {b o n cap : Nat} {cs : List PV} (htg : tg = .sh ∨ tg = .fr ∧ cap = n) (hle : n ≤ cap)
    (hi : ImmC g b o cs.length) (hc : Cells g w hn b o cs) : V g w hn (.slice (some ⟨b, o, none⟩) n cap) (.sl tg n cs) := by
  have hf : ∀ j, ∃ v, ∀ y, cs[j]? = some y → w.cell? ⟨b, o + j, none⟩ = some v ∧ V g w hn v y := by
    intro j
    cases hj : cs[j]? with
    | none => exact ⟨Go.undef, fun y h => by cases h⟩
    | some y =>
      obtain ⟨v, h1, h2⟩ := hc j y hj
      exact ⟨v, fun y' h => by cases h; exact ⟨h1, h2⟩⟩
  exact .sl tg b o n cap cs (fun j => (hf j).choose) htg hle (fun j y hj => ⟨hi j (lt_of_some hj), ((hf j).choose_spec y hj).1⟩) (fun j y hj => ((hf j).choose_spec y hj).2)

theorem Cells.mono {g g' : G} {w w' : World} {hn hn' : Nat} (e : Ext0 g w hn g' w' hn') {b o : Nat} {cs : List PV} (h : Cells g w hn b o cs)
    (hs : ∀ j, j < cs.length → w'.cell? ⟨b, o + j, none⟩ = w.cell? ⟨b, o + j, none⟩) : Cells g' w' hn' b o cs := fun j y hj => by
  obtain ⟨v, h1, h2⟩ := h j y hj
  exact ⟨v, (hs j (lt_of_some hj)).trans h1, h2.mono e⟩

/-- A value at a place of its own: a lasting one, or a slice whose storage the place owns. -/
inductive L (g : G) (w : World) (hn : Nat) (r : Root) (pre : Option Nat) : Value → PV → Prop where
  | of {v x} (h : V g w hn v x) : L g w hn r pre v x
  | mu {b o n cap sz cs} (how : g.own b = some (.st r pre)) (hl : g.loc r pre = (b, o)) (hle : n ≤ cap) (hlen : cs.length = n * sz)
      (room : ∀ j, j < cap * sz → (w.cell? ⟨b, o + j, none⟩).isSome = true ∧ w.frozen? ⟨b, o + j, none⟩ = false) (hi : ∀ j, ¬ g.imm b j)
      (hc : Cells g w hn b o cs) (h0 : 0 < n ∨ 0 < sz := by assumption) : L g w hn r pre (.slice (some ⟨b, o, none⟩) n cap) (.sl (.mu sz) n cs)
  | ow {b o n cap sz cs} (how : g.own b = some (.st r pre)) (hl : g.loc r pre = (b, o)) (hle : n ≤ cap) (hlen : cs.length = n * sz)
      (room : ∀ j, j < cap * sz → (w.cell? ⟨b, o + j, none⟩).isSome = true ∧ w.frozen? ⟨b, o + j, none⟩ = false) (hi : ImmC g b o cs.length)
      (hx : ∀ j, g.imm b j → j < o + cs.length) (hc : Cells g w hn b o cs) (h0 : 0 < n ∨ 0 < sz := by assumption) : L g w hn r pre (.slice (some ⟨b, o, none⟩) n cap) (.sl (.ow sz) n cs)
  | full {b o n sz cs} (hl : g.loc r pre = (b, o)) (hi : ImmC g b o cs.length) (hc : Cells g w hn b o cs) :
      L g w hn r pre (.slice (some ⟨b, o, none⟩) n n) (.sl (.ow sz) n cs)

/-- One block is as it was, but for the cells D. -/
structure SameB (D : Nat → Nat → Prop) (g : G) (w : World) (g' : G) (w' : World) (b : Nat) : Prop where
  own : g'.own b = g.own b
  imm : ∀ j, g'.imm b j ↔ g.imm b j
  cell : ∀ j, ¬ D b j → w'.cell? ⟨b, j, none⟩ = w.cell? ⟨b, j, none⟩
  there : ∀ j, (w'.cell? ⟨b, j, none⟩).isSome = (w.cell? ⟨b, j, none⟩).isSome
  frozen : ∀ j, w'.frozen? ⟨b, j, none⟩ = w.frozen? ⟨b, j, none⟩

theorem Cells.monoD {D : Nat → Nat → Prop} {g g' : G} {w w' : World} {hn hn' : Nat} (e : Ext0 g w hn g' w' hn') {b o : Nat} {cs : List PV} (s : SameB D g w g' w' b)
    (hD : ∀ j y, cs[j]? = some y → y ≠ .undef → ¬ D b (o + j)) (h : Cells g w hn b o cs) : Cells g' w' hn' b o cs := fun j y hj => by
  obtain ⟨v, h1, h2⟩ := h j y hj
  by_cases hy : y = .undef
  · subst hy
    have := s.there (o + j)
    rw [h1] at this
    obtain ⟨v', hv'⟩ := Option.isSome_iff_exists.1 (this.trans rfl)
    exact ⟨v', hv', .undef _⟩
  · exact ⟨v, (s.cell _ (hD j y hj hy)).trans h1, h2.mono e⟩

theorem L.mono {D : Nat → Nat → Prop} {g g' : G} {w w' : World} {hn hn' : Nat} (e : Ext0 g w hn g' w' hn') {r : Root} {pre : Option Nat} {v : Value} {x : PV}
    (hl' : g'.loc r pre = g.loc r pre) (hb : ∀ b, g.own b = some (.st r pre) → SameB D g w g' w' b)
    (hD : ∀ b o, g.loc r pre = (b, o) → g.own b = some (.st r pre) → ∀ j y, x.kids[j]? = some y → y ≠ .undef → ¬ D b (o + j)) (h : L g w hn r pre v x) : L g' w' hn' r pre v x := by
  cases h with
  | of h => exact .of (h.mono e)
  | mu how hl hle hlen room hi hc =>
    have s := hb _ how
    exact .mu (s.own.trans how) (hl'.trans hl) hle hlen (fun j hj => by rw [s.there, s.frozen]; exact room j hj) (fun j h => hi j ((s.imm j).1 h)) (hc.monoD e s (hD _ _ hl how))
  | ow how hl hle hlen room hi hx hc =>
    have s := hb _ how
    exact .ow (s.own.trans how) (hl'.trans hl) hle hlen (fun j hj => by rw [s.there, s.frozen]; exact room j hj) (fun j hj => (s.imm _).2 (hi j hj))
      (fun j h => hx j ((s.imm j).1 h)) (hc.mono e fun j hj => (e.imm _ _ (hi j hj)).2)
  | full hl hi hc =>
    exact .full (hl'.trans hl) (fun j hj => (e.imm _ _ (hi j hj)).1) (hc.mono e fun j hj => (e.imm _ _ (hi j hj)).2)

/-- A variable's cells. -/
structure Obj1 (g : G) (w : World) (hn : Nat) (r : Root) (key : Key) (b : Nat) (cs : List PV) : Prop where
  loc : g.loc r none = (b, 0)
  own : g.own b = some key
  imm : ∀ j, ¬ g.imm b j
  room : ∀ j, j < cs.length → w.frozen? ⟨b, j, none⟩ = false
  cells : ∀ j y, cs[j]? = some y → ∃ v, w.cell? ⟨b, j, none⟩ = some v ∧ L g w hn r (some j) v y

/-- A map's entries. -/
def MapC (g : G) (w : World) (hn : Nat) (b : Nat) (ks vs : List PV) : Prop :=
  ∃ es clock, w.heap[b]? = some (.map es clock) ∧ es.size = ks.length ∧ es.size = vs.length ∧
    ∀ (j : Nat) (e : MapEntry), es[j]? = some e → (∀ x, ks[j]? = some x → V g w hn e.key x) ∧ (∀ y, vs[j]? = some y → V g w hn e.val y)
theorem MapC.mono {g g' : G} {w w' : World} {hn hn' : Nat} (e : Ext0 g w hn g' w' hn') {b : Nat} {ks vs : List PV} (hb : ∀ es c, w.heap[b]? = some (.map es c) → w'.heap[b]? = some (.map es c)) (h : MapC g w hn b ks vs) : MapC g' w' hn' b ks vs := by
  obtain ⟨es, clock, h1, h2, h3, h4⟩ := h
  exact ⟨es, clock, hb _ _ h1, h2, h3, fun j x hj => ⟨fun y hy => ((h4 j x hj).1 y hy).mono e, fun y hy => ((h4 j x hj).2 y hy).mono e⟩⟩

def valAt (g : G) (w : World) (tm : Array Value) : Root → Option Nat → Option Value
  | .slot t, none => some (tm.getD t Go.undef)
  | r, some o => w.cell? ⟨(g.loc r none).1, (g.loc r none).2 + o, none⟩
  | .heap _, none => none

/-- What stands in slot t. -/
inductive Slot (g : G) (w : World) (hn : Nat) (tm : Array Value) (t : Nat) : Value → PV → Prop where
  | of {v x} (h : L g w hn (.slot t) none v x) : Slot g w hn tm t v x
  | box {b cs} (h : Obj1 g w hn (.slot t) (.box t) b cs) : Slot g w hn tm t (.pointer (some ⟨b, 0, none⟩)) (.box cs)
  | agg {vs : Array Value} {cs} (hs : vs.size = cs.length) (h : ∀ (j : Nat) (v : Value) (y : PV), vs[j]? = some v → cs[j]? = some y → L g w hn (.slot t) (some j) v y) : Slot g w hn tm t (.agg vs) (.agg cs)
  | tup {vs : Array Value} {cs} (hs : vs.size = cs.length) (h : ∀ (j : Nat) (v : Value) (y : PV), vs[j]? = some v → cs[j]? = some y → V g w hn v y) : Slot g w hn tm t (.tuple vs) (.tup cs)
  | ptr {r pre off b o} (hl : g.loc r pre = (b, o)) (hi : ∀ i, r = .heap i → i < hn ∧ g.cap i = 0) : Slot g w hn tm t (.pointer (some ⟨b, o + off, none⟩)) (.ptr r pre off)
  | hd {r pre v} (h : valAt g w tm r pre = some v) (hi : ∀ i, r = .heap i → i < hn ∧ g.cap i = 0) : Slot g w hn tm t v (.hd r pre)
  | vw {r pre off sz n cap b o} (hl : g.loc r pre = (b, o)) (hle : n ≤ cap) (hi : ∀ i, r = .heap i → i < hn ∧ g.cap i = 0) : Slot g w hn tm t (.slice (some ⟨b, o + off, none⟩) n cap) (.vw r pre off sz n)
  | vw0 {r pre off sz a cap} (hi : ∀ i, r = .heap i → i < hn ∧ g.cap i = 0) : Slot g w hn tm t (.slice a 0 cap) (.vw r pre off sz 0)
  | ep {b o cs off} (hi : ImmC g b o cs.length) (hc : Cells g w hn b o cs) : Slot g w hn tm t (.pointer (some ⟨b, o + off, none⟩)) (.ep cs off)

/-- The storage of a slice that lies in other memory, if no other has taken its place: it may be appended to. -/
def RowC (g : G) (w : World) (i s n : Nat) : Prop :=
  g.cap i = n ∨ ∃ b o, g.loc (.heap i) none = (b, o) ∧ g.own b = some (.obj i) ∧ (∀ j, j < g.cap i * s → (w.cell? ⟨b, o + j, none⟩).isSome = true ∧ w.frozen? ⟨b, o + j, none⟩ = false) ∧ ∀ j, g.imm b j → j < o + n * s
/-- A block is as it was. -/
structure SameBlk (g : G) (w : World) (g' : G) (w' : World) (b : Nat) : Prop where
  own : g'.own b = g.own b
  heap : w'.heap[b]? = w.heap[b]?
  imm : ∀ j, g'.imm b j ↔ g.imm b j

/-- A builder and its bytes. -/
def BldC (g : G) (w : World) (i : Nat) (T e : TypeId) (bs : List UInt8) : Prop :=
  ∃ b p v, g.loc (.heap i) none = (b, 0) ∧ g.own b = some (.obj i) ∧ 0 < g.cap i ∧ (∀ j, ¬ g.imm b j) ∧ w.heap[b]? = some (.cells #[p, v] T (0, 0)) ∧
    (p = .pointer none ∨ p = .pointer (some ⟨b, 0, none⟩)) ∧ w.ownsRowF 0 e 1 v bs.length (bs.map fun c => .int .u8 c.toNat) ∧
    ∀ k, v.ownBlock = some k → k ≠ b ∧ g.own k = some (.obj i) ∧ ∀ j, ¬ g.imm k j
theorem BldC.keep {g g' : G} {w w' : World} {i : Nat} {T e : TypeId} {bs : List UInt8} (h : BldC g w i T e bs) (hl : g'.loc (.heap i) none = g.loc (.heap i) none) (hc : g'.cap i = g.cap i)
    (hs : ∀ b, g.own b = some (.obj i) → SameBlk g w g' w' b) : BldC g' w' i T e bs := by
  obtain ⟨b, p, v, h1, h2, h3, h4, h5, h6, h7, h8⟩ := h
  have sb := hs b h2
  refine ⟨b, p, v, hl.trans h1, sb.own.trans h2, hc ▸ h3, fun j hj => h4 j ((sb.imm j).1 hj), sb.heap.trans h5, h6, ⟨h7.1, ?_⟩, fun k hk => ?_⟩
  · rcases h7.2 with h | ⟨k, cap, cur, fz, rfl, hb, hk, hr⟩
    · exact .inl h
    · exact .inr ⟨k, cap, cur, fz, rfl, hb, (hs k (h8 k rfl).2.1).heap.trans hk, hr⟩
  · obtain ⟨h9, h10, h11⟩ := h8 k hk
    have sk := hs k h10
    exact ⟨h9, sk.own.trans h10, fun j hj => h11 j ((sk.imm j).1 hj)⟩
/-- Slices in other memory, builders. -/
def RowsC (g : G) (w : World) (hp : Heap) : Prop :=
  (∀ i s n p, hp[i]? = some (.row s n p) → 0 < g.cap i ∧ (0 < s → rowAlive hp i = true → RowC g w i s n)) ∧ ∀ i T e bs, hp[i]? = some (.bld T e bs) → BldC g w i T e bs
/-- May a place be viewed whose root's slot holds this? -/
def rootOk : Option Nat → PV → Bool
  | none, x => rooty x
  | some _, .box _ => true
  | some _, _ => false

structure Rel (g : G) (w : World) (tm : Array Value) (fr : Fr) (hp : Heap) : Prop where
  slots : ∀ t, Slot g w hp.length tm t (tm.getD t Go.undef) (get fr t)
  heap : ∀ i cs, hp[i]? = some (.cells cs) → ∃ b, Obj1 g w hp.length (.heap i) (.obj i) b cs
  maps : ∀ i ks vs, hp[i]? = some (.map ks vs) → ∃ b, Obj1 g w hp.length (.heap i) (.obj i) b [] ∧ MapC g w hp.length b ks vs
  immCell : ∀ b o, g.imm b o → (w.cell? ⟨b, o, none⟩).isSome = true
  ownLt : ∀ b k, g.own b = some k → b < w.heap.size
  live : ∀ t t' pre, refOf (get fr t) = some (.slot t', pre) → rootOk pre (get fr t') = true
  size : ∀ t, get fr t ≠ .undef → t < tm.size
  rows : RowsC g w hp

end Go.PS
end

section
/-
  Frames: what a write of a slot keeps.
-/
namespace Go.PS
section
variable {g : G} {w : World} {hn : Nat} {tm : Array Value} {fr : Fr} {hp : Heap} {P : Program}

theorem get_cons (k : Nat) (v : PV) (fr : Fr) (t : Nat) : get ((k, v) :: fr) t = if k = t then v else get fr t := rfl
theorem get_kill (k : Kill) (fr : Fr) (t : Nat) : get (killFr k fr) t = k.on (get fr t) := by
  induction fr with
  | nil => rfl
  | cons e fr ih =>
    obtain ⟨a, v⟩ := e
    simp only [killFr, List.map_cons, get_cons] at ih ⊢
    split
    · rfl
    · exact ih

/-- What 'setFr' leaves in another slot: the value, or nothing where it was a view of the slot written. -/
theorem on_cases (k : Kill) (v : PV) : k.on v = v ∨ (k.on v = .undef ∧ ∃ r pre, refOf v = some (r, pre) ∧ k.hits r pre = true) := by
  cases v with
  | ptr r pre off =>
    by_cases hk : k.hits r pre = true
    · exact .inr ⟨by simp [Kill.on, hk], r, pre, rfl, hk⟩
    · exact .inl (by simp [Kill.on, hk])
  | hd r pre =>
    by_cases hk : k.hits r pre = true
    · exact .inr ⟨by simp [Kill.on, hk], r, pre, rfl, hk⟩
    · exact .inl (by simp [Kill.on, hk])
  | vw r pre off sz n =>
    by_cases hk : k.hits r pre = true
    · exact .inr ⟨by simp [Kill.on, hk], r, pre, rfl, hk⟩
    · exact .inl (by simp [Kill.on, hk])
  | _ => exact .inl rfl
theorem on_refOf (k : Kill) (v : PV) {r pre} (h : refOf (k.on v) = some (r, pre)) : refOf v = some (r, pre) ∧ k.hits r pre = false := by
  rcases on_cases k v with h' | ⟨h', _⟩
  · rw [h'] at h
    refine ⟨h, ?_⟩
    cases v <;> simp [refOf] at h <;> obtain ⟨rfl, rfl⟩ := h <;> simp only [Kill.on] at h' <;> split at h' <;> simp_all
  · rw [h'] at h; cases h

theorem rooty_on (k : Kill) (v : PV) : rooty (k.on v) = rooty v := by
  rcases on_cases k v with h | ⟨h, r, pre, h1, _⟩
  · rw [h]
  · rw [h]; cases v <;> simp [refOf] at h1 <;> rfl

theorem get_setFr_same (fr : Fr) (t : Nat) (v : PV) : get (setFr fr t v) t = (Kill.slot t).on v := by
  unfold setFr; split <;> simp [get_cons]

theorem rootOk_on (k : Kill) (pre : Option Nat) (v : PV) : rootOk pre (k.on v) = rootOk pre v := by
  rcases on_cases k v with h | ⟨h, r, p, h1, _⟩
  · rw [h]
  · rw [h]; cases v <;> simp [refOf] at h1 <;> cases pre <;> rfl
theorem rooty_of_rootOk {pre : Option Nat} {v : PV} (h : rootOk pre v = true) : rooty v = true := by
  cases pre with
  | none => exact h
  | some o => cases v <;> simp [rootOk] at h <;> rfl

/-- Another slot's value behind a write of slot d. -/
theorem get_setFr (fr : Fr) (d t : Nat) (v : PV) (h : d ≠ t) (hlive : ∀ pre, refOf (get fr t) = some (.slot d, pre) → rooty (get fr d) = true) :
    get (setFr fr d v) t = (Kill.slot d).on (get fr t) := by
  unfold setFr
  have key : rooty (get fr d) = false → get fr t = (Kill.slot d).on (get fr t) := by
    intro hr
    rcases on_cases (.slot d) (get fr t) with h' | ⟨_, r, pre, h1, h2⟩
    · exact h'.symm
    · simp [Kill.hits] at h2; subst h2
      rw [hlive pre h1] at hr; cases hr
  split
  · simp [get_cons, h, get_kill]
  · simp [get_cons, h, get_kill]
  · simp [get_cons, h, get_kill]
  · rename_i h1 h2 h3
    simp only [get_cons, h, if_false]
    apply key
    cases hg : get fr d <;> simp [rooty] <;> first | exact (h1 _ _ _ hg).elim | exact (h2 _ hg).elim | exact (h3 _ hg).elim

theorem getD_set (tm : Array Value) (d t : Nat) (v : Value) : (tm.setIfInBounds d v).getD t Go.undef = if d = t ∧ d < tm.size then v else tm.getD t Go.undef := by
  simp only [Array.getD_eq_getD_getElem?, Array.getElem?_setIfInBounds]
  by_cases h : d = t
  · subst h
    by_cases h' : d < tm.size
    · simp [h']
    · simp [h']
  · simp [h]

theorem V.slot {v : Value} {x : PV} (h : V g w hn v x) (t : Nat) : Slot g w hn tm t v x := .of (.of h)

/-- Slot d is written: what stands in the others stands there still, but for views of d. -/
theorem Slot.put {d t : Nat} {u v : Value} {x : PV} (h : Slot g w hn tm t v x) :
    Slot g w hn (tm.setIfInBounds d u) t v ((Kill.slot d).on x) := by
  cases h with
  | of h =>
    cases h with
    | of h => cases h <;> simp only [Kill.on, Kill.hits] <;> first
        | exact V.slot (.undef _) t | exact V.slot (.int _ _) t | exact V.slot (.bool _) t | exact V.slot (.str _) t | exact V.slot (.raw _ ‹_›) t
        | exact V.slot .nilp t | exact V.slot (.sl0 _ _) t | exact V.slot (.sh0 _ _) t | exact V.slot (.sl _ _ _ _ _ _ _ ‹_› ‹_› ‹_› ‹_›) t | exact V.slot (.fn _ _ _ ‹_› ‹_›) t | exact V.slot (.agg _ _ ‹_› ‹_›) t
        | exact V.slot (.ptr _ _ _ ‹_› ‹_›) t
        | exact V.slot (.mp _ _ ‹_› ‹_›) t
        | exact V.slot (.bp _ _ ‹_› ‹_›) t
        | exact V.slot (.rf _ _ _ _ _ _ _ ‹_› ‹_› ‹_› ‹_› ‹_› ‹_› ‹_›) t
    | mu how hl hle hlen room hi hc => exact .of (.mu how hl hle hlen room hi hc)
    | ow how hl hle hlen room hi hx hc => exact .of (.ow how hl hle hlen room hi hx hc)
    | full hl hi hc => exact .of (.full hl hi hc)
  | box h => exact .box h
  | agg hs h => exact .agg hs h
  | tup hs h => exact .tup hs h
  | ptr hl hi =>
    simp only [Kill.on]; split
    · exact V.slot (.undef _) t
    · exact .ptr hl hi
  | @hd r pre v h hi =>
    simp only [Kill.on]; split
    · exact V.slot (.undef _) t
    · rename_i hk
      refine .hd ?_ hi
      cases r with
      | heap i => cases pre <;> exact h
      | slot s =>
        cases pre with
        | none =>
          simp [Kill.hits] at hk
          simp only [valAt] at h ⊢
          rw [getD_set, if_neg (by intro hh; exact hk hh.1.symm)]; exact h
        | some o => exact h
  | vw hl hle hi =>
    simp only [Kill.on]; split
    · exact V.slot (.undef _) t
    · exact .vw hl hle hi
  | vw0 hi =>
    simp only [Kill.on]; split
    · exact V.slot (.undef _) t
    · exact .vw0 hi
  | ep hi hc => exact .ep hi hc

/-- A write of a slot whose new value stands there by itself. -/
theorem Rel.set (R : Rel g w tm fr hp) {d : Nat} {v : Value} {x : PV} (hd : d < tm.size)
    (hx : Slot g w hp.length (tm.setIfInBounds d v) d v ((Kill.slot d).on x))
    (hlive : ∀ t pre, refOf x = some (.slot t, pre) → t ≠ d → rootOk pre (get fr t) = true) :
    Rel g w (tm.setIfInBounds d v) (setFr fr d x) hp := by
  have hget : ∀ t, d ≠ t → get (setFr fr d x) t = (Kill.slot d).on (get fr t) := fun t h => get_setFr fr d t x h (fun pre h' => rooty_of_rootOk (R.live t d pre h'))
  refine ⟨fun t => ?_, R.heap, R.maps, R.immCell, R.ownLt, fun t t' pre h => ?_, fun t h => ?_, R.rows⟩
  · by_cases h : d = t
    · subst h
      rw [get_setFr_same, getD_set, if_pos ⟨rfl, hd⟩]
      exact hx
    · rw [hget t h, getD_set, if_neg (fun hh => h hh.1)]
      exact (R.slots t).put
  · have hne : t' ≠ d := by
      rintro rfl
      by_cases h' : t' = t
      · subst h'
        rw [get_setFr_same] at h
        have := (on_refOf _ _ h).2
        simp [Kill.hits] at this
      · rw [hget t h'] at h
        have := (on_refOf _ _ h).2
        simp [Kill.hits] at this
    rw [hget t' (Ne.symm hne), rootOk_on]
    by_cases h' : d = t
    · subst h'
      rw [get_setFr_same] at h
      exact hlive t' pre (on_refOf _ _ h).1 hne
    · rw [hget t h'] at h
      exact R.live t t' pre (on_refOf _ _ h).1
  · simp only [Array.size_setIfInBounds]
    by_cases h' : d = t
    · subst h'; exact hd
    · rw [hget t h'] at h
      refine R.size t fun hu => h ?_
      rw [hu]; rfl

/-- The same, for a value that would stand anywhere. -/
theorem Rel.setFlat (R : Rel g w tm fr hp) {d : Nat} {v : Value} {x : PV} (hd : d < tm.size) (hx : Slot g w hp.length tm d v x)
    (hlive : ∀ t pre, refOf x = some (.slot t, pre) → t ≠ d → rootOk pre (get fr t) = true) :
    Rel g w (tm.setIfInBounds d v) (setFr fr d x) hp := R.set hd hx.put hlive
end
end Go.PS
end

section
/-
  The operations that only read: what the evaluator says is what the model does.
-/
namespace Go.PS
section
variable {g : G} {w : World} {hn : Nat} {tm : Array Value} {fr : Fr} {hp : Heap} {P : Program} {t : Nat}

theorem Slot.int_inv {v : Value} {k n} (h : Slot g w hn tm t v (.int k n)) : v = .int k n := by
  cases h with | of h => cases h with | of h => cases h; rfl
theorem Slot.str_inv {v : Value} {s} (h : Slot g w hn tm t v (.str s)) : ∃ b : ByteArray, v = .string b ∧ b.data.toList = s := by
  cases h with | of h => cases h with | of h => cases h; exact ⟨_, rfl, rfl⟩
theorem Slot.bool_inv {v : Value} {b} (h : Slot g w hn tm t v (.bool b)) : v = .bool b := by
  cases h with | of h => cases h with | of h => cases h; rfl
theorem Slot.nilp_inv {v : Value} (h : Slot g w hn tm t v .nilp) : v = .pointer none := by
  cases h with | of h => cases h with | of h => cases h; rfl
theorem Slot.ptr_inv {v : Value} {r pre off} (h : Slot g w hn tm t v (.ptr r pre off)) :
    ∃ b o, g.loc r pre = (b, o) ∧ v = .pointer (some ⟨b, o + off, none⟩) ∧ ∀ i, r = .heap i → i < hn ∧ g.cap i = 0 := by
  cases h with
  | of h => cases h with | of h => cases h with | ptr i off b hi hl => exact ⟨b, 0, hl, by simp, fun j h => by cases h; exact hi⟩
  | @ptr r pre off b o hl hi => exact ⟨b, o, hl, rfl, hi⟩
theorem Slot.ep_inv {v : Value} {cs off} (h : Slot g w hn tm t v (.ep cs off)) :
    ∃ b o, v = .pointer (some ⟨b, o + off, none⟩) ∧ ImmC g b o cs.length ∧ Cells g w hn b o cs := by
  cases h with
  | of h => cases h with | of h => cases h
  | @ep b o cs off hi hc => exact ⟨b, o, rfl, hi, hc⟩
theorem Slot.fn_inv {v : Value} {f cap} (h : Slot g w hn tm t v (.fn f cap)) :
    ∃ cv : Array Value, v = .func (.func f) #[] cv ∧ cv.size = cap.length ∧ ∀ (j : Nat) (v : Value) (y : PV), cv[j]? = some v → cap[j]? = some y → V g w hn v y := by
  cases h with | of h => cases h with | of h => cases h with | fn f cv cap hs hv => exact ⟨cv, rfl, hs, hv⟩
theorem Slot.agg_inv {v : Value} {cs} (h : Slot g w hn tm t v (.agg cs)) :
    ∃ vs : Array Value, v = .agg vs ∧ vs.size = cs.length ∧ ∀ (j : Nat) (v : Value) (y : PV), vs[j]? = some v → cs[j]? = some y → L g w hn (.slot t) (some j) v y := by
  cases h with
  | of h => cases h with | of h => cases h with | agg vs cs hs hv => exact ⟨vs, rfl, hs, fun j v y h1 h2 => .of (hv j v y h1 h2)⟩
  | @agg vs cs hs h => exact ⟨vs, rfl, hs, h⟩
theorem Slot.tup_inv {v : Value} {cs} (h : Slot g w hn tm t v (.tup cs)) :
    ∃ vs : Array Value, v = .tuple vs ∧ vs.size = cs.length ∧ ∀ (j : Nat) (v : Value) (y : PV), vs[j]? = some v → cs[j]? = some y → V g w hn v y := by
  cases h with
  | of h => cases h with | of h => cases h
  | @tup vs cs hs h => exact ⟨vs, rfl, hs, h⟩

/-- Views are of slots that hold something. -/
def Lv (fr : Fr) (x : PV) : Prop := ∀ t pre, refOf x = some (.slot t, pre) → rootOk pre (get fr t) = true

theorem V.refOf {v : Value} {x : PV} (h : V g w hn v x) (t : Nat) (pre : Option Nat) : refOf x ≠ some (.slot t, pre) := by
  cases h <;> simp [PS.refOf]
theorem V.lv {v : Value} {x : PV} (h : V g w hn v x) : Lv fr x := fun t pre h' => (h.refOf t pre h').elim

theorem ofConst_sound (v : Value) : V g w hn v (ofConst v) := by
  cases v with
  | bool b => exact .bool b
  | int k n => exact .int k n
  | string s => exact .str s
  | float k b => exact .raw _ rfl
  | complex k a b => exact .raw _ rfl
  | pointer a => cases a <;> first | exact .nilp | exact .undef _
  | slice a n cap =>
    cases a with
    | some a => simp only [ofConst]; exact .undef _
    | none =>
      cases n with
      | succ n => exact .undef _
      | zero => cases cap with | zero => exact .sl0 _ _ | succ c => exact .undef _
  | map r => cases r <;> first | exact .raw _ rfl | exact .undef _
  | chan r => cases r <;> first | exact .raw _ rfl | exact .undef _
  | nilFunc => exact .raw _ rfl
  | nilIface => exact .raw _ rfl
  | _ => exact .undef _

theorem opv_sound (R : Rel g w tm fr hp) (a : Act) (ha : a.tmps = tm) (x : Operand) :
    (∃ t, Slot g w hp.length tm t (a.eval x) (opv fr x)) ∧ Lv fr (opv fr x) := by
  subst ha
  cases x with
  | tmp t =>
    have h := R.slots t
    simp only [Act.eval, opv]
    generalize a.tmps.getD t Go.undef = vt at *
    cases hg : get fr t with
    | box cs =>
      rw [hg] at h
      cases h with
      | of h => cases h with | of h => cases h
      | @box b cs h =>
        refine ⟨⟨t, ?_⟩, fun t' pre h' => ?_⟩
        · have h2 := Slot.ptr (g := g) (w := w) (hn := hp.length) (tm := a.tmps) (t := t) (r := .slot t) (pre := none) (off := 0) (b := b) (o := 0) h.loc (fun i hi => by cases hi)
          simpa using h2
        · simp only [refOf, Option.some.injEq, Prod.mk.injEq, Root.slot.injEq] at h'
          obtain ⟨rfl, rfl⟩ := h'
          rw [hg]; rfl
    | _ => rw [hg] at h; exact ⟨⟨t, h⟩, fun t' pre h' => R.live t t' pre (by rw [hg]; exact h')⟩
  | const v => exact ⟨⟨0, (ofConst_sound v).slot 0⟩, (ofConst_sound (g := g) (w := w) (hn := hp.length) v).lv⟩
  | global n => exact ⟨⟨0, (V.undef _).slot 0⟩, fun t pre h => by cases h⟩
  | func f => exact ⟨⟨0, (V.fn f #[] [] rfl (fun j v y h => by simp at h)).slot 0⟩, fun t pre h => by simp [opv, refOf] at h⟩

theorem binI_sound (op : BinOp) (k : IntKind) (a b : Int) (z : PV) (T : TypeId) (ox oy : Operand) (h : binI op k a b = some z) :
    ∃ v, (do eqGuard op T ox oy (.int k a) (.int k b); Go.binOp op T (.int k a) (.int k b) : Sem Value).run P w = .ok v w ∧ V g w hn v z := by
  cases op with
  | andNot => cases h; exact ⟨_, by simp [eqGuard, Go.binOp, Op.intBits, go_sem], .int _ _⟩
  | _ => simp [binI] at h <;> (try obtain ⟨hb, rfl⟩ := h) <;> (try subst h) <;>
      simp [eqGuard, Go.binOp, Op.intArith, Op.intBits, Op.intCmp, Op.intDiv, go_sem, *] <;> first | exact .int _ _ | exact .bool _ | skip

theorem bytesLess_eq (a b : List UInt8) : Op.bytesLess a b = bytesLess a b := by
  induction a generalizing b with
  | nil => cases b <;> rfl
  | cons x a ih => cases b with | nil => rfl | cons y b => simp [Op.bytesLess, bytesLess, ih]

theorem loop_eq (bs : ByteArray) : ∀ (n i : Nat) (r : List UInt8), bs.size - i = n → ByteArray.toList.loop bs i r = r.reverse ++ bs.data.toList.drop i := by
  intro n
  induction n with
  | zero =>
    intro i r h
    unfold ByteArray.toList.loop
    rw [if_neg (by omega), List.drop_of_length_le (by rw [Array.length_toList, ByteArray.size_data]; omega)]
    simp
  | succ n ih =>
    intro i r h
    unfold ByteArray.toList.loop
    have hi : i < bs.size := by omega
    rw [if_pos hi, ih _ _ (by omega)]
    have hd : i < bs.data.toList.length := by rw [Array.length_toList, ByteArray.size_data]; exact hi
    rw [List.drop_eq_getElem_cons hd]
    have : bs.get! i = bs.data.toList[i] := by
      simp [ByteArray.get!, hi]
    simp [this]
theorem toList_eq (bs : ByteArray) : bs.toList = bs.data.toList := by
  have := loop_eq bs _ 0 [] rfl
  simpa [ByteArray.toList] using this
theorem size_toList (x : ByteArray) : x.data.toList.length = x.size := by rw [Array.length_toList, ByteArray.size_data]

theorem binS_sound (op : BinOp) (a b : ByteArray) (z : PV) (T : TypeId) (ox oy : Operand) (h : binS op a.data.toList b.data.toList = some z) :
    ∃ v, (do eqGuard op T ox oy (.string a) (.string b); Go.binOp op T (.string a) (.string b) : Sem Value).run P w = .ok v w ∧ V g w hn v z := by
  cases op with
  | add =>
    simp only [binS] at h
    split at h
    · rename_i hl
      cases h
      rw [size_toList, size_toList] at hl
      have hm : ¬ IntKind.i64.max < (((a.size + b.size : Nat)) : Int) := by
        have : IntKind.i64.max = 9223372036854775807 := by decide
        rw [this]; omega
      refine ⟨.string (a ++ b), ?_, ?_⟩
      · simp only [eqGuard, Go.binOp, Op.stringOp]
        rw [if_neg hm]; rfl
      · have := V.str (g := g) (w := w) (hn := hn) (a ++ b)
        rw [ByteArray.data_append, Array.toList_append] at this
        exact this
    · cases h
  | _ => simp [binS] at h <;> (try subst h) <;>
      simp [eqGuard, Go.binOp, Op.stringOp, go_sem, bytesLess_eq, toList_eq] <;> first | exact .bool _ | skip

/-- What the tables of a program's types owe. -/
structure Tabs (P : Program) : Prop where
  slice : ∀ T e, P.underlying T = some (.slice e) → ∃ i, P.info? e = some i
  array : ∀ T n e, P.underlying T = some (.array n e) → ∃ i j, P.info? e = some i ∧ P.info? T = some j ∧ j.size = n * i.size
  struct : ∀ T fs f, P.underlying T = some (.struct fs) → f ∈ fs → ∃ i, P.info? f.type = some i
  sliceU : ∀ T e, P.underlying T = some (.slice e) → ∃ d, P.underlying e = some d
  arrayU : ∀ T n e, P.underlying T = some (.array n e) → ∃ d, P.underlying e = some d
  structU : ∀ T fs f, P.underlying T = some (.struct fs) → f ∈ fs → ∃ d, P.underlying f.type = some d

theorem info_of_underlying {T : TypeId} {d : TypeDesc} (h : P.underlying T = some d) : ∃ i, P.info? T = some i := by
  unfold Program.underlying at h
  split at h
  · rename_i h'; exact ⟨_, h'⟩
  · rename_i h'; exact ⟨_, h'⟩
  · cases h

theorem run_sizeT {T : TypeId} {i : TypeInfo} (h : P.info? T = some i) (w : World) : (sizeOf T).run P w = .ok (sizeT P T) w := by
  simp [sizeOf, Go.typeInfo, sizeT, h, go_sem]
theorem run_isAggT {T : TypeId} {d : TypeDesc} (h : P.underlying T = some d) (w : World) : (isAgg T).run P w = .ok (isAggT P T) w := by
  cases d <;> simp [isAgg, run_underlying h, isAggT, h]

theorem Slot.raw_inv {v u : Value} (h : Slot g w hn tm t v (.raw u)) : v = u := by
  cases h with | of h => cases h with | of h => cases h; rfl

theorem Slot.rf_inv {v : Value} {i n : Nat} {cs : List PV} (h : Slot g w hn tm t v (.rf i n cs)) : V g w hn v (.rf i n cs) := by
  cases h with | of h => cases h with | of h => exact h
theorem V.rf_row {v : Value} {i n : Nat} {cs : List PV} (h : V g w hn v (.rf i n cs)) :
    ∃ b o cap, v = .slice (some ⟨b, o, none⟩) n cap ∧ n ≤ cap ∧ 0 < n ∧ i < hn ∧ (g.loc (.heap i) none = (b, o) ∧ g.cap i = cap) ∧ ImmC g b o cs.length ∧ Cells g w hn b o cs := by
  cases h with
  | rf i b o n cap cs f hi hl hcap hle h0 hc hv =>
    refine ⟨b, o, cap, rfl, hle, h0, hi, ⟨hl, hcap⟩, fun j hj => ?_, fun j y hy => ⟨f j, (hc j y hy).2, hv j y hy⟩⟩
    exact (hc j _ (List.getElem?_eq_getElem hj)).1
theorem V.rf_of {b o n cap i : Nat} {cs : List PV} (hi : i < hn) (hl : g.loc (.heap i) none = (b, o)) (hcap : g.cap i = cap) (hle : n ≤ cap) (h0 : 0 < n) (hI : ImmC g b o cs.length) (hc : Cells g w hn b o cs) :
    V g w hn (.slice (some ⟨b, o, none⟩) n cap) (.rf i n cs) := by
  have hf : ∀ j, ∃ v, ∀ y, cs[j]? = some y → w.cell? ⟨b, o + j, none⟩ = some v ∧ V g w hn v y := by
    intro j
    cases hj : cs[j]? with
    | none => exact ⟨Go.undef, fun y h => by cases h⟩
    | some y =>
      obtain ⟨v, h1, h2⟩ := hc j y hj
      exact ⟨v, fun y' h => by cases h; exact ⟨h1, h2⟩⟩
  exact .rf i b o n cap cs (fun j => (hf j).choose) hi hl hcap hle h0 (fun j y hj => ⟨hI j (lt_of_some hj), ((hf j).choose_spec y hj).1⟩) (fun j y hj => ((hf j).choose_spec y hj).2)
def boolOf (op : BinOp) (e : Bool) : Bool := match op with | .eql => e | _ => !e

theorem run_equal {T : TypeId} {v u : Value} {e : Bool} (h : ∀ d, (Op.equalIn (d + 1) T v u).run P w = .ok e w) : (Op.equal T v u).run P w = .ok e w := h 9999

theorem eqVal_sound (op : BinOp) (hop : op = .eql ∨ op = .neq) {v u : Value} {x y : PV} {e : Bool} {t t' : Nat} (T : TypeId) (ox oy : Operand)
    (h : eqVal P T x y = some e) (hx : Slot g w hn tm t v x) (hy : Slot g w hn tm t' u y) (hagg : ∀ a b, ¬ (x = .agg a ∧ y = .agg b)) :
    (do eqGuard op T ox oy v u; Go.binOp op T v u : Sem Value).run P w = .ok (.bool (boolOf op e)) w := by
  have fin : ∀ (d : TypeDesc), P.underlying T = some d → (∀ n, (Op.equalIn (n + 1) T v u).run P w = .ok e w) → (eqGuard op T ox oy v u).run P w = .ok () w →
      ((Go.binOp op T v u) = (do pure (.bool (boolOf op (← Op.equal T v u))))) →
      (do eqGuard op T ox oy v u; Go.binOp op T v u : Sem Value).run P w = .ok (.bool (boolOf op e)) w := by
    intro d _ h1 h2 h3
    rw [h3]
    simp [h2, run_equal h1, go_sem]
  unfold eqVal at h
  split at h
  · rename_i hu; have := hx.bool_inv; have := hy.bool_inv; subst_vars; cases h
    refine fin _ hu (fun n => by simp [Op.equalIn, run_underlying hu]) (by rcases hop with rfl | rfl <;> simp [eqGuard]) (by rcases hop with rfl | rfl <;> rfl)
  · rename_i hu; have := hx.nilp_inv; have := hy.nilp_inv; subst_vars; cases h
    refine fin _ hu (fun n => by simp [Op.equalIn, run_underlying hu]) (by rcases hop with rfl | rfl <;> simp [eqGuard]) (by rcases hop with rfl | rfl <;> rfl)
  · rename_i hu; have := hx.nilp_inv; obtain ⟨b, o, _, rfl, _⟩ := hy.ptr_inv; subst_vars; cases h
    refine fin _ hu (fun n => by simp [Op.equalIn, run_underlying hu]) (by rcases hop with rfl | rfl <;> simp [eqGuard]) (by rcases hop with rfl | rfl <;> rfl)
  · rename_i hu; have := hy.nilp_inv; obtain ⟨b, o, _, rfl, _⟩ := hx.ptr_inv; subst_vars; cases h
    refine fin _ hu (fun n => by simp [Op.equalIn, run_underlying hu]) (by rcases hop with rfl | rfl <;> simp [eqGuard]) (by rcases hop with rfl | rfl <;> rfl)
  · rename_i hu; have := hx.raw_inv; have := hy.raw_inv; subst_vars; cases h
    refine fin _ hu (fun n => by simp [Op.equalIn, run_underlying hu]) (by rcases hop with rfl | rfl <;> simp [eqGuard]) (by rcases hop with rfl | rfl <;> rfl)
  · rename_i hu; obtain ⟨cv, rfl, _⟩ := hx.fn_inv; have := hy.raw_inv; subst_vars; cases h
    refine fin _ hu (fun n => by simp [Op.equalIn, run_underlying hu]) (by rcases hop with rfl | rfl <;> simp [eqGuard]) (by rcases hop with rfl | rfl <;> rfl)
  · exact (hagg _ _ ⟨rfl, rfl⟩).elim
  · exact (hagg _ _ ⟨rfl, rfl⟩).elim
  · cases h
end
end Go.PS
end

section
/-
  The operations that read memory.
-/
namespace Go.PS
section
variable {g : G} {w : World} {hn : Nat} {tm : Array Value} {fr : Fr} {hp : Heap} {P : Program} {t : Nat}

theorem rootPV_heap {st : St} {i : Nat} {cs : List PV} (h : rootPV st (.heap i) = .box cs) : st.hp[i]? = some (.cells cs) ∨ (cs = [] ∧ ∃ ks vs, st.hp[i]? = some (.map ks vs)) := by
  simp only [rootPV] at h
  split at h
  · rename_i hc; cases h; exact .inl hc
  · rename_i ks vs hc; cases h; exact .inr ⟨rfl, ks, vs, hc⟩
  · cases h
  · cases h
  · cases h
theorem rootPV_lt {st : St} {i : Nat} {cs : List PV} (h : rootPV st (.heap i) = .box cs) : i < st.hp.length := by
  rcases rootPV_heap h with h | ⟨_, _, _, h⟩ <;> exact lt_of_some h
theorem rootPV_cells {st : St} {i o : Nat} {y : PV} {cs : List PV} (h : rootPV st (.heap i) = .box cs) (ho : cs[o]? = some y) : st.hp[i]? = some (.cells cs) := by
  rcases rootPV_heap h with h | ⟨rfl, _, _, h⟩
  · exact h
  · simp at ho
theorem Rel.obj1 {st : St} (R : Rel g w tm st.fr st.hp) {i : Nat} {cs : List PV} (h : rootPV st (.heap i) = .box cs) : ∃ b, Obj1 g w st.hp.length (.heap i) (.obj i) b cs := by
  rcases rootPV_heap h with h | ⟨rfl, ks, vs, h⟩
  · exact R.heap i _ h
  · obtain ⟨b, hb, _⟩ := R.maps i ks vs h
    exact ⟨b, hb⟩

/-- The cells of a variable: each reads at its own place. -/
theorem root_box {st : St} (R : Rel g w tm st.fr st.hp) {r : Root} {cs : List PV} (h : rootPV st r = .box cs) :
    ∃ key b, Obj1 g w st.hp.length r key b cs := by
  cases r with
  | slot t =>
    have hs := R.slots t
    simp only [rootPV] at h
    rw [h] at hs
    generalize tm.getD t Go.undef = v at hs
    cases hs with
    | of h => cases h with | of h => cases h
    | @box b cs h => exact ⟨_, b, h⟩
  | heap i =>
    obtain ⟨b, hb⟩ := R.obj1 h
    exact ⟨_, b, hb⟩

theorem L.own_cells {r : Root} {pre : Option Nat} {v : Value} {tg : Tag} {n : Nat} {cs : List PV} (h : L g w hn r pre v (.sl tg n cs)) (htg : tg ≠ .sh ∧ tg ≠ .fr)
    {b o : Nat} (hl : g.loc r pre = (b, o)) : Cells g w hn b o cs := by
  cases h with
  | of h =>
    cases h with
    | sl0 a tg => intro j y hj; simp at hj
    | sh0 a cap => simp at htg
    | sl tg b o n cap cs f htg' => rcases htg' with rfl | ⟨rfl, _⟩ <;> simp at htg
  | mu how hl' _ _ _ _ hc => rw [hl] at hl'; cases hl'; exact hc
  | ow how hl' _ _ _ _ _ hc => rw [hl] at hl'; cases hl'; exact hc
  | full hl' _ hc => rw [hl] at hl'; cases hl'; exact hc

/-- A slice in a slot. -/
theorem root_sl {st : St} (R : Rel g w tm st.fr st.hp) {r : Root} {tg : Tag} {n : Nat} {cs : List PV} (h : rootPV st r = .sl tg n cs) :
    ∃ t, r = .slot t ∧ L g w st.hp.length (.slot t) none (tm.getD t Go.undef) (.sl tg n cs) := by
  cases r with
  | slot t =>
    have hs := R.slots t
    simp only [rootPV] at h
    rw [h] at hs
    refine ⟨t, rfl, ?_⟩
    generalize tm.getD t Go.undef = v at hs ⊢
    cases hs with | of h => exact h
  | heap i => simp only [rootPV] at h; split at h <;> cases h

/-- What a node's cells hold, by where the node's cells stand. -/
theorem nav_cells {st : St} (R : Rel g w tm st.fr st.hp) {r : Root} {pre : Option Nat} {nd : PV} (h : nav st r pre = some nd) {b o : Nat} (hl : g.loc r pre = (b, o)) :
    ∀ j y, nd.kids[j]? = some y → ∃ v, w.cell? ⟨b, o + j, none⟩ = some v ∧ L g w st.hp.length r (some j) v y ∧ ((∀ cs, nd ≠ .box cs) → V g w st.hp.length v y) := by
  have fromV : ∀ cs, Cells g w st.hp.length b o cs → ∀ j y, cs[j]? = some y → ∃ v, w.cell? ⟨b, o + j, none⟩ = some v ∧ L g w st.hp.length r (some j) v y ∧ ((∀ cs, nd ≠ .box cs) → V g w st.hp.length v y) :=
    fun cs hc j y hj => by obtain ⟨v, h1, h2⟩ := hc j y hj; exact ⟨v, h1, .of h2, fun _ => h2⟩
  unfold nav at h
  split at h
  · rename_i cs hr
    cases h
    obtain ⟨key, b', hb⟩ := root_box R hr
    have e := hb.loc
    rw [hl] at e; cases e
    intro j y hj
    obtain ⟨v, h1, h2⟩ := hb.cells j y hj
    exact ⟨v, by simpa using h1, h2, fun h' => (h' _ rfl).elim⟩
  · rename_i s n cs hr
    cases h
    obtain ⟨t, rfl, hL⟩ := root_sl R hr
    exact fromV cs (hL.own_cells (by simp) hl)
  · rename_i s n cs hr
    cases h
    obtain ⟨t, rfl, hL⟩ := root_sl R hr
    exact fromV cs (hL.own_cells (by simp) hl)
  · rename_i o' cs hr
    obtain ⟨key, b', hb⟩ := root_box R hr
    split at h
    · rename_i s n xs hx
      cases h
      obtain ⟨v, _, h2⟩ := hb.cells _ _ hx
      exact fromV xs (h2.own_cells (by simp) hl)
    · rename_i s n xs hx
      cases h
      obtain ⟨v, _, h2⟩ := hb.cells _ _ hx
      exact fromV xs (h2.own_cells (by simp) hl)
    · cases h
  · cases h

/-- The slice that stands at a place. -/
theorem navS_at {st : St} (R : Rel g w tm st.fr st.hp) {r : Root} {pre : Option Nat} {tg : Tag} {n : Nat} {cs : List PV} (h : navS st r pre = some (tg, n, cs)) :
    (tg ≠ .sh ∧ tg ≠ .fr) ∧ ∃ v, valAt g w tm r pre = some v ∧ L g w st.hp.length r pre v (.sl tg n cs) := by
  unfold navS at h
  split at h
  · rename_i tg n cs hn
    cases h
    unfold nav at hn
    split at hn
    · cases hn
    · rename_i hr; cases hn; obtain ⟨t, rfl, hL⟩ := root_sl R hr; exact ⟨by simp, _, rfl, hL⟩
    · rename_i hr; cases hn; obtain ⟨t, rfl, hL⟩ := root_sl R hr; exact ⟨by simp, _, rfl, hL⟩
    · rename_i o' cs' hr
      obtain ⟨key, b', hb⟩ := root_box R hr
      have hv : ∀ v, w.cell? ⟨b', o', none⟩ = some v → valAt g w tm r (some o') = some v := by
        intro v hv
        cases r <;> simp only [valAt, hb.loc, Nat.zero_add] <;> exact hv
      split at hn
      · rename_i hx; cases hn; obtain ⟨v, h1, h2⟩ := hb.cells _ _ hx; exact ⟨by simp, v, hv v h1, h2⟩
      · rename_i hx; cases hn; obtain ⟨v, h1, h2⟩ := hb.cells _ _ hx; exact ⟨by simp, v, hv v h1, h2⟩
      · cases hn
    · cases hn
  · cases h

theorem Slot.hd_inv {v : Value} {r pre} (h : Slot g w hn tm t v (.hd r pre)) : valAt g w tm r pre = some v := by
  cases h with
  | of h => cases h with | of h => cases h
  | hd h _ => exact h

/-- A view of a slice: the model's value is the slice's own. -/
theorem hd_at {st : St} (R : Rel g w tm st.fr st.hp) {v : Value} {r : Root} {pre : Option Nat} {tg : Tag} {n : Nat} {cs : List PV}
    (h : Slot g w st.hp.length tm t v (.hd r pre)) (hn : navS st r pre = some (tg, n, cs)) : (tg ≠ .sh ∧ tg ≠ .fr) ∧ L g w st.hp.length r pre v (.sl tg n cs) := by
  obtain ⟨h1, v', h2, h3⟩ := navS_at R hn
  rw [h.hd_inv] at h2; cases h2
  exact ⟨h1, h3⟩

/-- An owned slice: nil or empty without room, or a row of cells. -/
theorem L.row {r : Root} {pre : Option Nat} {v : Value} {tg : Tag} {n : Nat} {cs : List PV} (h : L g w hn r pre v (.sl tg n cs)) :
    (n = 0 ∧ cs = [] ∧ ∃ a cap, v = .slice a 0 cap ∧ (tg = .sh ∨ cap = 0)) ∨ ∃ b o cap, v = .slice (some ⟨b, o, none⟩) n cap ∧ n ≤ cap ∧ Cells g w hn b o cs ∧ ((tg ≠ .sh ∧ tg ≠ .fr) → g.loc r pre = (b, o)) ∧
      ((∀ s, tg ≠ .mu s) → ImmC g b o cs.length) := by
  cases h with
  | of h =>
    cases h with
    | sl0 a tg => exact .inl ⟨rfl, rfl, a, 0, rfl, .inr rfl⟩
    | sh0 a cap => exact .inl ⟨rfl, rfl, a, cap, rfl, .inl rfl⟩
    | sl tg b o n cap cs f htg hle hc hv =>
      refine .inr ⟨b, o, cap, rfl, hle, fun j y hj => ⟨_, (hc j y hj).2, hv j y hj⟩, fun h => ?_, fun _ j hj => ?_⟩
      · rcases htg with rfl | ⟨rfl, _⟩ <;> simp at h
      · exact (hc j _ (List.getElem?_eq_getElem hj)).1
  | mu how hl hle hlen room hi hc => exact .inr ⟨_, _, _, rfl, hle, hc, fun _ => hl, fun h => (h _ rfl).elim⟩
  | ow how hl hle hlen room hi hx hc => exact .inr ⟨_, _, _, rfl, hle, hc, fun _ => hl, fun _ => hi⟩
  | full hl hi hc => exact .inr ⟨_, _, _, rfl, Nat.le_refl _, hc, fun _ => hl, fun _ => hi⟩

theorem Slot.sl_inv {v : Value} {tg n cs} (h : Slot g w hn tm t v (.sl tg n cs)) : L g w hn (.slot t) none v (.sl tg n cs) := by
  cases h with | of h => exact h
theorem Slot.vw_inv {v : Value} {r pre off sz n} (h : Slot g w hn tm t v (.vw r pre off sz n)) :
    (n = 0 ∧ ∃ a cap, v = .slice a 0 cap) ∨ ∃ b o cap, g.loc r pre = (b, o) ∧ v = .slice (some ⟨b, o + off, none⟩) n cap ∧ n ≤ cap := by
  cases h with
  | of h => cases h with | of h => cases h
  | @vw r pre off sz n cap b o hl hle hi => exact .inr ⟨b, o, cap, hl, rfl, hle⟩
  | @vw0 r pre off sz a cap hi => exact .inl ⟨rfl, a, cap, rfl⟩

theorem L.share1 {r : Root} {pre : Option Nat} {v : Value} {n : Nat} {s : Nat} {xs : List PV} (h : L g w hn r pre v (.sl (.ow s) n xs)) : V g w hn v (.sl .sh n xs) := by
  cases h with
  | of h =>
    cases h with
    | sl0 a tg => exact .sl0 a .sh
    | sl tg b o n cap cs f htg => rcases htg with h | ⟨h, _⟩ <;> cases h
  | ow how hl hle hlen room hi hx hc => exact V.sl_of (.inl rfl) hle hi hc
  | full hl hi hc => exact V.sl_of (.inl rfl) (Nat.le_refl _) hi hc

theorem L.toV {r : Root} {pre : Option Nat} {v : Value} {x : PV} (h : L g w hn r pre v x) (hx : ∀ s n xs, x ≠ .sl (.mu s) n xs ∧ x ≠ .sl (.ow s) n xs) : V g w hn v x := by
  cases h with
  | of h => exact h
  | mu => exact ((hx _ _ _).1 rfl).elim
  | ow => exact ((hx _ _ _).2 rfl).elim
  | full => exact ((hx _ _ _).2 rfl).elim

/-- A row that is looked at for good: an owned one reads, one that may be written does not. -/
theorem L.shared {r : Root} {pre : Option Nat} {v : Value} {y : PV} (h : L g w hn r pre v y) : V g w hn v (shr y) := by
  unfold shr
  split
  · rename_i s n xs
    split
    · rename_i e
      subst e
      cases h with
      | of h => cases h with
        | sl0 a tg => exact .sl0 a .sh
        | sl tg b o n cap cs f htg => rcases htg with h | ⟨h, _⟩ <;> cases h
      | mu how hl hle hlen room hi hc h0 => exact .sh0 _ _
    · exact .undef _
  · exact h.share1
  · rename_i hm ho
    exact h.toV fun s n xs => ⟨fun e => hm s n xs e, fun e => ho s n xs e⟩

theorem shareCells_get {cs : List PV} {j : Nat} {y : PV} (h : (shareCells cs)[j]? = some y) : ∃ z, cs[j]? = some z ∧ y = shr z := by
  simp only [shareCells, List.getElem?_map, Option.map_eq_some_iff] at h
  obtain ⟨z, h1, h2⟩ := h
  exact ⟨z, h1, h2.symm⟩
theorem shareCells_length (cs : List PV) : (shareCells cs).length = cs.length := by simp [shareCells]

theorem drop_take_get {α : Type} {l : List α} {a n j : Nat} {y : α} (h : ((l.drop a).take n)[j]? = some y) : l[a + j]? = some y ∧ j < n := by
  rw [List.getElem?_take] at h
  split at h
  · rename_i hj; rw [List.getElem?_drop] at h; exact ⟨h, hj⟩
  · cases h

/-- The cells of a slice as it is read. -/
theorem content_sound {st : St} (R : Rel g w tm st.fr st.hp) {v : Value} {x : PV} {n : Nat} {cs : List PV} (hx : Slot g w st.hp.length tm t v x)
    (h : content st x = some (n, cs)) : (cs = [] ∧ n = 0 ∧ ∃ a cap, v = .slice a 0 cap) ∨ ∃ b o cap, v = .slice (some ⟨b, o, none⟩) n cap ∧ n ≤ cap ∧ Cells g w st.hp.length b o cs := by
  have fromL : ∀ {r pre tg}, L g w st.hp.length r pre v (.sl tg n cs) → (cs = [] ∧ n = 0 ∧ ∃ a cap, v = .slice a 0 cap) ∨ ∃ b o cap, v = .slice (some ⟨b, o, none⟩) n cap ∧ n ≤ cap ∧ Cells g w st.hp.length b o cs := by
    intro r pre tg hL
    rcases hL.row with ⟨h1, h2, a, cap, rfl, _⟩ | ⟨b, o, cap, rfl, h1, h2, _⟩
    · exact .inl ⟨h2, h1, a, cap, rfl⟩
    · exact .inr ⟨b, o, cap, rfl, h1, h2⟩
  cases x with
  | sl tg n' cs' => cases h; exact fromL hx.sl_inv
  | hd r pre =>
    simp only [content] at h
    split at h
    · rename_i tg n' cs' hn
      cases h
      exact fromL (hd_at R hx hn).2
    · cases h
  | vw r pre off sz n' =>
    simp only [content] at h
    split at h
    · rename_i nd hn
      split at h
      · rename_i hle
        cases h
        rcases hx.vw_inv with ⟨hn0, a, cap, rfl⟩ | ⟨b, o, cap, hloc, rfl, hc⟩
        · subst hn0
          left
          exact ⟨by simp [shareCells], rfl, a, cap, rfl⟩
        · right
          refine ⟨b, o + off, cap, rfl, hc, ?_⟩
          have hcell := nav_cells R hn hloc
          intro j y hj
          obtain ⟨z, hz, rfl⟩ := shareCells_get hj
          obtain ⟨u, h1, h2, _⟩ := hcell _ _ (drop_take_get hz).1
          exact ⟨u, by rw [← h1, Nat.add_assoc], h2.shared⟩
      · cases h
    · cases h
  | rf i n' cs' =>
    cases h
    obtain ⟨b, o, cap, rfl, hle, _, _, _, _, hc⟩ := hx.rf_inv.rf_row
    exact .inr ⟨b, o, cap, rfl, hle, hc⟩
  | _ => cases h

theorem lenOf_sound {st : St} (R : Rel g w tm st.fr st.hp) {v : Value} {x : PV} {n : Nat} (hx : Slot g w st.hp.length tm t v x) (h : lenOf st x = some n) :
    (∃ s : ByteArray, v = .string s ∧ s.size = n) ∨ ∃ a cap, v = .slice a n cap := by
  cases x with
  | sl tg n' cs' =>
    cases h
    rcases hx.sl_inv.row with ⟨h1, h2, a, cap, rfl, _⟩ | ⟨b, o, cap, rfl, h1, h2, _⟩
    · subst h1; exact .inr ⟨a, cap, rfl⟩
    · exact .inr ⟨_, _, rfl⟩
  | hd r pre =>
    simp only [lenOf] at h
    split at h
    · rename_i tg n' cs' hn
      cases h
      rcases (hd_at R hx hn).2.row with ⟨h1, h2, a, cap, rfl, _⟩ | ⟨b, o, cap, rfl, h1, h2, _⟩
      · subst h1; exact .inr ⟨a, cap, rfl⟩
      · exact .inr ⟨_, _, rfl⟩
    · cases h
  | vw r pre off sz n' =>
    cases h
    rcases hx.vw_inv with ⟨rfl, a, cap, rfl⟩ | ⟨b, o, cap, hloc, rfl, hc⟩
    · exact .inr ⟨_, _, rfl⟩
    · exact .inr ⟨_, _, rfl⟩
  | str s =>
    cases h
    obtain ⟨b, rfl, rfl⟩ := hx.str_inv
    exact .inl ⟨b, rfl, (size_toList b).symm⟩
  | rf i n' cs' =>
    cases h
    obtain ⟨b, o, cap, rfl, _⟩ := hx.rf_inv.rf_row
    exact .inr ⟨_, _, rfl⟩
  | _ => cases h
end
end Go.PS
end

section
/-
  Loads, addresses, slices of slices.
-/
namespace Go.PS
section
variable {g : G} {w : World} {hn : Nat} {tm : Array Value} {fr : Fr} {hp : Heap} {P : Program} {t : Nat}

theorem addr_add (b o j : Nat) : (⟨b, o, none⟩ : Addr).add j = ⟨b, o + j, none⟩ := by
  unfold Addr.add; split
  · rename_i h; subst h; rfl
  · rfl

theorem run_loadAgg (T : TypeId) (i : TypeInfo) (hi : P.info? T = some i) (ha : isAggT P T = true) (b o : Nat) (f : Nat → Value)
    (h : ∀ j, j < sizeT P T → w.cell? ⟨b, o + j, none⟩ = some (f j)) :
    (Instr.loadAt T (.pointer (some ⟨b, o, none⟩))).run P w = .ok (.agg ((List.range (sizeT P T)).map f).toArray) w := by
  have hu : ∃ d, P.underlying T = some d := by
    unfold isAggT at ha; split at ha <;> first | exact ⟨_, ‹_›⟩ | cases ha
  obtain ⟨d, hd⟩ := hu
  have hl := run_loadCells (P := P) w ⟨b, o, none⟩ (sizeT P T) f (fun j hj => by rw [addr_add]; exact h j hj)
  simp [Instr.loadAt, Instr.sureAddr, loadVar, run_isAggT hd, ha, run_sizeT hi, hl]

theorem run_load1 (T : TypeId) (d : TypeDesc) (hd : P.underlying T = some d) (ha : isAggT P T = false) (b o : Nat) (v : Value)
    (h : w.cell? ⟨b, o, none⟩ = some v) : (Instr.loadAt T (.pointer (some ⟨b, o, none⟩))).run P w = .ok v w := by
  simp [Instr.loadAt, Instr.sureAddr, loadVar, run_isAggT hd, ha, h, go_sem]

theorem range_map_get {f : Nat → Value} {n j : Nat} {v : Value} (h : ((List.range n).map f).toArray[j]? = some v) : j < n ∧ v = f j := by
  rw [List.getElem?_toArray, List.getElem?_map] at h
  by_cases hj : j < n
  · rw [List.getElem?_range hj] at h; cases h; exact ⟨hj, rfl⟩
  · rw [List.getElem?_eq_none (by simpa using Nat.le_of_not_lt hj)] at h; cases h
theorem nav_box {st : St} {r : Root} {pre : Option Nat} {cs : List PV} (h : nav st r pre = some (.box cs)) : pre = none ∧ rootPV st r = .box cs := by
  unfold nav at h
  split at h
  · rename_i e; cases h; exact ⟨rfl, e⟩
  · cases h
  · cases h
  · split at h <;> cases h
  · cases h

/-- An operation's answer: what the model yields, and that it reads as the evaluator says, wherever it is put. -/
def Yields (P : Program) (g : G) (w : World) (hn : Nat) (tm : Array Value) (fr : Fr) (s : Sem Value) (x : PV) : Prop :=
  ∃ v, s.run P w = .ok v w ∧ (∀ t, Slot g w hn tm t v x) ∧ Lv fr x

theorem Yields.ofV {s : Sem Value} {x : PV} {v : Value} (h : s.run P w = .ok v w) (hv : V g w hn v x) : Yields P g w hn tm fr s x :=
  ⟨v, h, fun t => hv.slot t, hv.lv⟩

theorem load_sound {st : St} (R : Rel g w tm st.fr st.hp) (T : TypeId) (d : TypeDesc) (hd : P.underlying T = some d) {v : Value} {x z : PV}
    (hx : Slot g w st.hp.length tm t v x) (hlv : Lv st.fr x) (h : load P st T x = some z) :
    Yields P g w st.hp.length tm st.fr (Instr.loadAt T v) z := by
  obtain ⟨i, hi⟩ := info_of_underlying hd
  cases x with
  | ptr r pre off =>
    simp only [load] at h
    split at h
    · rename_i nd hn
      obtain ⟨b, o, hloc, rfl, hhn⟩ := hx.ptr_inv
      have hc := nav_cells R hn hloc
      split at h
      · rename_i ha
        split at h
        · rename_i hle
          have hf : ∀ j, ∃ u, j < sizeT P T → w.cell? ⟨b, o + off + j, none⟩ = some u ∧ ∃ y, nd.kids[off + j]? = some y ∧ L g w st.hp.length r (some (off + j)) u y ∧ ((∀ cs, nd ≠ .box cs) → V g w st.hp.length u y) := by
            intro j
            by_cases hj : j < sizeT P T
            · have hk : off + j < nd.kids.length := by omega
              obtain ⟨u, h1, h2, h3⟩ := hc _ _ (List.getElem?_eq_getElem hk)
              exact ⟨u, fun _ => ⟨by rw [← h1, Nat.add_assoc], _, List.getElem?_eq_getElem hk, h2, h3⟩⟩
            · exact ⟨Go.undef, fun h => (hj h).elim⟩
          have hrun := run_loadAgg (P := P) (w := w) T i hi ha b (o + off) (fun j => (hf j).choose) (fun j hj => ((hf j).choose_spec hj).1)
          split at h
          · cases h
            refine ⟨_, hrun, fun t => .agg ?_ ?_, fun t pre h => by cases h⟩
            · rw [shareCells_length]; simp; omega
            · intro j u y h1 h2
              obtain ⟨hj, rfl⟩ := range_map_get h1
              obtain ⟨z, hz, rfl⟩ := shareCells_get h2
              obtain ⟨h3, h4⟩ := drop_take_get hz
              obtain ⟨_, y', hy', hL, _⟩ := (hf j).choose_spec h4
              rw [h3] at hy'; cases hy'
              exact .of hL.shared
          · rename_i hnb
            cases h
            refine ⟨_, hrun, fun t => .agg ?_ ?_, fun t pre h => by cases h⟩
            · simp; omega
            · intro j u y h1 h2
              obtain ⟨hj, rfl⟩ := range_map_get h1
              obtain ⟨h3, h4⟩ := drop_take_get h2
              obtain ⟨_, y', hy', _, hV⟩ := (hf j).choose_spec h4
              rw [h3] at hy'; cases hy'
              exact .of (hV fun cs e => hnb cs e)
        · cases h
      · rename_i ha
        simp only [Bool.not_eq_true] at ha
        split at h
        · rename_i y hy
          obtain ⟨u, h1, h2, h3⟩ := hc _ _ hy
          have hrun := run_load1 (P := P) T d hd ha b (o + off) u h1
          split at h
          · rename_i cs
            cases h
            have hva : valAt g w tm r (some off) = some u := by
              rw [(nav_box hn).1] at hloc
              cases r <;> simp only [valAt, hloc] <;> exact h1
            have hroot : Lv st.fr (.hd r (some off)) := fun t pre h => by
              simp only [refOf, Option.some.injEq, Prod.mk.injEq] at h
              obtain ⟨rfl, rfl⟩ := h
              have hr := nav_box hn
              simp only [rootPV] at hr
              rw [hr.2]; rfl
            refine ⟨u, hrun, ?_, ?_⟩
            · intro t
              unfold viewCell
              split
              · exact .hd hva hhn
              · exact .hd hva hhn
              · rename_i hm ho
                exact (h2.toV (fun s n xs => ⟨fun e => hm _ _ _ e, fun e => ho _ _ _ e⟩)).slot t
            · unfold viewCell
              split
              · exact hroot
              · exact hroot
              · rename_i hm ho
                exact (h2.toV (fun s n xs => ⟨fun e => hm _ _ _ e, fun e => ho _ _ _ e⟩)).lv
          · rename_i hnb
            cases h
            exact Yields.ofV hrun (h3 fun cs e => hnb cs e)
        · cases h
    · cases h
  | ep cs off =>
    obtain ⟨b, o, rfl, himm, hc⟩ := hx.ep_inv
    simp only [load] at h
    split at h
    · rename_i ha
      split at h
      · rename_i hle
        cases h
        have hf : ∀ j, ∃ u, j < sizeT P T → w.cell? ⟨b, o + off + j, none⟩ = some u ∧ ∃ y, cs[off + j]? = some y ∧ V g w st.hp.length u y := by
          intro j
          by_cases hj : j < sizeT P T
          · have hk : off + j < cs.length := by omega
            obtain ⟨u, h1, h2⟩ := hc _ _ (List.getElem?_eq_getElem hk)
            exact ⟨u, fun _ => ⟨by rw [← h1, Nat.add_assoc], _, List.getElem?_eq_getElem hk, h2⟩⟩
          · exact ⟨Go.undef, fun h => (hj h).elim⟩
        have hrun := run_loadAgg (P := P) (w := w) T i hi ha b (o + off) (fun j => (hf j).choose) (fun j hj => ((hf j).choose_spec hj).1)
        refine ⟨_, hrun, fun t => .agg ?_ ?_, fun t pre h => by cases h⟩
        · simp; omega
        · intro j u y h1 h2
          obtain ⟨hj, rfl⟩ := range_map_get h1
          obtain ⟨h3, h4⟩ := drop_take_get h2
          obtain ⟨_, y', hy', hV⟩ := (hf j).choose_spec h4
          rw [h3] at hy'; cases hy'
          exact .of hV
      · cases h
    · rename_i ha
      simp only [Bool.not_eq_true] at ha
      obtain ⟨u, h1, h2⟩ := hc _ _ h
      exact Yields.ofV (run_load1 (P := P) T d hd ha b (o + off) u h1) h2
  | _ => cases h
end
end Go.PS
end

section
/-
  Addresses, parts, lengths.
-/
namespace Go.PS
section
variable {g : G} {w : World} {hn : Nat} {tm : Array Value} {fr : Fr} {hp : Heap} {P : Program} {t : Nat}

theorem Lv.same {x y : PV} (h : Lv fr x) (e : ∀ t pre, refOf y = some (.slot t, pre) → refOf x = some (.slot t, pre)) : Lv fr y :=
  fun t pre h' => h t pre (e t pre h')

theorem indexAddr_sound (Tb : Tabs P) {st : St} (R : Rel g w tm st.fr st.hp) (T : TypeId) {v u : Value} {x ix z : PV} {t' : Nat}
    (hx : Slot g w st.hp.length tm t v x) (hlv : Lv st.fr x) (hi : Slot g w st.hp.length tm t' u ix) (h : indexAddr P st T x ix = some z) :
    Yields P g w st.hp.length tm st.fr (Instr.indexAt T v u) z := by
  cases ix with
  | int k i =>
    have := hi.int_inv; subst this
    simp only [indexAddr] at h
    split at h
    · rename_i n e r pre off hu
      split at h
      · rename_i hb
        cases h
        obtain ⟨b, o, hloc, rfl, hhn⟩ := hx.ptr_inv
        obtain ⟨ie, _, hie, _, _⟩ := Tb.array _ _ _ hu
        refine ⟨.pointer (some ⟨b, o + (off + i.toNat * sizeT P e), none⟩), ?_, fun t => .ptr hloc hhn, hlv.same fun t pre h => h⟩
        simp [Instr.indexAt, asIntOf, run_underlying hu, Instr.sureAddr, hb, run_sizeT hie, addr_add, Nat.add_assoc]
      · cases h
    · rename_i n e cs off hu
      split at h
      · rename_i hb
        cases h
        obtain ⟨b, o, rfl, himm, hc⟩ := hx.ep_inv
        obtain ⟨ie, _, hie, _, _⟩ := Tb.array _ _ _ hu
        refine ⟨.pointer (some ⟨b, o + (off + i.toNat * sizeT P e), none⟩), ?_, fun t => .ep himm hc, fun t pre h => by cases h⟩
        simp [Instr.indexAt, asIntOf, run_underlying hu, Instr.sureAddr, hb, run_sizeT hie, addr_add, Nat.add_assoc]
      · cases h
    · rename_i e r pre hu
      split at h
      · rename_i tg n cs hn
        split at h
        · rename_i hb
          cases h
          obtain ⟨htg, hL⟩ := hd_at R hx hn
          obtain ⟨ie, hie⟩ := Tb.slice _ _ hu
          rcases hL.row with ⟨h1, _⟩ | ⟨b, o, cap, rfl, h1, h2, h3, _⟩
          · subst h1; omega
          · refine ⟨.pointer (some ⟨b, o + i.toNat * sizeT P e, none⟩), ?_, fun t => .ptr (h3 htg) ?_, hlv.same fun t pre h => h⟩
            · simp [Instr.indexAt, asIntOf, run_underlying hu, hb.1, hb.2.1, run_sizeT hie, addr_add]
            · intro i hr; subst hr
              cases hx with
              | of h => cases h with | of h => cases h
              | hd _ hi => exact hi i rfl
        · cases h
      · cases h
    · rename_i e r pre off sz n hu
      split at h
      · rename_i hb
        cases h
        obtain ⟨ie, hie⟩ := Tb.slice _ _ hu
        cases hx with
        | of h => cases h with | of h => cases h
        | @vw r pre off sz n cap b o hl hle hi =>
          refine ⟨.pointer (some ⟨b, o + (off + i.toNat * sizeT P e), none⟩), ?_, fun t => .ptr hl hi, hlv.same fun t pre h => h⟩
          simp [Instr.indexAt, asIntOf, run_underlying hu, hb.1, hb.2.1, run_sizeT hie, addr_add, Nat.add_assoc]
        | vw0 => omega
      · cases h
    · rename_i e ri n cs hu
      split at h
      · rename_i hb
        cases h
        obtain ⟨ie, hie⟩ := Tb.slice _ _ hu
        obtain ⟨b, o, cap, rfl, h1, _, _, _, h3, h4⟩ := hx.rf_inv.rf_row
        refine ⟨.pointer (some ⟨b, o + i.toNat * sizeT P e, none⟩), ?_, fun t => .ep h3 h4, fun t pre h => by cases h⟩
        simp [Instr.indexAt, asIntOf, run_underlying hu, hb.1, hb.2.1, run_sizeT hie, addr_add]
      · cases h
    · rename_i e tg n cs hu
      split at h
      · rename_i htg
        split at h
        · rename_i hb
          cases h
          obtain ⟨ie, hie⟩ := Tb.slice _ _ hu
          rcases hx.sl_inv.row with ⟨h1, _⟩ | ⟨b, o, cap, rfl, h1, h2, h3, h4⟩
          · subst h1; omega
          · refine ⟨.pointer (some ⟨b, o + i.toNat * sizeT P e, none⟩), ?_, fun t => .ep (h4 (by rcases htg with rfl | rfl <;> simp)) h2, fun t pre h => by cases h⟩
            simp [Instr.indexAt, asIntOf, run_underlying hu, hb.1, hb.2.1, run_sizeT hie, addr_add]
        · cases h
      · cases h
    · cases h
  | _ => simp [indexAddr] at h
end
end Go.PS
end

section
/-
  Slices of slices, of arrays, of texts.
-/
namespace Go.PS
section
variable {g : G} {w : World} {hn : Nat} {tm : Array Value} {fr : Fr} {hp : Heap} {P : Program} {t : Nat}

/-- A bound, if there is one, and its value. -/
inductive OptR (g : G) (w : World) (hn : Nat) (tm : Array Value) : Option Value → Option PV → Prop where
  | none : OptR g w hn tm none none
  | some {v x t} (h : Slot g w hn tm t v x) : OptR g w hn tm (some v) (some x)

theorem bound_sound {v : Value} {x : PV} {y l : Nat} (code : BoundsCode) (hx : Slot g w hn tm t v x) (h : bound x y = some l) :
    (∀ y', y ≤ y' → (Instr.sliceBound v y' code).run P w = .ok l w) ∧ l ≤ y := by
  unfold bound at h
  split at h
  · rename_i k i
    split at h
    · rename_i hb
      cases h
      have := hx.int_inv; subst this
      exact ⟨fun y' hy => run_sliceBound w k i y' code hb.1 (by omega), by omega⟩
    · cases h
  · cases h

theorem lowB_sound {lo : Option Value} {plo : Option PV} (h1 : OptR g w hn tm lo plo) (code : BoundsCode) {h l : Nat} (hh : lowB plo h = some l) :
    (match lo with | some v => Instr.sliceBound v h code | none => pure 0).run P w = .ok l w ∧ l ≤ h := by
  cases h1 with
  | none => cases hh; exact ⟨rfl, Nat.zero_le _⟩
  | some hs => obtain ⟨a, b⟩ := bound_sound (P := P) code hs hh; exact ⟨a h (Nat.le_refl _), b⟩

theorem bounds_sound {len cap : Nat} (hcap : len ≤ cap) (isSlice : Bool) {lo hi mx : Option Value} {plo phi pmx : Option PV} {l h : Nat} {m : Option Nat}
    (h1 : OptR g w hn tm lo plo) (h2 : OptR g w hn tm hi phi) (h3 : OptR g w hn tm mx pmx) (hb : bounds len plo phi pmx = some (l, h, m)) :
    (Instr.sliceBounds isSlice len cap lo hi mx).run P w = .ok (l, h, m.getD cap) w ∧ l ≤ h ∧ h ≤ len ∧ (∀ x, m = some x → h ≤ x ∧ x ≤ len) ∧ m.isSome = pmx.isSome := by
  unfold bounds at hb
  cases h3 with
  | none =>
    cases h2 with
    | none =>
      simp only [Option.map_eq_some_iff, Prod.mk.injEq] at hb
      obtain ⟨l', e1, rfl, rfl, rfl⟩ := hb
      obtain ⟨r1, r2⟩ := lowB_sound (P := P) h1 .sliceB e1
      refine ⟨?_, r2, Nat.le_refl _, fun x hx => by simp at hx, rfl⟩
      cases lo <;> simp [Instr.sliceBounds] at r1 ⊢ <;> simp [r1]
    | some hs =>
      rename_i vh xh th
      simp only at hb
      cases hbh : bound xh len with
      | none => simp [hbh] at hb
      | some h' =>
        simp only [hbh, Option.map_eq_some_iff, Prod.mk.injEq] at hb
        obtain ⟨l', e1, rfl, rfl, rfl⟩ := hb
        obtain ⟨r1, r2⟩ := lowB_sound (P := P) h1 .sliceB e1
        obtain ⟨s1, s2⟩ := bound_sound (P := P) (if isSlice = true then .sliceAcap else .sliceAlen) hs hbh
        have s1 := s1 cap hcap
        refine ⟨?_, r2, s2, fun x hx => by simp at hx, rfl⟩
        cases lo <;> simp [Instr.sliceBounds, s1] at r1 ⊢ <;> simp [r1]
  | some hm =>
    rename_i vm xm tmx
    cases h2 with
    | none => simp at hb
    | some hs =>
      rename_i vh xh th
      simp only at hb
      cases hbm : bound xm len with
      | none => simp [hbm] at hb
      | some m' =>
        simp only [hbm] at hb
        cases hbh : bound xh m' with
        | none => simp [hbh] at hb
        | some h' =>
          simp only [hbh, Option.map_eq_some_iff, Prod.mk.injEq] at hb
          obtain ⟨l', e1, rfl, rfl, rfl⟩ := hb
          obtain ⟨r1, r2⟩ := lowB_sound (P := P) h1 .slice3C e1
          obtain ⟨s1, s2⟩ := bound_sound (P := P) .slice3B hs hbh
          obtain ⟨q1, q2⟩ := bound_sound (P := P) (if isSlice = true then .slice3Acap else .slice3Alen) hm hbm
          have s1 := s1 m' (Nat.le_refl _)
          have q1 := q1 cap hcap
          refine ⟨?_, r2, by omega, fun x hx => by cases hx; exact ⟨s2, q2⟩, rfl⟩
          cases lo <;> simp [Instr.sliceBounds, s1, q1] at r1 ⊢ <;> simp [r1]

theorem extract_toList (s : ByteArray) (l h : Nat) (_hh : h ≤ s.size) : (s.extract l h).data.toList = (s.data.toList.drop l).take (h - l) := by
  rw [ByteArray.data_extract, Array.toList_extract]

theorem sub_cells {b o a n : Nat} {cs : List PV} (hc : Cells g w hn b o cs) : Cells g w hn b (o + a) ((cs.drop a).take n) := fun j y hj => by
  obtain ⟨h1, _⟩ := drop_take_get hj
  obtain ⟨v, h2, h3⟩ := hc _ _ h1
  exact ⟨v, by rw [← h2, Nat.add_assoc], h3⟩
theorem sub_imm {b o a n : Nat} {cs : List PV} (hi : ImmC g b o cs.length) : ImmC g b (o + a) ((cs.drop a).take n).length := fun j hj => by
  rw [List.length_take, List.length_drop] at hj
  rw [Nat.add_assoc]
  exact hi _ (by omega)

theorem slice_sound (Tb : Tabs P) {st : St} (R : Rel g w tm st.fr st.hp) (T : TypeId) {v : Value} {x z : PV} {lo hi mx : Option Value} {plo phi pmx : Option PV}
    (hx : Slot g w st.hp.length tm t v x) (hlv : Lv st.fr x) (h1 : OptR g w st.hp.length tm lo plo) (h2 : OptR g w st.hp.length tm hi phi) (h3 : OptR g w st.hp.length tm mx pmx)
    (h : sliceOp P st T x plo phi pmx = some z) : Yields P g w st.hp.length tm st.fr (Instr.sliceAt T v lo hi mx) z := by
  -- a slice whose header is known
  have ofSlice : ∀ {e n cap a l hh m} (ie : TypeInfo), P.underlying T = some (.slice e) → P.info? e = some ie → v = .slice a n cap → n ≤ cap → bounds n plo phi pmx = some (l, hh, m) →
      (Instr.sliceAt T v lo hi mx).run P w = .ok (.slice (if m.getD cap = l then a else a.map (·.add (l * sizeT P e))) (hh - l) (m.getD cap - l)) w ∧ l ≤ hh ∧ hh ≤ n ∧ (∀ x, m = some x → hh ≤ x ∧ x ≤ n) := by
    intro e n cap a l hh m ie hu hie hv hle hb
    subst hv
    obtain ⟨r1, r2, r3, r4, _⟩ := bounds_sound (P := P) hle true h1 h2 h3 hb
    refine ⟨?_, r2, r3, r4⟩
    simp [Instr.sliceAt, Instr.slice, run_underlying hu, r1, run_sizeT hie]
  have ofArray : ∀ {e n b o l hh m} (ie : TypeInfo), P.underlying T = some (.array n e) → P.info? e = some ie → v = .pointer (some ⟨b, o, none⟩) → bounds n plo phi pmx = some (l, hh, m) →
      (Instr.sliceAt T v lo hi mx).run P w = .ok (.slice (some (if m.getD n = l then ⟨b, o, none⟩ else (⟨b, o, none⟩ : Addr).add (l * sizeT P e))) (hh - l) (m.getD n - l)) w ∧ l ≤ hh ∧ hh ≤ n ∧ (∀ x, m = some x → hh ≤ x ∧ x ≤ n) := by
    intro e n b o l hh m ie hu hie hv hb
    subst hv
    obtain ⟨r1, r2, r3, r4, _⟩ := bounds_sound (P := P) (Nat.le_refl n) false h1 h2 h3 hb
    refine ⟨?_, r2, r3, r4⟩
    simp [Instr.sliceAt, Instr.sureAddr, run_underlying hu, r1, run_sizeT hie]
  cases x with
  | str s =>
    obtain ⟨b, rfl, rfl⟩ := hx.str_inv
    cases hu : P.underlying T with
    | none => simp [sliceOp, hu] at h
    | some d =>
      cases d <;> simp [sliceOp, hu] at h
      split at h
      · rename_i l hh hb
        cases h
        obtain ⟨r1, r2, r3, r4, r5⟩ := bounds_sound (P := P) (Nat.le_refl _) false h1 h2 h3 hb
        have hm : mx = none := by cases h3 with | none => rfl | some _ => simp at r5
        subst hm
        refine Yields.ofV (v := .string (b.extract l hh)) ?_ ?_
        · simp [Instr.sliceAt, Instr.slice, run_underlying hu, r1]
        · rw [← extract_toList b l hh r3]; exact .str _
      · cases h
  | hd r pre =>
    cases hu : P.underlying T with
    | none => simp [sliceOp, hu] at h
    | some d =>
      cases d <;> simp [sliceOp, hu] at h
      rename_i e
      obtain ⟨ie, hie⟩ := Tb.slice _ _ hu
      split at h
      · rename_i tg n cs hn
        obtain ⟨htg, hL⟩ := hd_at R hx hn
        have hhn : ∀ i, r = .heap i → i < st.hp.length ∧ g.cap i = 0 := by
          cases hx with
          | of h => cases h with | of h => cases h
          | hd _ hi => exact hi
        split at h
        · rename_i l hh hb
          split at h
          · rename_i hlen
            cases h
            rcases hL.row with ⟨hn0, _, a, cap, rfl, _⟩ | ⟨b, o, cap, rfl, hle, hc, hloc, _⟩
            · obtain ⟨r1, r2, r3, _⟩ := ofSlice ie hu hie (by rw [hn0]) (by rw [hn0]; exact Nat.zero_le _) hb
              have : hh - l = 0 := by omega
              rw [this] at r1 ⊢
              exact ⟨_, r1, fun t => .vw0 hhn, hlv.same fun t pre h => h⟩
            · obtain ⟨r1, r2, r3, _⟩ := ofSlice ie hu hie rfl hle hb
              by_cases hz : hh - l = 0
              · rw [hz] at r1 ⊢
                exact ⟨_, r1, fun t => .vw0 hhn, hlv.same fun t pre h => h⟩
              · refine ⟨_, r1, fun t => ?_, hlv.same fun t pre h => h⟩
                simp only [Option.getD_none]
                rw [if_neg (by omega)]
                simp only [Option.map_some, addr_add]
                exact .vw (hloc htg) (by omega) hhn
          · cases h
        · rename_i l hh m hb
          split at h
          · rename_i hml
            cases h
            subst hml
            rcases hL.row with ⟨hn0, _, a, cap, rfl, _⟩ | ⟨b, o, cap, rfl, hle, hc, hloc, _⟩
            · obtain ⟨r1, r2, r3, r4⟩ := ofSlice ie hu hie (by rw [hn0]) (by rw [hn0]; exact Nat.zero_le _) hb
              have := (r4 _ rfl).1
              simp only [Option.getD_some, if_true, Nat.sub_self] at r1
              rw [show hh - m = 0 by omega] at r1
              exact Yields.ofV r1 (.sl0 _ _)
            · obtain ⟨r1, r2, r3, r4⟩ := ofSlice ie hu hie rfl hle hb
              have := (r4 _ rfl).1
              simp only [Option.getD_some, if_true, Nat.sub_self] at r1
              rw [show hh - m = 0 by omega] at r1
              exact Yields.ofV r1 (.sl0 _ _)
          · cases h
        · cases h
      · cases h
  | vw r pre off sz n =>
    cases hu : P.underlying T with
    | none => simp [sliceOp, hu] at h
    | some d =>
      cases d <;> simp [sliceOp, hu] at h
      rename_i e
      obtain ⟨ie, hie⟩ := Tb.slice _ _ hu
      cases hx with
      | of h => cases h with | of h => cases h
      | @vw r pre off sz n cap b o hloc hle hhn =>
        split at h
        · rename_i l hh hb
          split at h
          · rename_i hsz
            cases h
            obtain ⟨r1, r2, r3, _⟩ := ofSlice ie hu hie rfl hle hb
            by_cases hz : hh - l = 0
            · rw [hz] at r1 ⊢
              exact ⟨_, r1, fun t => .vw0 hhn, hlv.same fun t pre h => h⟩
            · refine ⟨_, r1, fun t => ?_, hlv.same fun t pre h => h⟩
              simp only [Option.getD_none]
              rw [if_neg (by omega)]
              simp only [Option.map_some, addr_add, Nat.add_assoc, hsz]
              exact .vw hloc (by omega) hhn
          · cases h
        · rename_i l hh m hb
          split at h
          · rename_i hml
            cases h
            subst hml
            obtain ⟨r1, r2, r3, r4⟩ := ofSlice ie hu hie rfl hle hb
            have := (r4 _ rfl).1
            simp only [Option.getD_some, if_true, Nat.sub_self] at r1
            rw [show hh - m = 0 by omega] at r1
            exact Yields.ofV r1 (.sl0 _ _)
          · cases h
        · cases h
      | @vw0 r pre off sz a cap hhn =>
        split at h
        · rename_i l hh hb
          split at h
          · cases h
            obtain ⟨r1, r2, r3, _⟩ := ofSlice ie hu hie rfl (Nat.zero_le _) hb
            rw [show hh - l = 0 by omega] at r1 ⊢
            exact ⟨_, r1, fun t => .vw0 hhn, hlv.same fun t pre h => h⟩
          · cases h
        · rename_i l hh m hb
          split at h
          · rename_i hml
            cases h
            subst hml
            obtain ⟨r1, r2, r3, r4⟩ := ofSlice ie hu hie rfl (Nat.zero_le _) hb
            have := (r4 _ rfl).1
            simp only [Option.getD_some, if_true, Nat.sub_self] at r1
            rw [show hh - m = 0 by omega] at r1
            exact Yields.ofV r1 (.sl0 _ _)
          · cases h
        · cases h
  | sl tg n cs =>
    cases hu : P.underlying T with
    | none => simp [sliceOp, hu] at h
    | some d =>
      cases d <;> simp [sliceOp, hu] at h
      rename_i e
      obtain ⟨ie, hie⟩ := Tb.slice _ _ hu
      have hL := hx.sl_inv
      split at h
      · rename_i l hh hb
        split at h
        · rename_i hc
          obtain ⟨htg, hlen⟩ := hc
          cases h
          rcases hL.row with ⟨hn0, hcs, a, cap, rfl, _⟩ | ⟨b, o, cap, rfl, hle, hcells, _, himm⟩
          · obtain ⟨r1, r2, r3, _⟩ := ofSlice ie hu hie (by rw [hn0]) (by rw [hn0]; exact Nat.zero_le _) hb
            subst hn0 hcs
            have hz : hh - l = 0 := by omega
            rw [hz] at r1 ⊢
            have hl0 : l = 0 := by omega
            subst hl0
            simp only [Option.getD_none, List.drop_nil, List.take_nil] at r1 ⊢
            exact Yields.ofV r1 (.sh0 _ _)
          · obtain ⟨r1, r2, r3, _⟩ := ofSlice ie hu hie rfl hle hb
            have himm := himm (by rcases htg with rfl | rfl <;> simp)
            refine Yields.ofV r1 ?_
            simp only [Option.getD_none]
            split
            · rename_i hcl
              have hz : hh - l = 0 := by omega
              rw [hz, hcl]
              simp only [Nat.zero_mul, List.take_zero, Nat.sub_self]
              exact .sl0 _ _
            · simp only [Option.map_some, addr_add]
              exact V.sl_of (.inl rfl) (by omega) (sub_imm himm) (sub_cells hcells)
        · cases h
      · rename_i l hh m hb
        split at h
        · rename_i hml
          cases h
          subst hml
          have hv : ∃ a cap, v = .slice a n cap ∧ n ≤ cap := by
            rcases hL.row with ⟨hn0, _, a, cap, rfl, _⟩ | ⟨b, o, cap, rfl, hle, _⟩
            · exact ⟨a, cap, by rw [hn0], by omega⟩
            · exact ⟨_, _, rfl, hle⟩
          obtain ⟨a, cap, hv, hle⟩ := hv
          obtain ⟨r1, r2, r3, r4⟩ := ofSlice ie hu hie hv hle hb
          have := (r4 _ rfl).1
          simp only [Option.getD_some, if_true, Nat.sub_self] at r1
          rw [show hh - m = 0 by omega] at r1
          exact Yields.ofV r1 (.sl0 _ _)
        · cases h
      · cases h
  | ptr r pre off =>
    cases hu : P.underlying T with
    | none => simp [sliceOp, hu] at h
    | some d =>
      cases d <;> simp [sliceOp, hu] at h
      rename_i n e
      obtain ⟨ie, _, hie, _⟩ := Tb.array _ _ _ hu
      obtain ⟨b, o, hloc, rfl, hhn⟩ := hx.ptr_inv
      split at h
      · rename_i l hh hb
        cases h
        obtain ⟨r1, r2, r3, _⟩ := ofArray ie hu hie rfl hb
        by_cases hz : hh - l = 0
        · rw [hz] at r1 ⊢
          exact ⟨_, r1, fun t => .vw0 hhn, hlv.same fun t pre h => h⟩
        · refine ⟨_, r1, fun t => ?_, hlv.same fun t pre h => h⟩
          simp only [Option.getD_none]
          rw [if_neg (by omega), addr_add, Nat.add_assoc]
          exact .vw hloc (by omega) hhn
      · rename_i l hh m hb
        split at h
        · rename_i hml
          cases h
          subst hml
          obtain ⟨r1, r2, r3, r4⟩ := ofArray ie hu hie rfl hb
          have := (r4 _ rfl).1
          simp only [Option.getD_some, if_true, Nat.sub_self] at r1
          rw [show hh - m = 0 by omega] at r1
          exact Yields.ofV r1 (.sl0 _ _)
        · cases h
      · cases h
  | ep cs off =>
    cases hu : P.underlying T with
    | none => simp [sliceOp, hu] at h
    | some d =>
      cases d <;> simp [sliceOp, hu] at h
      rename_i n e
      obtain ⟨ie, _, hie, _⟩ := Tb.array _ _ _ hu
      obtain ⟨b, o, rfl, himm, hc⟩ := hx.ep_inv
      split at h
      · rename_i l hh hb
        split at h
        · rename_i hle
          cases h
          obtain ⟨r1, r2, r3, _⟩ := ofArray ie hu hie rfl hb
          refine Yields.ofV r1 ?_
          simp only [Option.getD_none]
          split
          · rename_i hcl
            have hz : hh - l = 0 := by omega
            rw [hz, hcl]
            simp only [Nat.zero_mul, List.take_zero, Nat.sub_self]
            exact .sl0 _ _
          · rw [addr_add, Nat.add_assoc]
            exact V.sl_of (.inl rfl) (by omega) (sub_imm himm) (sub_cells hc)
        · cases h
      · rename_i l hh m hb
        split at h
        · rename_i hml
          cases h
          subst hml
          obtain ⟨r1, r2, r3, r4⟩ := ofArray ie hu hie rfl hb
          have := (r4 _ rfl).1
          simp only [Option.getD_some, if_true, Nat.sub_self] at r1
          rw [show hh - m = 0 by omega] at r1
          exact Yields.ofV r1 (.sl0 _ _)
        · cases h
      · cases h
  | _ => cases hu : P.underlying T with
    | none => simp [sliceOp, hu] at h
    | some d => cases d <;> simp [sliceOp, hu] at h
end
end Go.PS
end

section
/-
  Numbers, conversions, lengths, parts of values.
-/
namespace Go.PS
section
variable {g : G} {w : World} {hn : Nat} {tm : Array Value} {fr : Fr} {hp : Heap} {P : Program} {t : Nat}

theorem un_sound (op : UnOp) {v : Value} {x z : PV} (hx : Slot g w hn tm t v x) (h : un op x = some z) : ∃ u, (Op.unary op v).run P w = .ok u w ∧ V g w hn u z := by
  cases op <;> cases x <;> simp [un] at h
  · have := hx.int_inv; subst this; subst h
    exact ⟨_, by simp [Op.unary, Op.intArith], .int _ _⟩
  · have := hx.int_inv; subst this
    simp only [binI, Option.some.injEq] at h
    subst h
    exact ⟨_, by simp [Op.unary, Op.intBits], .int _ _⟩
  · have := hx.bool_inv; subst this; subst h
    exact ⟨_, by simp [Op.unary], .bool _⟩

theorem bytesOf_ints : ∀ (cs : List PV) (l : List UInt8), bytesOf cs = some l → ∃ xs : List Int, cs = xs.map (PV.int .u8) ∧ l = xs.map fun n => UInt8.ofNat n.toNat
  | [], l, h => by cases h; exact ⟨[], rfl, rfl⟩
  | c :: cs, l, h => by
    unfold bytesOf at h
    split at h
    · rename_i e; cases e
    · rename_i n r e
      cases e
      split at h
      · rename_i l' hl
        cases h
        obtain ⟨xs, rfl, rfl⟩ := bytesOf_ints _ _ hl
        exact ⟨n :: xs, rfl, rfl⟩
      · cases h
    · cases h

theorem conv_sound (src dst : TypeId) {st : St} (R : Rel g w tm st.fr st.hp) {v : Value} {x z : PV} (hx : Slot g w st.hp.length tm t v x)
    (h : conv P st src dst x = some z) (hs : ¬ ∃ e s, P.underlying dst = some (.slice e) ∧ x = .str s) : ∃ u, (convert src dst v).run P w = .ok u w ∧ V g w st.hp.length u z := by
  unfold conv at h
  split at h
  · rename_i k0 k k1 n h1 h2
    have := hx.int_inv; subst this
    cases h
    refine ⟨.int k (k.wrap n), ?_, .int _ _⟩
    simp [convert, run_underlying h1, run_underlying h2, Conv.intToInt]
  · rename_i s h1 h2
    obtain ⟨b, rfl, rfl⟩ := hx.str_inv
    cases h
    refine ⟨.string b, ?_, .str _⟩
    simp [convert, run_underlying h1, run_underlying h2]
  · rename_i e s h1 h2
    exact (hs ⟨_, _, h2, rfl⟩).elim
  · rename_i x e h1 h2
    split at h
    · rename_i n cs he hc
      split at h
      · rename_i hlen
        simp only [Option.map_eq_some_iff] at h
        obtain ⟨l, hl, rfl⟩ := h
        obtain ⟨xs, rfl, rfl⟩ := bytesOf_ints _ _ hl
        rcases content_sound R hx hc with ⟨hcs, rfl, a, cap, rfl⟩ | ⟨b, o, cap, rfl, hle, hcells⟩
        · simp only [List.map_eq_nil_iff] at hcs
          subst hcs
          refine ⟨.string ByteArray.empty, ?_, .str _⟩
          rw [run_convert_bytes_string w src dst e _ 0 cap h1 he h2]
          cases a <;> simp [Conv.bytesToString, loadCells, loadCellsFrom]
        · refine ⟨.string (strOfNums xs), run_convert_bytes_arg w src e h1 he b o n cap xs (by simpa using hlen) (fun i hi => ?_) dst h2, .str _⟩
          have hi' : i < xs.length := by simp at hlen; omega
          obtain ⟨v, hv, hV⟩ := hcells i (.int .u8 xs[i]) (by simp [List.getElem?_eq_getElem hi'])
          cases hV
          rw [hv]
          simp [List.getD, List.getElem?_eq_getElem hi']
      · cases h
    · cases h
  · cases h

theorem field_of {T : TypeId} {i : Nat} {f : Field} (h : fieldOf P T i = some f) : ∃ fs, P.underlying T = some (.struct fs) ∧ fs[i]? = some f ∧ f ∈ fs := by
  unfold fieldOf at h
  split at h
  · rename_i fs hu; exact ⟨fs, hu, h, Array.mem_of_getElem? h⟩
  · cases h

theorem fieldAddr_sound (Tb : Tabs P) {T : TypeId} {i : Nat} {f : Field} (hf : fieldOf P T i = some f) (h0 : sizeT P f.type ≠ 0) (b o : Nat) :
    (Instr.fieldAt T (.pointer (some ⟨b, o, none⟩)) i).run P w = .ok (.pointer (some ⟨b, o + f.offset, none⟩)) w := by
  obtain ⟨fs, hu, hi, hm⟩ := field_of hf
  obtain ⟨j, hj⟩ := Tb.struct _ _ _ hu hm
  simp [Instr.fieldAt, run_underlying hu, hi, Instr.sureAddr, fieldPlace, run_sizeT hj, h0, addr_add]

theorem part_agg {T : TypeId} {d : TypeDesc} {i : TypeInfo} (hd : P.underlying T = some d) (hi : P.info? T = some i) (vs : Array Value) (off : Nat) :
    (isAggT P T = true → (part T vs off).run P w = .ok (.agg (vs.extract off (off + sizeT P T))) w) ∧
    (isAggT P T = false → ∀ v, vs[off]? = some v → (part T vs off).run P w = .ok v w) := by
  refine ⟨fun h => by simp [part, run_isAggT hd, h, run_sizeT hi], fun h v hv => by simp [part, run_isAggT hd, h, hv]⟩

theorem minL_sound : ∀ (r : List PV) (rs : List Value) (x z : PV) (v : Value), V g w hn v x → rs.length = r.length →
    (∀ (j : Nat) (u : Value) (y : PV), rs[j]? = some u → r[j]? = some y → ∃ t, Slot g w hn tm t u y) → minL x r = some z → ∃ u, (rs.foldlM Builtin.min2 v).run P w = .ok u w ∧ V g w hn u z
  | [], rs, x, z, v, hv, hl, _, h => by
    cases rs with
    | nil => cases h; exact ⟨v, by simp, hv⟩
    | cons _ _ => simp at hl
  | y :: r, rs, x, z, v, hv, hl, hs, h => by
    cases rs with
    | nil => simp at hl
    | cons u rs =>
      obtain ⟨t, hu⟩ := hs 0 u y rfl rfl
      unfold minL at h
      split at h
      · rename_i e; cases e
      · rename_i k a k' b r' e
        cases e
        split at h
        · rename_i hk
          subst hk
          cases hv
          have := hu.int_inv; subst this
          obtain ⟨u', h1, h2⟩ := minL_sound r rs _ z _ (.int k (if b < a then b else a)) (by simpa using hl) (fun j u y h1 h2 => hs (j + 1) u y (by simpa using h1) (by simpa using h2)) h
          exact ⟨u', by simp [List.foldlM, Builtin.min2, h1], h2⟩
        · cases h
      · cases h

theorem maxL_sound : ∀ (r : List PV) (rs : List Value) (x z : PV) (v : Value), V g w hn v x → rs.length = r.length →
    (∀ (j : Nat) (u : Value) (y : PV), rs[j]? = some u → r[j]? = some y → ∃ t, Slot g w hn tm t u y) → maxL x r = some z → ∃ u, (rs.foldlM Builtin.max2 v).run P w = .ok u w ∧ V g w hn u z
  | [], rs, x, z, v, hv, hl, _, h => by
    cases rs with
    | nil => cases h; exact ⟨v, by simp, hv⟩
    | cons _ _ => simp at hl
  | y :: r, rs, x, z, v, hv, hl, hs, h => by
    cases rs with
    | nil => simp at hl
    | cons u rs =>
      obtain ⟨t, hu⟩ := hs 0 u y rfl rfl
      unfold maxL at h
      split at h
      · rename_i e; cases e
      · rename_i k a k' b r' e
        cases e
        split at h
        · rename_i hk
          subst hk
          cases hv
          have := hu.int_inv; subst this
          obtain ⟨u', h1, h2⟩ := maxL_sound r rs _ z _ (.int k (if b > a then b else a)) (by simpa using hl) (fun j u y h1 h2 => hs (j + 1) u y (by simpa using h1) (by simpa using h2)) h
          exact ⟨u', by simp [List.foldlM, Builtin.max2, h1], h2⟩
        · cases h
      · cases h
end
end Go.PS
end

section
/-
  The operations that change nothing but their slot.
-/
namespace Go.PS
section
variable {g : G} {w : World} {hn : Nat} {tm : Array Value} {fr : Fr} {hp : Heap} {P : Program} {t : Nat}

theorem opv_noOwn {x : Operand} {z : PV} {fr : Fr} (h : noOwn (opv fr x) = some z) : z = opv fr x ∧ ∀ tg n cs, z = .sl tg n cs → ∀ s, tg ≠ .mu s ∧ tg ≠ .ow s := by
  unfold noOwn at h
  split at h
  · cases h
  · cases h
  · cases h
  · cases h
  · rename_i h1 h2 _ _
    cases h
    exact ⟨rfl, fun tg n cs e s => ⟨by rintro rfl; exact h1 _ _ _ e, by rintro rfl; exact h2 _ _ _ e⟩⟩

/-- What reads the same wherever it stands. -/
theorem Slot.move {v : Value} {x : PV} (h : Slot g w hn tm t v x) (hx : ∀ tg n cs, x = .sl tg n cs → ∀ s, tg ≠ .mu s ∧ tg ≠ .ow s) (ha : ∀ cs, x ≠ .agg cs) (hb : ∀ cs, x ≠ .box cs) (t' : Nat) : Slot g w hn tm t' v x := by
  cases h with
  | of h =>
    refine (h.toV fun s n xs => ⟨fun e => ?_, fun e => ?_⟩).slot t'
    · exact (hx _ _ _ e s).1 rfl
    · exact (hx _ _ _ e s).2 rfl
  | box h => exact (hb _ rfl).elim
  | agg hs h => exact (ha _ rfl).elim
  | tup hs h => exact .tup hs h
  | ptr hl hi => exact .ptr hl hi
  | hd h hi => exact .hd h hi
  | vw hl hle hi => exact .vw hl hle hi
  | vw0 hi => exact .vw0 hi
  | ep hi hc => exact .ep hi hc

theorem view_sound (R : Rel g w tm fr hp) (t : Nat) : (∀ t', Slot g w hp.length tm t' (tm.getD t Go.undef) (viewSlot t (get fr t))) ∧ Lv fr (viewSlot t (get fr t)) := by
  have h := R.slots t
  unfold viewSlot
  split
  · rename_i hg
    exact ⟨fun t' => .hd rfl (fun i e => by cases e), fun t'' pre e => by cases e; rw [hg]; rfl⟩
  · rename_i hg
    exact ⟨fun t' => .hd rfl (fun i e => by cases e), fun t'' pre e => by cases e; rw [hg]; rfl⟩
  · rename_i cs hg
    rw [hg] at h
    generalize tm.getD t Go.undef = vt at h
    cases h with
    | of h => cases h with | of h => cases h
    | @box b cs h =>
      exact ⟨fun t' => Slot.ptr (o := 0) (off := 0) h.loc (fun i e => by cases e), fun t'' pre e => by cases e; rw [hg]; rfl⟩
  · rename_i cs hg
    rw [hg] at h
    generalize tm.getD t Go.undef = vt at h
    obtain ⟨vs, rfl, h1, h2⟩ := h.agg_inv
    refine ⟨fun t' => .agg (by rw [shareCells_length]; exact h1) fun j v y hv hy => ?_, fun t'' pre e => by cases e⟩
    obtain ⟨z, hz, rfl⟩ := shareCells_get hy
    exact .of (h2 j v z hv hz).shared
  · rename_i v h1 h2 h3 h4
    refine ⟨fun t' => h.move (fun tg n cs e s => ⟨?_, ?_⟩) (fun cs e => h4 _ e) (fun cs e => h3 _ e) t', fun t'' pre e => R.live t t'' pre e⟩
    · rintro rfl; exact h1 _ _ _ e
    · rintro rfl; exact h2 _ _ _ e

theorem part_sound {T : TypeId} {d : TypeDesc} {i : TypeInfo} (hd : P.underlying T = some d) (hi : P.info? T = some i) {t0 : Nat} {vs : Array Value} {cs : List PV} (hs : vs.size = cs.length)
    (h : ∀ (j : Nat) (v : Value) (y : PV), vs[j]? = some v → cs[j]? = some y → L g w hn (.slot t0) (some j) v y) (off : Nat) (hle : off + sizeT P T ≤ cs.length) {z : PV}
    (hz : (if isAggT P T then some (.agg (shareCells ((cs.drop off).take (sizeT P T)))) else (cs[off]?).map shr) = some z) : ∃ r, (part T vs off).run P w = .ok r w ∧ V g w hn r z := by
  obtain ⟨p1, p2⟩ := part_agg (w := w) hd hi vs off
  cases ha : isAggT P T with
  | true =>
    simp only [ha, if_true, Option.some.injEq] at hz
    subst hz
    refine ⟨_, p1 ha, .agg _ _ (by rw [shareCells_length]; simp; omega) fun j v y hv hy => ?_⟩
    obtain ⟨z, hz, rfl⟩ := shareCells_get hy
    obtain ⟨h3, h4⟩ := drop_take_get hz
    rw [Array.getElem?_extract] at hv
    split at hv
    · exact (h _ _ _ hv h3).shared
    · cases hv
  | false =>
    simp only [ha, Bool.false_eq_true, if_false, Option.map_eq_some_iff] at hz
    obtain ⟨y, hy, rfl⟩ := hz
    have hlt := lt_of_some hy
    have hv : vs[off]? = some vs[off] := Array.getElem?_eq_getElem (by omega)
    exact ⟨_, p2 ha _ hv, (h _ _ _ hv hy).shared⟩

theorem field_sound (Tb : Tabs P) {T : TypeId} {i : Nat} {f : Field} (hf : fieldOf P T i = some f) {v : Value} {cs : List PV} (hx : Slot g w hn tm t v (.agg cs))
    (hle : f.offset + sizeT P f.type ≤ cs.length) {z : PV}
    (hz : (if isAggT P f.type then some (.agg (shareCells ((cs.drop f.offset).take (sizeT P f.type)))) else (cs[f.offset]?).map shr) = some z) :
    ∃ r, (Instr.field T v i).run P w = .ok r w ∧ V g w hn r z := by
  obtain ⟨fs, hu, hi, hm⟩ := field_of hf
  obtain ⟨j, hj⟩ := Tb.struct _ _ _ hu hm
  obtain ⟨d, hd⟩ := Tb.structU _ _ _ hu hm
  obtain ⟨vs, rfl, h1, h2⟩ := hx.agg_inv
  obtain ⟨r, h3, h4⟩ := part_sound (P := P) hd hj h1 h2 f.offset hle hz
  exact ⟨r, by simp [Instr.field, run_underlying hu, hi, asAgg, h3], h4⟩
end
end Go.PS
end

section
/-
  Structs and arrays compared; all binary operations.
-/
namespace Go.PS
section
variable {g : G} {w : World} {hn : Nat} {tm : Array Value} {fr : Fr} {hp : Heap} {P : Program} {t : Nat}

/-- A value's cells, as far as they are known. -/
def AggR (g : G) (w : World) (hn : Nat) (a : Value) (cs : List PV) : Prop :=
  ∃ xs : Array Value, a = .agg xs ∧ xs.size = cs.length ∧ ∀ (j : Nat) (v : Value) (y : PV), xs[j]? = some v → cs[j]? = some y → V g w hn v (shr y)
def OneR (g : G) (w : World) (hn : Nat) (a : Value) (cs : List PV) : Prop := ∃ y, cs = [y] ∧ V g w hn a (shr y)
def RT (P : Program) (g : G) (w : World) (hn : Nat) (T : TypeId) (a : Value) (cs : List PV) : Prop :=
  (isAggT P T = true ∧ AggR g w hn a cs) ∨ (isAggT P T = false ∧ OneR g w hn a cs)

theorem drop_take_one {α : Type} {l : List α} {a n : Nat} {y : α} (h : (l.drop a).take n = [y]) : l[a]? = some y := by
  have : ((l.drop a).take n)[0]? = some y := by rw [h]; rfl
  simpa using (drop_take_get this).1

theorem andL_cons {x : Option Bool} {xs : List (Option Bool)} {e : Bool} (h : andL (x :: xs) = some e) : ∃ a b, x = some a ∧ andL xs = some b ∧ e = (a && b) := by
  unfold andL at h
  split at h
  · cases h; exact ⟨_, _, rfl, by assumption, rfl⟩
  · cases h

theorem eqT_one {d : Nat} {T : TypeId} {cs ds : List PV} {e : Bool} (h : eqT P d T cs ds = some e) (ha : isAggT P T = false) : (∃ y, cs = [y]) ∧ ∃ y, ds = [y] := by
  cases d with
  | zero => cases h
  | succ d =>
    unfold eqT at h
    unfold isAggT at ha
    split at h
    · split at h
      · exact ⟨⟨_, rfl⟩, _, rfl⟩
      · cases h
    · split at h
      · exact ⟨⟨_, rfl⟩, _, rfl⟩
      · cases h
    · split at h
      · exact ⟨⟨_, rfl⟩, _, rfl⟩
      · cases h
    · rename_i hu; simp [hu] at ha
    · rename_i hu; simp [hu] at ha
    · cases h
theorem part_reads {T : TypeId} {u : TypeDesc} {i : TypeInfo} (hu : P.underlying T = some u) (hi : P.info? T = some i) {xs : Array Value} {cs : List PV} (hs : xs.size = cs.length)
    (h : ∀ (j : Nat) (v : Value) (y : PV), xs[j]? = some v → cs[j]? = some y → V g w hn v (shr y)) (off : Nat) (h1 : isAggT P T = false → ∃ y, (cs.drop off).take (sizeT P T) = [y]) :
    ∃ a, (part T xs off).run P w = .ok a w ∧ RT P g w hn T a ((cs.drop off).take (sizeT P T)) := by
  obtain ⟨p1, p2⟩ := part_agg (w := w) hu hi xs off
  cases ha : isAggT P T with
  | true =>
    refine ⟨_, p1 ha, .inl ⟨ha, ⟨_, rfl, by simp; omega, fun j v y hv hy => ?_⟩⟩⟩
    obtain ⟨h3, h4⟩ := drop_take_get hy
    rw [Array.getElem?_extract] at hv
    split at hv
    · exact h _ _ _ hv h3
    · cases hv
  | false =>
    obtain ⟨y, hy⟩ := h1 ha
    have hc := drop_take_one hy
    have hlt := lt_of_some hc
    have hv : xs[off]? = some xs[off] := Array.getElem?_eq_getElem (by omega)
    exact ⟨_, p2 ha _ hv, .inr ⟨ha, ⟨y, hy, h _ _ _ hv hc⟩⟩⟩

theorem eqFields_sound (Tb : Tabs P) {m : Nat} {xs ys : Array Value} {cs ds : List PV} (hs : xs.size = cs.length) (hs' : ys.size = ds.length)
    (h : ∀ (j : Nat) (v : Value) (y : PV), xs[j]? = some v → cs[j]? = some y → V g w hn v (shr y)) (h' : ∀ (j : Nat) (v : Value) (y : PV), ys[j]? = some v → ds[j]? = some y → V g w hn v (shr y)) (d : Nat)
    (ih : ∀ (T : TypeId) (a b : Value) (cs ds : List PV) (e : Bool), eqT P d T cs ds = some e → RT P g w hn T a cs → RT P g w hn T b ds → (Op.equalIn m T a b).run P w = .ok e w) :
    ∀ (fs : List Field) (e : Bool), (∀ f ∈ fs, (∃ u, P.underlying f.type = some u) ∧ ∃ i, P.info? f.type = some i) →
      andL (fs.map fun f => if f.name = "_" then some true else eqT P d f.type ((cs.drop f.offset).take (sizeT P f.type)) ((ds.drop f.offset).take (sizeT P f.type))) = some e →
      (Op.eqFields m xs ys fs).run P w = .ok e w
  | [], e, _, he => by cases he; simp [Op.eqFields]
  | f :: fs, e, hf, he => by
    obtain ⟨a, b, h1, h2, rfl⟩ := andL_cons he
    have h1 : (if f.name = "_" then some true else eqT P d f.type ((cs.drop f.offset).take (sizeT P f.type)) ((ds.drop f.offset).take (sizeT P f.type))) = some a := h1
    have hrest := eqFields_sound Tb hs hs' h h' d ih fs b (fun f' hf' => hf f' (by simp [hf'])) h2
    unfold Op.eqFields
    by_cases hn : f.name = "_"
    · rw [if_pos hn] at h1
      cases h1
      simp [hn, hrest]
    · rw [if_neg hn] at h1
      obtain ⟨⟨u, hu⟩, i, hi⟩ := hf f (by simp)
      obtain ⟨va, p1, r1⟩ := part_reads hu hi hs h f.offset (fun ha => (eqT_one h1 ha).1)
      obtain ⟨vb, p2, r2⟩ := part_reads hu hi hs' h' f.offset (fun ha => (eqT_one h1 ha).2)
      have h3 := ih _ _ _ _ _ _ h1 r1 r2
      simp only [hn, ne_eq, not_false_eq_true, if_true, Sem.run_bind, p1, p2, h3, Result.andThen_ok]
      cases a
      · simp
      · simpa using hrest

theorem eqItems_sound {m n : Nat} {E : TypeId} {xs ys : Array Value} {cs ds : List PV} (hs : xs.size = cs.length) (hs' : ys.size = ds.length)
    (h : ∀ (j : Nat) (v : Value) (y : PV), xs[j]? = some v → cs[j]? = some y → V g w hn v (shr y)) (h' : ∀ (j : Nat) (v : Value) (y : PV), ys[j]? = some v → ds[j]? = some y → V g w hn v (shr y)) (d : Nat)
    (ih : ∀ (T : TypeId) (a b : Value) (cs ds : List PV) (e : Bool), eqT P d T cs ds = some e → RT P g w hn T a cs → RT P g w hn T b ds → (Op.equalIn m T a b).run P w = .ok e w)
    {u : TypeDesc} {i : TypeInfo} (hu : P.underlying E = some u) (hi : P.info? E = some i) :
    ∀ (is : List Nat) (e : Bool), andL (is.map fun i => eqT P d E ((cs.drop (i * sizeT P E)).take (sizeT P E)) ((ds.drop (i * sizeT P E)).take (sizeT P E))) = some e →
      (Op.eqItems m E (sizeT P E) xs ys is).run P w = .ok e w
  | [], e, he => by cases he; simp [Op.eqItems]
  | k :: is, e, he => by
    obtain ⟨a, b, h1, h2, rfl⟩ := andL_cons he
    have h1 : eqT P d E ((cs.drop (k * sizeT P E)).take (sizeT P E)) ((ds.drop (k * sizeT P E)).take (sizeT P E)) = some a := h1
    have hrest := eqItems_sound (n := n) hs hs' h h' d ih hu hi is b h2
    unfold Op.eqItems
    obtain ⟨va, p1, r1⟩ := part_reads hu hi hs h (k * sizeT P E) (fun ha => (eqT_one h1 ha).1)
    obtain ⟨vb, p2, r2⟩ := part_reads hu hi hs' h' (k * sizeT P E) (fun ha => (eqT_one h1 ha).2)
    have h3 := ih _ _ _ _ _ _ h1 r1 r2
    simp only [Sem.run_bind, p1, p2, h3, Result.andThen_ok]
    cases a
    · simp
    · simpa using hrest

theorem V.shr_int {v : Value} {k : IntKind} {n : Int} (h : V g w hn v (shr (.int k n))) : v = .int k n := by cases h; rfl
theorem V.shr_bool {v : Value} {b : Bool} (h : V g w hn v (shr (.bool b))) : v = .bool b := by cases h; rfl
theorem V.shr_str {v : Value} {s} (h : V g w hn v (shr (.str s))) : ∃ b : ByteArray, v = .string b ∧ b.data.toList = s := by cases h; exact ⟨_, rfl, rfl⟩

theorem eqT_sound (Tb : Tabs P) : ∀ (d m : Nat) (T : TypeId) (a b : Value) (cs ds : List PV) (e : Bool), eqT P d T cs ds = some e → RT P g w hn T a cs → RT P g w hn T b ds →
    (Op.equalIn (m + d) T a b).run P w = .ok e w
  | 0, _, _, _, _, _, _, _, h, _, _ => by cases h
  | d + 1, m, T, a, b, cs, ds, e, h, ra, rb => by
    unfold eqT at h
    have one : isAggT P T = false → OneR g w hn a cs ∧ OneR g w hn b ds := fun ha => by
      rcases ra with ⟨h1, _⟩ | ⟨_, h1⟩
      · rw [ha] at h1; cases h1
      rcases rb with ⟨h2, _⟩ | ⟨_, h2⟩
      · rw [ha] at h2; cases h2
      exact ⟨h1, h2⟩
    have two : isAggT P T = true → AggR g w hn a cs ∧ AggR g w hn b ds := fun ha => by
      rcases ra with ⟨_, h1⟩ | ⟨h1, _⟩
      · rcases rb with ⟨_, h2⟩ | ⟨h2, _⟩
        · exact ⟨h1, h2⟩
        · rw [ha] at h2; cases h2
      · rw [ha] at h1; cases h1
    rw [show m + (d + 1) = (m + d) + 1 from rfl]
    split at h
    · rename_i hu
      obtain ⟨⟨y, e1, v1⟩, z, e2, v2⟩ := one (by simp [isAggT, hu])
      split at h
      · cases e1; cases e2; cases h
        have := v1.shr_bool; have := v2.shr_bool; subst_vars
        simp [Op.equalIn, run_underlying hu]
      · cases h
    · rename_i hu
      obtain ⟨⟨y, e1, v1⟩, z, e2, v2⟩ := one (by simp [isAggT, hu])
      split at h
      · cases e1; cases e2
        split at h
        · rename_i hk
          cases h
          have := v1.shr_int; have := v2.shr_int; subst_vars
          simp [Op.equalIn, run_underlying hu]
        · cases h
      · cases h
    · rename_i hu
      obtain ⟨⟨y, e1, v1⟩, z, e2, v2⟩ := one (by simp [isAggT, hu])
      split at h
      · cases e1; cases e2; cases h
        obtain ⟨b1, rfl, rfl⟩ := v1.shr_str
        obtain ⟨b2, rfl, rfl⟩ := v2.shr_str
        rw [run_equalIn_string w (m + d) T b1 b2 hu, toList_eq, toList_eq]
      · cases h
    · rename_i fs hu
      obtain ⟨⟨xs, rfl, s1, v1⟩, ys, rfl, s2, v2⟩ := two (by simp [isAggT, hu])
      split at h
      · cases h
      · rename_i hst
        simp only [Bool.not_eq_true] at hst
        have hfs : P.fieldsOf T = fs := by simp [Program.fieldsOf, hu]
        rw [run_equalIn_struct w (m + d) T xs ys (by rw [hfs]; exact hu) hst, hfs]
        exact eqFields_sound Tb s1 s2 v1 v2 d (fun T a b cs ds e h r1 r2 => eqT_sound Tb d m T a b cs ds e h r1 r2) fs.toList e
          (fun f hf => ⟨Tb.structU _ _ _ hu (by simpa using hf), Tb.struct _ _ _ hu (by simpa using hf)⟩) h
    · rename_i n E hu
      obtain ⟨⟨xs, rfl, s1, v1⟩, ys, rfl, s2, v2⟩ := two (by simp [isAggT, hu])
      obtain ⟨i, _, hi, _⟩ := Tb.array _ _ _ hu
      obtain ⟨u, hU⟩ := Tb.arrayU _ _ _ hu
      have hce : P.cellsOf E = sizeT P E := by simp [Program.cellsOf, sizeT, hi]
      rw [run_equalIn_array w (m + d) xs ys hu hi, hce]
      exact eqItems_sound (n := n) s1 s2 v1 v2 d (fun T a b cs ds e h r1 r2 => eqT_sound Tb d m T a b cs ds e h r1 r2) hU hi (List.range n) e h
    · cases h

theorem Slot.aggR {v : Value} {cs : List PV} (h : Slot g w hn tm t v (.agg cs)) : AggR g w hn v cs := by
  obtain ⟨vs, rfl, h1, h2⟩ := h.agg_inv
  exact ⟨vs, rfl, h1, fun j v y hv hy => (h2 j v y hv hy).shared⟩

theorem binF_sound (op : BinOp) (k : FloatKind) (a b : Nat) (z : PV) (T : TypeId) (ox oy : Operand) (h : binF op k a b = some z) :
    ∃ r, (do eqGuard op T ox oy (.float k a) (.float k b); Go.binOp op T (.float k a) (.float k b) : Sem Value).run P w = .ok r w ∧ V g w hn r z := by
  cases op <;> simp [binF] at h <;> subst h <;> exact ⟨_, by simp [eqGuard, Go.binOp, Op.floatCmp, go_sem], .bool _⟩
theorem bin_sound (Tb : Tabs P) (T : TypeId) (op : BinOp) {v u : Value} {x y z : PV} {t t' : Nat} (ox oy : Operand) (hx : Slot g w hn tm t v x) (hy : Slot g w hn tm t' u y) (h : bin P T op x y = some z) :
    ∃ r, (do eqGuard op T ox oy v u; Go.binOp op T v u : Sem Value).run P w = .ok r w ∧ V g w hn r z := by
  unfold bin at h
  split at h
  · rename_i k a k' b
    have := hx.raw_inv; have := hy.raw_inv; subst_vars
    split at h
    · rename_i hk
      subst hk
      exact binF_sound op k a b z T ox oy h
    · cases h
  · rename_i k a k' b
    have := hx.int_inv; have := hy.int_inv; subst_vars
    split at h
    · split at h
      · cases h
      · rename_i hb
        cases h
        exact ⟨_, by simp [eqGuard, Go.binOp, Op.shift, hb, go_sem], .int _ _⟩
    · split at h
      · cases h
      · rename_i hb
        cases h
        exact ⟨_, by simp [eqGuard, Go.binOp, Op.shift, hb, go_sem], .int _ _⟩
    · split at h
      · rename_i hk
        subst hk
        exact binI_sound op k a b z T ox oy h
      · cases h
  · obtain ⟨b1, rfl, rfl⟩ := hx.str_inv
    obtain ⟨b2, rfl, rfl⟩ := hy.str_inv
    exact binS_sound op b1 b2 z T ox oy h
  · have key : ∀ e, (op = .eql ∨ op = .neq) → eqVal P T x y = some e → (do eqGuard op T ox oy v u; Go.binOp op T v u : Sem Value).run P w = .ok (.bool (boolOf op e)) w := by
      intro e hop he
      by_cases hagg : ∃ a b, x = .agg a ∧ y = .agg b
      · obtain ⟨a, b, rfl, rfl⟩ := hagg
        have hT : isAggT P T = true ∧ P.eqGuardType P.depth T = false ∧ eqT P 20 T a b = some e := by
          unfold eqVal at he
          split at he <;> first | (rename_i hu _ _; split at he <;> simp_all [isAggT]) | simp_all
        obtain ⟨h1, h2, h3⟩ := hT
        have ra := hx.aggR
        have rb := hy.aggR
        have := eqT_sound Tb 20 9980 T v u a b e h3 (.inl ⟨h1, ra⟩) (.inl ⟨h1, rb⟩)
        obtain ⟨xs, rfl, _⟩ := ra
        obtain ⟨ys, rfl, _⟩ := rb
        simp only [Sem.run_bind, run_eqGuard_agg w op T ox oy xs ys h2, Result.andThen_ok]
        rcases hop with rfl | rfl
        · rw [run_eql_struct, this]; rfl
        · rw [run_neq_struct, this]; rfl
      · exact eqVal_sound op hop T ox oy he hx hy fun a b hh => hagg ⟨a, b, hh.1, hh.2⟩
    split at h
    · simp only [Option.map_eq_some_iff] at h
      obtain ⟨e, he, rfl⟩ := h
      exact ⟨_, key e (.inl rfl) he, .bool _⟩
    · simp only [Option.map_eq_some_iff] at h
      obtain ⟨e, he, rfl⟩ := h
      exact ⟨_, key e (.inr rfl) he, .bool _⟩
    · cases h
end
end Go.PS
end

section
/-
  Maps that are looked up.
-/
namespace Go.PS
section
variable {g : G} {w : World} {hn : Nat} {tm : Array Value} {fr : Fr} {hp : Heap} {P : Program} {t : Nat}

theorem run_getObj_map {b : Nat} {es : Array MapEntry} {c : Nat} (h : w.heap[b]? = some (.map es c)) : (getObj b).run P w = .ok (.map es c) w := by
  simp [getObj, Sem.run, h]

theorem keyT_desc {K : TypeId} {x : PV} (h : keyT P K x = true) : (∃ k n k', P.underlying K = some (.int k') ∧ x = .int k n) ∨ ∃ s, P.underlying K = some .string ∧ x = .str s := by
  unfold keyT at h
  split at h
  · rename_i k' k n hu; exact .inl ⟨k, n, k', hu, rfl⟩
  · rename_i s hu; exact .inr ⟨s, hu, rfl⟩
  · cases h

theorem run_checkKey' {K : TypeId} {x : PV} (h : keyT P K x = true) (e : Bool) (v : Value) (n : Nat) : (Instr.checkKey e (n + 1) K v).run P w = .ok () w := by
  rcases keyT_desc h with ⟨k, m, k', hu, rfl⟩ | ⟨s, hu, rfl⟩
  · cases v <;> simp [Instr.checkKey, run_underlying hu]
  · cases v <;> simp [Instr.checkKey, run_underlying hu]
theorem run_checkKey {K : TypeId} {x : PV} (h : keyT P K x = true) (e : Bool) (v : Value) : (Instr.checkKey e 10000 K v).run P w = .ok () w := run_checkKey' h e v 9999

theorem V.int_eq {v : Value} {k : IntKind} {n : Int} (h : V g w hn v (.int k n)) : v = .int k n := by cases h; rfl
theorem V.str_eq {v : Value} {s : List UInt8} (h : V g w hn v (.str s)) : ∃ b : ByteArray, v = .string b ∧ b.data.toList = s := by cases h; exact ⟨_, rfl, rfl⟩

theorem beq_data (p q : ByteArray) : (p == q) = (p.data.toList == q.data.toList) := by
  have e : (p == q) = (p.data == q.data) := by cases p; cases q; rfl
  rw [e, Bool.eq_iff_iff, beq_iff_eq, beq_iff_eq]
  exact ⟨fun h => by rw [h], fun h => by cases p; cases q; simp at h ⊢; exact h⟩

theorem sameNow_sound {K : TypeId} {x y : PV} {u v : Value} {d : TypeDesc} {r : Bool} (h : keyT P K x = true) (hd : P.underlying K = some d) (hx : V g w hn u x) (hy : V g w hn v y) (hs : sameK x y = some r) : Instr.sameNow d u v = some r := by
  rcases keyT_desc h with ⟨k, n, k', hu, rfl⟩ | ⟨s, hu, rfl⟩
  · rw [hd] at hu; cases hu
    unfold sameK at hs
    split at hs
    · rename_i k1 a k2 b e
      cases e
      split at hs
      · rename_i hk; subst hk; cases hs
        rw [hx.int_eq, hy.int_eq]
        simp [Instr.sameNow]
      · cases hs
    · rename_i e; cases e
    · cases hs
  · rw [hd] at hu; cases hu
    unfold sameK at hs
    split at hs
    · rename_i e; cases e
    · rename_i a b e
      cases e
      cases hs
      obtain ⟨p, rfl, rfl⟩ := hx.str_eq
      obtain ⟨q, rfl, rfl⟩ := hy.str_eq
      simp only [Instr.sameNow, Option.some.injEq]
      exact beq_data p q
    · cases hs

theorem findNow_sound {K : TypeId} {x : PV} {u : Value} {d : TypeDesc} (h : keyT P K x = true) (hd : P.underlying K = some d) (hx : V g w hn u x) : ∀ (es : List MapEntry) (ks : List PV) (n : Nat) (r : Option Nat), es.length = ks.length →
    (∀ (j : Nat) (e : MapEntry) (y : PV), es[j]? = some e → ks[j]? = some y → V g w hn e.key y) → findK x ks = some r →
    (r = none → Instr.findNow d u es n = some none) ∧ ∀ j, r = some j → ∃ e, es[j]? = some e ∧ Instr.findNow d u es n = some (some (n + j, e.val))
  | [], ks, n, r, hl, hv, hf => by
    cases ks with
    | nil => cases hf; exact ⟨fun _ => rfl, fun j e => (by cases e)⟩
    | cons _ _ => simp at hl
  | e :: es, ks, n, r, hl, hv, hf => by
    cases ks with
    | nil => simp at hl
    | cons y ys =>
      unfold findK at hf
      have hs : ∀ b, sameK x y = some b → Instr.sameNow d u e.key = some b := fun b hb => sameNow_sound h hd hx (hv 0 e y rfl rfl) hb
      split at hf
      · rename_i hb
        cases hf
        refine ⟨fun e => (by cases e), fun j ej => ?_⟩
        cases ej
        exact ⟨e, rfl, by simp [Instr.findNow, hs _ hb]⟩
      · rename_i hb
        have ih := findNow_sound h hd hx es ys (n + 1)
        have hl' : es.length = ys.length := by simpa using hl
        have hv' : ∀ (j : Nat) (e : MapEntry) (y : PV), es[j]? = some e → ys[j]? = some y → V g w hn e.key y := fun j e' y' h1 h2 => hv (j + 1) e' y' (by simpa using h1) (by simpa using h2)
        split at hf
        · rename_i m hm
          cases hf
          obtain ⟨_, h2⟩ := ih _ hl' hv' hm
          obtain ⟨e', h3, h4⟩ := h2 m rfl
          refine ⟨fun e => (by cases e), fun j ej => ?_⟩
          cases ej
          exact ⟨e', by simpa using h3, by simp [Instr.findNow, hs _ hb, h4]; omega⟩
        · rename_i r' hr
          cases r with
          | none =>
            obtain ⟨h1, _⟩ := ih _ hl' hv' hf
            exact ⟨fun _ => by simp [Instr.findNow, hs _ hb, h1 rfl], fun j e => (by cases e)⟩
          | some m => exact (hr _ hf).elim
      · cases hf

theorem run_findKey {K : TypeId} {x : PV} {u : Value} {es : Array MapEntry} {ks : List PV} {r : Option Nat} (h : keyT P K x = true) (hx : V g w hn u x) (hl : es.size = ks.length)
    (hv : ∀ (j : Nat) (e : MapEntry) (y : PV), es[j]? = some e → ks[j]? = some y → V g w hn e.key y) (hf : findK x ks = some r) :
    (r = none → (Instr.findKey K u es.toList).run P w = .ok none w) ∧ ∀ j, r = some j → ∃ e, es[j]? = some e ∧ (Instr.findKey K u es.toList).run P w = .ok (some (j, e.val)) w := by
  obtain ⟨d, hd⟩ : ∃ d, P.underlying K = some d := by rcases keyT_desc h with ⟨k, n, k', hu, _⟩ | ⟨s, hu, _⟩ <;> exact ⟨_, hu⟩
  obtain ⟨h1, h2⟩ := findNow_sound h hd hx es.toList ks 0 r (by simpa using hl) (fun j e y he hy => hv j e y (by simpa using he) hy) hf
  refine ⟨fun e => ?_, fun j e => ?_⟩
  · simp [Instr.findKey, run_underlying hd, h1 e]
  · obtain ⟨e', h3, h4⟩ := h2 j e
    refine ⟨e', by simpa using h3, ?_⟩
    rw [Nat.zero_add] at h4
    simp [Instr.findKey, run_underlying hd, h4]

theorem zeroV_sound {T : TypeId} {z : PV} (h : zeroV P T = some z) : ∃ v, (zeroValue T).run P w = .ok v w ∧ V g w hn v z := by
  unfold zeroV at h
  split at h
  · rename_i i hi
    split at h
    · rename_i vs hz
      cases h
      refine ⟨.agg vs, by simp [zeroValue, Go.typeInfo, hi, hz, go_sem], .agg _ _ (by simp) fun j u y hu hy => ?_⟩
      simp only [List.getElem?_map, Array.getElem?_toList, hu, Option.map_some, Option.some.injEq] at hy
      subst hy
      exact ofConst_sound u
    · rename_i v _ hz
      cases h
      exact ⟨v, by simp [zeroValue, Go.typeInfo, hi, hz, go_sem], ofConst_sound v⟩
    · cases h
  · cases h

theorem lookup_sound {st : St} (R : Rel g w tm st.fr st.hp) {T : TypeId} {x ix z : PV} {ok : Bool} {u i : Value} {t1 t2 : Nat} (hx : Slot g w st.hp.length tm t1 u x) (hi : Slot g w st.hp.length tm t2 i ix)
    (h : lookupOp P st T x ix ok = some z) : ∃ v, (Instr.lookup T u i ok).run P w = .ok v w ∧ (∀ t, Slot g w st.hp.length tm t v z) ∧ Lv st.fr z := by
  unfold lookupOp at h
  split at h
  · rename_i K E ks vs hT hm
    have hes : ∃ es : Array MapEntry, ((u = .map none ∧ es = #[]) ∨ ∃ b c, u = .map (some b) ∧ w.heap[b]? = some (.map es c)) ∧ es.size = ks.length ∧ es.size = vs.length ∧
        ∀ (j : Nat) (e : MapEntry), es[j]? = some e → (∀ x, ks[j]? = some x → V g w st.hp.length e.key x) ∧ (∀ y, vs[j]? = some y → V g w st.hp.length e.val y) := by
      unfold mapAt at hm
      split at hm
      · rename_i m
        split at hm
        · rename_i ks' vs' hh
          cases hm
          obtain ⟨b, hO, es, c, h1, h2, h3, h4⟩ := R.maps _ _ _ hh
          have hV : u = .map (some b) := by
            cases hx with
            | of hx => cases hx with
              | of hx => cases hx with
                | mp _ b' _ hl => have := hO.loc; rw [hl] at this; cases this; rfl
          subst hV
          exact ⟨es, .inr ⟨b, c, rfl, h1⟩, h2, h3, h4⟩
        · cases hm
      · cases hm
        have := hx.raw_inv; subst this
        exact ⟨#[], .inl ⟨rfl, rfl⟩, rfl, rfl, fun j e he => by simp at he⟩
      · cases hm
    obtain ⟨es, e1, e2, e3, e4⟩ := hes
    split at h
    · rename_i y b hL
      unfold lookupV at hL
      split at hL
      · rename_i hk
        have hiV : V g w st.hp.length i ix := by
          rcases keyT_desc hk with ⟨k, n, k', _, rfl⟩ | ⟨s, _, rfl⟩
          · cases hi with | of hi => cases hi with | of hi => exact hi
          · cases hi with | of hi => cases hi with | of hi => exact hi
        have fin : ∀ (v : Value), V g w st.hp.length v y → (Instr.lookup T u i ok).run P w = .ok (if ok then .tuple #[v, .bool b] else v) w →
            ∃ v, (Instr.lookup T u i ok).run P w = .ok v w ∧ (∀ t, Slot g w st.hp.length tm t v z) ∧ Lv st.fr z := fun v hv hr => by
          cases h
          refine ⟨_, hr, ?_⟩
          cases ok with
          | false => exact ⟨fun t => hv.slot t, hv.lv⟩
          | true =>
            refine ⟨fun t => .tup rfl fun j v' y' hj hy => ?_, fun t pre e => by cases e⟩
            match j, hj, hy with
            | 0, hj, hy => simp at hj hy; subst hj hy; exact hv
            | 1, hj, hy => simp at hj hy; subst hj hy; exact .bool _
            | j + 2, hj, hy => simp at hy
        have kv := fun (j : Nat) (e : MapEntry) (y : PV) (he : es[j]? = some e) (hy : ks[j]? = some y) => (e4 j e he).1 y hy
        have hrun : ∀ (q : Option (Nat × Value)) (v : Value) , (Instr.findKey K i es.toList).run P w = .ok q w → (∀ p, q = some p → v = p.2 ∧ b = true) → (q = none → (zeroValue E).run P w = .ok v w ∧ b = false) →
            (Instr.lookup T u i ok).run P w = .ok (if ok then .tuple #[v, .bool b] else v) w := fun q v hq h1 h2 => by
          rcases e1 with ⟨rfl, rfl⟩ | ⟨b1, c1, rfl, hb1⟩
          · unfold Instr.lookup
            simp only [Sem.run_bind, run_underlying hT, Result.andThen_ok, Sem.run_pure, run_checkKey hk, hq]
            cases q with
            | none =>
              obtain ⟨h3, rfl⟩ := h2 rfl
              cases ok <;> simp [h3]
            | some p =>
              obtain ⟨rfl, rfl⟩ := h1 _ rfl
              cases ok <;> simp
          · unfold Instr.lookup
            simp only [Sem.run_bind, run_underlying hT, Result.andThen_ok, Sem.run_pure, run_getObj_map hb1, run_checkKey hk, hq]
            cases q with
            | none =>
              obtain ⟨h3, rfl⟩ := h2 rfl
              cases ok <;> simp [h3]
            | some p =>
              obtain ⟨rfl, rfl⟩ := h1 _ rfl
              cases ok <;> simp
        split at hL
        · rename_i j hf
          split at hL
          · rename_i y' hy'
            cases hL
            obtain ⟨_, h2⟩ := run_findKey hk hiV e2 kv hf
            obtain ⟨e, h3, h4⟩ := h2 j rfl
            exact fin e.val ((e4 j e h3).2 _ hy') (hrun _ _ h4 (fun p hp => by cases hp; exact ⟨rfl, rfl⟩) (fun hp => by cases hp))
          · cases hL
        · rename_i hf
          split at hL
          · rename_i z' hz'
            cases hL
            obtain ⟨v, hv1, hv2⟩ := zeroV_sound (g := g) (w := w) (hn := st.hp.length) hz'
            obtain ⟨h1, _⟩ := run_findKey hk hiV e2 kv hf
            exact fin v hv2 (hrun _ _ (h1 rfl) (fun p hp => by cases hp) (fun _ => ⟨hv1, rfl⟩))
          · cases hL
        · cases hL
      · cases hL
    · cases h
  · cases h
end
end Go.PS
end

section
/-
  The operations that change nothing but their slot, all together.
-/
namespace Go.PS
section
variable {g : G} {w : World} {hn : Nat} {tm : Array Value} {fr : Fr} {hp : Heap} {P : Program} {t : Nat}

theorem optR_map (R : Rel g w tm fr hp) (a : Act) (ha : a.tmps = tm) (x : Option Operand) : OptR g w hp.length tm (x.map a.eval) (x.map (opv fr)) := by
  cases x with
  | none => exact .none
  | some x =>
    obtain ⟨⟨t, h⟩, _⟩ := opv_sound R a ha x
    exact .some h

theorem Slot.fnV {v : Value} {f cap} (h : Slot g w hn tm t v (.fn f cap)) : V g w hn v (.fn f cap) := by
  cases h with | of h => cases h with | of h => exact h

theorem args_slots (R : Rel g w tm fr hp) (a : Act) (ha : a.tmps = tm) (r : List Operand) (j : Nat) (u : Value) (y : PV) (hu : (r.map a.eval)[j]? = some u) (hy : (r.map (opv fr))[j]? = some y) :
    ∃ t, Slot g w hp.length tm t u y := by
  simp only [List.getElem?_map, Option.map_eq_some_iff] at hu hy
  obtain ⟨x, hx, rfl⟩ := hu
  obtain ⟨x', hx', rfl⟩ := hy
  rw [hx] at hx'; cases hx'
  exact (opv_sound R a ha x).1

theorem minL_head {x : PV} {y : PV} {r : List PV} {z : PV} (h : minL x (y :: r) = some z) : ∃ k n, x = .int k n := by
  unfold minL at h
  split at h
  · rename_i e; cases e
  · exact ⟨_, _, rfl⟩
  · cases h
theorem maxL_head {x : PV} {y : PV} {r : List PV} {z : PV} (h : maxL x (y :: r) = some z) : ∃ k n, x = .int k n := by
  unfold maxL at h
  split at h
  · rename_i e; cases e
  · exact ⟨_, _, rfl⟩
  · cases h

/-- Does the operation make memory? -/
def makes (P : Program) (st : St) (o : Oper) : Prop :=
  (∃ T l c, o.op = .makeSlice T l c) ∨ ∃ s d x, o.op = .convert s d x ∧ ∃ e str, P.underlying d = some (.slice e) ∧ opv st.fr x = .str str

theorem seen_sound {fr : Fr} {hp : Heap} {tm : Array Value} (R : Rel g w tm fr hp) (a : Act) (ha : a.tmps = tm) (x : Operand) :
    (∃ t, Slot g w hp.length tm t (a.eval x) (seen x (opv fr x))) ∧ Lv fr (seen x (opv fr x)) := by
  cases x with
  | tmp t =>
    have e : seen (.tmp t) (opv fr (.tmp t)) = viewSlot t (get fr t) := by
      show viewSlot t (match get fr t with | .box _ => .ptr (.slot t) none 0 | v => v) = _
      generalize get fr t = v
      cases v <;> rfl
    rw [e]
    subst ha
    obtain ⟨h1, h2⟩ := view_sound R t
    exact ⟨⟨t, h1 t⟩, h2⟩
  | _ => exact opv_sound R a ha _
theorem stepA_sound (Tb : Tabs P) {st : St} {a : Act} (ha : a.tmps = tm) (R : Rel g w tm st.fr st.hp) (o : Oper) {z : PV} (h : stepA P st o = some z) (hm : ¬ makes P st o) :
    ∃ v, (execOp a.eval o).run P w = .ok (.value v) w ∧ (∀ t, Slot g w st.hp.length tm t v z) ∧ Lv st.fr z := by
  have ofY : ∀ {s : Sem Value} {y : PV}, Yields P g w st.hp.length tm st.fr s y → ∃ v, (do pure (.value (← s)) : Sem Next).run P w = .ok (.value v) w ∧ (∀ t, Slot g w st.hp.length tm t v y) ∧ Lv st.fr y := by
    rintro s y ⟨v, h1, h2, h3⟩
    exact ⟨v, by simp [h1], h2, h3⟩
  have ofV : ∀ {s : Sem Value} {y : PV}, (∃ r, s.run P w = .ok r w ∧ V g w st.hp.length r y) → ∃ v, (do pure (.value (← s)) : Sem Next).run P w = .ok (.value v) w ∧ (∀ t, Slot g w st.hp.length tm t v y) ∧ Lv st.fr y :=
    fun ⟨v, h1, h2⟩ => ofY (.ofV h1 h2)
  unfold stepA at h
  cases ho : o.op with
  | move x =>
    simp only [ho] at h
    cases x with
    | tmp t =>
      cases h
      obtain ⟨h1, h2⟩ := view_sound R t
      exact ⟨tm.getD t Go.undef, by simp [execOp, ho, Act.eval, ha], h1, h2⟩
    | const c => cases h; exact ⟨c, by simp [execOp, ho, Act.eval], fun t => (ofConst_sound c).slot t, (ofConst_sound (g := g) (w := w) (hn := st.hp.length) c).lv⟩
    | global n => cases h; exact ⟨a.eval (.global n), by simp only [execOp, ho]; rfl, fun t => (V.undef _).slot t, (V.undef (g := g) (w := w) (hn := st.hp.length) Go.undef).lv⟩
    | func f =>
      cases h
      have : V g w st.hp.length (.func (.func f) #[] #[]) (.fn f []) := V.fn f #[] [] rfl (fun j v y h => by simp at h)
      exact ⟨_, by simp only [execOp, ho]; rfl, fun t => this.slot t, this.lv⟩
  | pick c x y =>
    simp only [ho] at h
    obtain ⟨⟨tc, hc⟩, _⟩ := opv_sound R a ha c
    split at h
    · rename_i hb
      rw [hb] at hc
      have := hc.bool_inv
      obtain ⟨rfl, hz⟩ := opv_noOwn h
      obtain ⟨⟨tx, hx⟩, hl⟩ := opv_sound R a ha x
      refine ⟨a.eval x, by simp [execOp, ho, this, asBool], hx.move hz (fun cs e => ?_) (fun cs e => ?_), hl⟩ <;> (rw [e] at h; simp [noOwn] at h)
    · rename_i hb
      rw [hb] at hc
      have := hc.bool_inv
      obtain ⟨rfl, hz⟩ := opv_noOwn h
      obtain ⟨⟨tx, hx⟩, hl⟩ := opv_sound R a ha y
      refine ⟨a.eval y, by simp [execOp, ho, this, asBool], hx.move hz (fun cs e => ?_) (fun cs e => ?_), hl⟩ <;> (rw [e] at h; simp [noOwn] at h)
    · cases h
  | load T x =>
    simp only [ho] at h
    split at h
    · rename_i hT
      obtain ⟨d, hd⟩ := Option.isSome_iff_exists.1 hT
      obtain ⟨⟨tx, hx⟩, hl⟩ := opv_sound R a ha x
      simp only [execOp, ho]
      exact ofY (load_sound R T d hd hx hl h)
    · cases h
  | nilCheck x =>
    simp only [ho] at h
    obtain ⟨⟨tx, hx⟩, hl⟩ := opv_sound R a ha x
    split at h
    · rename_i r pre off e
      cases h
      rw [e] at hx hl
      obtain ⟨b, o', h1, h2, h3⟩ := hx.ptr_inv
      exact ⟨a.eval x, by simp [execOp, ho, h2], fun t => by rw [h2]; exact .ptr h1 h3, hl⟩
    · rename_i cs off e
      cases h
      rw [e] at hx hl
      obtain ⟨b, o', h1, h2, h3⟩ := hx.ep_inv
      exact ⟨a.eval x, by simp [execOp, ho, h1], fun t => by rw [h1]; exact .ep h2 h3, hl⟩
    · rename_i f cap e
      cases h
      rw [e] at hx hl
      have hV : V g w st.hp.length (a.eval x) (.fn f cap) := hx.fnV
      obtain ⟨cv, h1, h2, h3⟩ := hx.fn_inv
      exact ⟨a.eval x, by simp [execOp, ho, h1], fun t => hV.slot t, hV.lv⟩
    · cases h
  | fieldAddr T x i =>
    simp only [ho] at h
    obtain ⟨⟨tx, hx⟩, hl⟩ := opv_sound R a ha x
    split at h
    · rename_i f hf
      split at h
      · cases h
      · rename_i h0
        split at h
        · rename_i r pre off e
          cases h
          rw [e] at hx hl
          obtain ⟨b, o', h1, h2, h3⟩ := hx.ptr_inv
          have := fieldAddr_sound (w := w) Tb hf h0 b (o' + off)
          refine ⟨_, by simp [execOp, ho, h2, this]; rfl, fun t => ?_, hl⟩
          rw [Nat.add_assoc]; exact .ptr h1 h3
        · rename_i cs off e
          cases h
          rw [e] at hx hl
          obtain ⟨b, o', h1, h2, h3⟩ := hx.ep_inv
          have := fieldAddr_sound (w := w) Tb hf h0 b (o' + off)
          refine ⟨_, by simp [execOp, ho, h1, this]; rfl, fun t => ?_, fun t pre h => by cases h⟩
          rw [Nat.add_assoc]; exact .ep h2 h3
        · cases h
    · cases h
  | field T x i =>
    simp only [ho] at h
    obtain ⟨⟨tx, hx⟩, hl⟩ := opv_sound R a ha x
    split at h
    · rename_i f cs hf e
      rw [e] at hx
      split at h
      · rename_i hle
        simp only [execOp, ho]
        exact ofV (field_sound Tb hf hx hle h)
      · cases h
    · cases h
  | indexAddr T x ix =>
    simp only [ho] at h
    obtain ⟨⟨tx, hx⟩, hl⟩ := seen_sound R a ha x
    obtain ⟨⟨ti, hi⟩, _⟩ := opv_sound R a ha ix
    simp only [execOp, ho]
    exact ofY (indexAddr_sound Tb R T hx hl hi h)
  | index T x ix =>
    simp only [ho] at h
    obtain ⟨⟨tx, hx⟩, hl⟩ := opv_sound R a ha x
    obtain ⟨⟨ti, hi⟩, _⟩ := opv_sound R a ha ix
    simp only [execOp, ho]
    unfold indexVal at h
    split at h
    · rename_i k i e
      rw [e] at hi
      have hii := hi.int_inv
      split at h
      · rename_i n E cs hu ex
        rw [ex] at hx
        split at h
        · rename_i hb
          obtain ⟨ie, _, hie, _⟩ := Tb.array _ _ _ hu
          obtain ⟨u, hU⟩ := Tb.arrayU _ _ _ hu
          obtain ⟨vs, hv, h1, h2⟩ := hx.agg_inv
          have hle : i.toNat * sizeT P E + sizeT P E ≤ cs.length := by
            rw [hb.2.2, ← Nat.succ_mul]
            exact Nat.mul_le_mul_right _ (by omega)
          obtain ⟨r, h3, h4⟩ := part_sound (P := P) hU hie h1 h2 _ hle h
          exact ofV ⟨r, by simp [Instr.index, asIntOf, hii, hv, run_underlying hu, hb.1, hb.2.1, run_sizeT hie, h3], h4⟩
        · cases h
      · rename_i s hu ex
        rw [ex] at hx
        obtain ⟨b, hb, rfl⟩ := hx.str_inv
        split at h
        · rename_i hi2
          simp only [Option.map_eq_some_iff] at h
          obtain ⟨y, hy, rfl⟩ := h
          have hlt : i.toNat < b.size := by rw [← size_toList]; exact lt_of_some hy
          have hget : b[i.toNat]? = some y := by
            rw [getElem?_pos b i.toNat hlt]
            have : b.data.toList[i.toNat]? = some (b[i.toNat]'hlt) := by
              rw [List.getElem?_eq_getElem (by rw [size_toList]; exact hlt)]
              simp [ByteArray.getElem_eq_getElem_data]
            rw [this] at hy
            exact hy
          exact ofV ⟨.int .u8 y.toNat, by simp [Instr.index, asIntOf, hii, hb, run_underlying hu, hi2.1, hget], .int _ _⟩
        · cases h
      · cases h
    · cases h
  | binOp op T x y c =>
    simp only [ho] at h
    obtain ⟨⟨tx, hx⟩, _⟩ := opv_sound R a ha x
    obtain ⟨⟨ty, hy⟩, _⟩ := opv_sound R a ha y
    simp only [execOp, ho]
    exact ofV (bin_sound Tb T op x y hx hy h)
  | unOp op T x =>
    simp only [ho] at h
    obtain ⟨⟨tx, hx⟩, _⟩ := opv_sound R a ha x
    simp only [execOp, ho]
    exact ofV (un_sound op hx h)
  | convert s d x =>
    simp only [ho] at h
    obtain ⟨⟨tx, hx⟩, _⟩ := opv_sound R a ha x
    simp only [execOp, ho]
    exact ofV (conv_sound s d R hx h fun ⟨e, str, h1, h2⟩ => hm (.inr ⟨s, d, x, ho, e, str, h1, h2⟩))
  | slice T x lo hi mx =>
    simp only [ho] at h
    obtain ⟨⟨tx, hx⟩, hl⟩ := opv_sound R a ha x
    simp only [execOp, ho]
    exact ofY (slice_sound Tb R T hx hl (optR_map R a ha lo) (optR_map R a ha hi) (optR_map R a ha mx) h)
  | extract x i =>
    simp only [ho] at h
    obtain ⟨⟨tx, hx⟩, _⟩ := opv_sound R a ha x
    split at h
    · rename_i vs e
      rw [e] at hx
      obtain ⟨us, hu, h1, h2⟩ := hx.tup_inv
      have hlt : i < us.size := by rw [h1]; exact lt_of_some h
      simp only [execOp, ho]
      exact ofV ⟨us[i], by simp [Instr.extract, hu, hlt], h2 i _ _ (Array.getElem?_eq_getElem hlt) h⟩
    · cases h
  | makeSlice T l c => exact (hm (.inl ⟨_, _, _, ho⟩)).elim
  | call c =>
    simp only [ho] at h
    cases hc : c.callee with
    | builtin b =>
      simp only [hc] at h
      have run : ∀ {s : Sem Value} {y : PV}, (∀ cs, builtin b c.argTypes o.type cs (c.args.map a.eval) = (do pure (.value (← s)) : Sem Next)) → 
          (∃ r, s.run P w = .ok r w ∧ V g w st.hp.length r y) → ∃ v, (execOp a.eval o).run P w = .ok (.value v) w ∧ (∀ t, Slot g w st.hp.length tm t v y) ∧ Lv st.fr y := by
        intro s y h1 h2
        obtain ⟨r, h3, h4⟩ := ofV h2
        refine ⟨r, ?_, h4⟩
        simp only [execOp, ho, resolve, hc, invoke, Sem.run_bind, Sem.run_pure, Result.andThen_ok]
        rw [h1]
        exact h3
      cases b with
      | len =>
        simp only at h
        split at h
        · rename_i x T hargs htys
          obtain ⟨⟨tx, hx⟩, _⟩ := opv_sound R a ha x
          have e1 : (c.args.map a.eval)[0]? = some (a.eval x) := by rw [← Array.getElem?_toList]; simp [hargs]
          have e2 : c.argTypes[0]? = some T := by rw [← Array.getElem?_toList]; simp [htys]
          refine run (s := Builtin.len_ c.argTypes o.type (c.args.map a.eval)) (fun _ => rfl) ?_
          split at h
          · rename_i n E hu
            cases h
            exact ⟨.int .i64 n, by simp [Builtin.len_, e1, e2, run_underlying hu, goInt], .int _ _⟩
          · rename_i A hu
            split at h
            · rename_i n E hA
              cases h
              exact ⟨.int .i64 n, by simp [Builtin.len_, e1, e2, run_underlying hu, run_underlying hA, goInt], .int _ _⟩
            · cases h
          · rename_i hu
            split at h
            · rename_i s e
              cases h
              rw [e] at hx
              obtain ⟨b, hb, rfl⟩ := hx.str_inv
              exact ⟨.int .i64 b.size, by simp [Builtin.len_, e1, e2, run_underlying hu, hb, goInt], by rw [size_toList]; exact .int _ _⟩
            · cases h
          · rename_i E hu
            split at h
            · cases h
            · rename_i hns
              split at h
              rotate_left
              · cases h
              rename_i n hn'
              cases h
              rcases lenOf_sound R hx hn' with ⟨s, hs, rfl⟩ | ⟨b, cap, hs⟩
              · rw [hs] at hx
                exfalso
                generalize opv st.fr x = y at *
                cases y <;> simp [lenOf] at hn' hns
                · cases hx with | of hx => cases hx with | of hx => cases hx
                · split at hn'
                  · rename_i hn2
                    obtain ⟨_, hL⟩ := hd_at R hx hn2
                    rcases hL.row with ⟨_, _, _, _, e, _⟩ | ⟨_, _, _, e, _⟩ <;> cases e
                  · cases hn'
                · rcases hx.vw_inv with ⟨_, _, _, e⟩ | ⟨_, _, _, _, e, _⟩ <;> cases e
                · obtain ⟨_, _, _, e, _⟩ := hx.rf_inv.rf_row; cases e
              · exact ⟨.int .i64 n, by simp [Builtin.len_, e1, e2, run_underlying hu, hs, goInt], .int _ _⟩
          · cases h
        · cases h
      | min =>
        simp only at h
        refine run (s := Builtin.min_ c.argTypes o.type (c.args.map a.eval)) (fun _ => rfl) ?_
        split at h
        · rename_i x y r hargs
          have hxs : ∃ x0 y0 r0, c.args.toList = x0 :: y0 :: r0 ∧ opv st.fr x0 = x ∧ opv st.fr y0 = y ∧ r0.map (opv st.fr) = r := by
            cases hl : c.args.toList with
            | nil => simp [hl] at hargs
            | cons x0 r0 => cases r0 with
              | nil => simp [hl] at hargs
              | cons y0 r0 => simp [hl] at hargs; exact ⟨x0, y0, r0, rfl, hargs⟩
          obtain ⟨x0, y0, r0, hl, rfl, rfl, rfl⟩ := hxs
          obtain ⟨⟨tx, hx⟩, _⟩ := opv_sound R a ha x0
          · obtain ⟨k, n, e⟩ := minL_head h
            rw [e] at h hx
            have hv := hx.int_inv
            obtain ⟨u, h1, h2⟩ := minL_sound (g := g) (w := w) (hn := st.hp.length) (tm := tm) (P := P) (opv st.fr y0 :: r0.map (opv st.fr)) ((y0 :: r0).map a.eval) (.int k n) z (a.eval x0) (by rw [hv]; exact .int _ _) (by simp) (args_slots R a ha (y0 :: r0)) h
            refine ⟨u, ?_, h2⟩
            simp only [Builtin.min_, Array.toList_map, hl, List.map_cons]
            exact h1
        · cases h
      | max =>
        simp only at h
        refine run (s := Builtin.max_ c.argTypes o.type (c.args.map a.eval)) (fun _ => rfl) ?_
        split at h
        · rename_i x y r hargs
          have hxs : ∃ x0 y0 r0, c.args.toList = x0 :: y0 :: r0 ∧ opv st.fr x0 = x ∧ opv st.fr y0 = y ∧ r0.map (opv st.fr) = r := by
            cases hl : c.args.toList with
            | nil => simp [hl] at hargs
            | cons x0 r0 => cases r0 with
              | nil => simp [hl] at hargs
              | cons y0 r0 => simp [hl] at hargs; exact ⟨x0, y0, r0, rfl, hargs⟩
          obtain ⟨x0, y0, r0, hl, rfl, rfl, rfl⟩ := hxs
          obtain ⟨⟨tx, hx⟩, _⟩ := opv_sound R a ha x0
          · obtain ⟨k, n, e⟩ := maxL_head h
            rw [e] at h hx
            have hv := hx.int_inv
            obtain ⟨u, h1, h2⟩ := maxL_sound (g := g) (w := w) (hn := st.hp.length) (tm := tm) (P := P) (opv st.fr y0 :: r0.map (opv st.fr)) ((y0 :: r0).map a.eval) (.int k n) z (a.eval x0) (by rw [hv]; exact .int _ _) (by simp) (args_slots R a ha (y0 :: r0)) h
            refine ⟨u, ?_, h2⟩
            simp only [Builtin.max_, Array.toList_map, hl, List.map_cons]
            exact h1
        · cases h
      | complex =>
        simp only at h
        refine run (s := Builtin.complex_ c.argTypes o.type (c.args.map a.eval)) (fun _ => rfl) ?_
        split at h
        · rename_i k p k' q hargs
          have hxs : ∃ x0 y0, c.args.toList = [x0, y0] ∧ opv st.fr x0 = .raw (.float k p) ∧ opv st.fr y0 = .raw (.float k' q) := by
            cases hl : c.args.toList with
            | nil => simp [hl] at hargs
            | cons x0 r0 => cases r0 with
              | nil => simp [hl] at hargs
              | cons y0 r0 => cases r0 with
                | nil => simp [hl] at hargs; exact ⟨x0, y0, rfl, hargs⟩
                | cons z0 r0 => simp [hl] at hargs
          obtain ⟨x0, y0, hl, e1, e2⟩ := hxs
          obtain ⟨⟨tx, hx⟩, _⟩ := opv_sound R a ha x0
          obtain ⟨⟨ty, hy⟩, _⟩ := opv_sound R a ha y0
          rw [e1] at hx
          rw [e2] at hy
          have hv := hx.raw_inv
          have hu := hy.raw_inv
          split at h
          · rename_i hk
            subst hk
            cases h
            have e3 : c.args.map a.eval = #[.float k p, .float k q] := by
              apply Array.ext'
              rw [Array.toList_map, hl, List.map_cons, List.map_cons, hv, hu]; rfl
            refine ⟨.complex k p q, ?_, .raw _ rfl⟩
            rw [e3]
            show (if k = k then (pure (.complex k p q) : Sem Value) else _).run P w = _
            rw [if_pos rfl]; rfl
          · cases h
        · cases h
      | real =>
        simp only at h
        refine run (s := Builtin.real_ c.argTypes o.type (c.args.map a.eval)) (fun _ => rfl) ?_
        split at h
        · rename_i k p q hargs
          have hxs : ∃ x0, c.args.toList = [x0] ∧ opv st.fr x0 = .raw (.complex k p q) := by
            cases hl : c.args.toList with
            | nil => simp [hl] at hargs
            | cons x0 r0 => cases r0 with
              | nil => simp [hl] at hargs; exact ⟨x0, rfl, hargs⟩
              | cons y0 r0 => simp [hl] at hargs
          obtain ⟨x0, hl, e1⟩ := hxs
          obtain ⟨⟨tx, hx⟩, _⟩ := opv_sound R a ha x0
          rw [e1] at hx
          have hv := hx.raw_inv
          cases h
          have e3 : c.args.map a.eval = #[.complex k p q] := by
            apply Array.ext'
            rw [Array.toList_map, hl, List.map_cons, hv]; rfl
          exact ⟨_, by rw [e3]; rfl, .raw _ rfl⟩
        · cases h
      | imag =>
        simp only at h
        refine run (s := Builtin.imag_ c.argTypes o.type (c.args.map a.eval)) (fun _ => rfl) ?_
        split at h
        · rename_i k p q hargs
          have hxs : ∃ x0, c.args.toList = [x0] ∧ opv st.fr x0 = .raw (.complex k p q) := by
            cases hl : c.args.toList with
            | nil => simp [hl] at hargs
            | cons x0 r0 => cases r0 with
              | nil => simp [hl] at hargs; exact ⟨x0, rfl, hargs⟩
              | cons y0 r0 => simp [hl] at hargs
          obtain ⟨x0, hl, e1⟩ := hxs
          obtain ⟨⟨tx, hx⟩, _⟩ := opv_sound R a ha x0
          rw [e1] at hx
          have hv := hx.raw_inv
          cases h
          have e3 : c.args.map a.eval = #[.complex k p q] := by
            apply Array.ext'
            rw [Array.toList_map, hl, List.map_cons, hv]; rfl
          exact ⟨_, by rw [e3]; rfl, .raw _ rfl⟩
        · cases h
      | _ => simp at h
    | _ => simp [hc] at h
  | _ => simp [ho] at h
end
end Go.PS
end

section
/-
  What a change of memory keeps.
-/
namespace Go.PS
section
variable {g g' : G} {w w' : World} {hn hn' : Nat} {tm : Array Value} {fr : Fr} {hp : Heap} {P : Program} {t : Nat}

/-- A change: lasting values stay, and all that does not belong to the places C or lie in the cells D. -/
structure Chg (C : Root → Option Nat → Prop) (D : Nat → Nat → Prop) (g : G) (w : World) (hn : Nat) (g' : G) (w' : World) (hn' : Nat) : Prop where
  e0 : Ext0 g w hn g' w' hn'
  loc : ∀ r pre, ¬ C r pre → g'.loc r pre = g.loc r pre
  st : ∀ b r pre, g.own b = some (.st r pre) → ¬ C r pre → SameB D g w g' w' b
  box : ∀ b t, g.own b = some (.box t) → ¬ C (.slot t) none → SameB D g w g' w' b
  obj : ∀ b i, g.own b = some (.obj i) → ¬ C (.heap i) none → SameB D g w g' w' b

/-- The places and cells of a variable that a change leaves alone. -/
def Clear (C : Root → Option Nat → Prop) (D : Nat → Nat → Prop) (g : G) (r : Root) (cs : List PV) : Prop :=
  ∀ j y, cs[j]? = some y → y ≠ .undef → ¬ C r (some j) ∧ ∀ b o, g.loc r (some j) = (b, o) → g.own b = some (.st r (some j)) → ∀ k z, y.kids[k]? = some z → z ≠ .undef → ¬ D b (o + k)

theorem L.undef {r : Root} {pre : Option Nat} (v : Value) : L g w hn r pre v .undef := .of (.undef v)

theorem Obj1.mono {C D} (c : Chg C D g w hn g' w' hn') {r : Root} {key : Key} {b : Nat} {cs : List PV} (hC : ¬ C r none) (hb : SameB D g w g' w' b)
    (hCl : Clear C D g r cs) (hD : ∀ j y, cs[j]? = some y → y ≠ .undef → ¬ D b j) (h : Obj1 g w hn r key b cs) : Obj1 g' w' hn' r key b cs :=
  ⟨(c.loc r none hC).trans h.loc, hb.own.trans h.own, fun j hj => h.imm j ((hb.imm j).1 hj), fun j hj => (hb.frozen j).trans (h.room j hj), fun j y hj => by
    obtain ⟨v, h1, h2⟩ := h.cells j y hj
    by_cases hy : y = .undef
    · subst hy
      have := hb.there j
      rw [h1] at this
      obtain ⟨v', hv'⟩ := Option.isSome_iff_exists.1 (this.trans rfl)
      exact ⟨v', hv', .undef _⟩
    · obtain ⟨h3, h4⟩ := hCl j y hj hy
      exact ⟨v, (hb.cell j (hD j y hj hy)).trans h1, h2.mono c.e0 (c.loc _ _ h3) (fun b hb => c.st b _ _ hb h3) h4⟩⟩

theorem Slot.mono {C D} (c : Chg C D g w hn g' w' hn') {v : Value} {x : PV} (hC : x ≠ .undef → ¬ C (.slot t) none)
    (hCl : ∀ cs, x = .box cs ∨ x = .agg cs → Clear C D g (.slot t) cs)
    (hD0 : ∀ b o, g.loc (.slot t) none = (b, o) → (g.own b = some (.st (.slot t) none) ∨ g.own b = some (.box t)) → ∀ j y, x.kids[j]? = some y → y ≠ .undef → ¬ D b (o + j))
    (href : ∀ r pre, refOf x = some (r, pre) → ¬ C r pre)
    (hval : ∀ r pre, refOf x = some (r, pre) → ∀ u, valAt g w tm r pre = some u → valAt g' w' tm r pre = some u) (h : Slot g w hn tm t v x) : Slot g' w' hn' tm t v x := by
  cases h with
  | of h =>
    by_cases hx : x = .undef
    · subst hx; exact .of (.undef _)
    · exact .of (h.mono c.e0 (c.loc _ _ (hC hx)) (fun b hb => c.st b _ _ hb (hC hx)) (fun b o hl how => hD0 b o hl (.inl how)))
  | box h => exact .box (h.mono c (hC (by simp)) (c.box _ _ h.own (hC (by simp))) (hCl _ (.inl rfl)) (fun j y hj hy => by simpa using hD0 _ _ h.loc (.inr h.own) j y hj hy))
  | agg hs h =>
    refine .agg hs fun j v y h1 h2 => ?_
    by_cases hy : y = .undef
    · subst hy; exact L.undef _
    · obtain ⟨h3, h4⟩ := hCl _ (.inr rfl) j y h2 hy
      exact (h j v y h1 h2).mono c.e0 (c.loc _ _ h3) (fun b hb => c.st b _ _ hb h3) h4
  | tup hs h => exact .tup hs fun j v y h1 h2 => (h j v y h1 h2).mono c.e0
  | ptr hl hi => exact .ptr ((c.loc _ _ (href _ _ rfl)).trans hl) fun i hr => ⟨Nat.lt_of_lt_of_le (hi i hr).1 c.e0.hn, (c.e0.cap i (hi i hr).1).trans (hi i hr).2⟩
  | hd h hi => exact .hd (hval _ _ rfl _ h) fun i hr => ⟨Nat.lt_of_lt_of_le (hi i hr).1 c.e0.hn, (c.e0.cap i (hi i hr).1).trans (hi i hr).2⟩
  | vw hl hle hi => exact .vw ((c.loc _ _ (href _ _ rfl)).trans hl) hle fun i hr => ⟨Nat.lt_of_lt_of_le (hi i hr).1 c.e0.hn, (c.e0.cap i (hi i hr).1).trans (hi i hr).2⟩
  | vw0 hi => exact .vw0 fun i hr => ⟨Nat.lt_of_lt_of_le (hi i hr).1 c.e0.hn, (c.e0.cap i (hi i hr).1).trans (hi i hr).2⟩
  | ep hi hc => exact .ep (fun j hj => (c.e0.imm _ _ (hi j hj)).1) (hc.mono c.e0 fun j hj => (c.e0.imm _ _ (hi j hj)).2)

/-- New memory, and nothing else: the world grows. -/
structure Grow (w w' : World) : Prop where
  os : w'.os = w.os
  tape : w'.tape = w.tape
  out : w'.output = w.output
  size : w.heap.size ≤ w'.heap.size
  block : ∀ b, b < w.heap.size → w'.heap[b]? = w.heap[b]?

theorem Grow.cell (h : Grow w w') {a : Addr} (ha : a.block < w.heap.size) : w'.cell? a = w.cell? a := by
  unfold World.cell?; rw [h.block _ ha]
theorem Grow.frozen (h : Grow w w') {a : Addr} (ha : a.block < w.heap.size) : w'.frozen? a = w.frozen? a := by
  unfold World.frozen?; rw [h.block _ ha]
theorem Grow.alloc (w : World) (o : Obj) : Grow w (w.alloc o) :=
  ⟨rfl, rfl, rfl, by simp, fun b hb => by simp only [World.alloc]; rw [Array.getElem?_push]; rw [if_neg (by omega)]⟩
theorem Grow.drew (w : World) : Grow w w.drew := ⟨rfl, rfl, rfl, Nat.le_refl _, fun _ _ => rfl⟩
theorem Grow.refl (w : World) : Grow w w := ⟨rfl, rfl, rfl, Nat.le_refl _, fun _ _ => rfl⟩
theorem Grow.trans {w1 w2 : World} (h : Grow w w1) (h' : Grow w1 w2) : Grow w w2 :=
  ⟨h'.os.trans h.os, h'.tape.trans h.tape, h'.out.trans h.out, Nat.le_trans h.size h'.size, fun b hb => (h'.block b (Nat.lt_of_lt_of_le hb h.size)).trans (h.block b hb)⟩

theorem lt_of_cell {b o : Nat} {v : Value} (h : w.cell? ⟨b, o, none⟩ = some v) : b < w.heap.size := World.block_lt_of_cell? w ⟨b, o, none⟩ h

/-- A whole state through a change. -/
theorem Rel.change {C D} (R : Rel g w tm fr hp) (c : Chg C D g w hp.length g' w' hp.length)
    (hslot : ∀ t, get fr t ≠ .undef → ¬ C (.slot t) none ∧ (∀ cs, get fr t = .box cs ∨ get fr t = .agg cs → Clear C D g (.slot t) cs) ∧
      ∀ b o, g.loc (.slot t) none = (b, o) → (g.own b = some (.st (.slot t) none) ∨ g.own b = some (.box t)) → ∀ j y, (get fr t).kids[j]? = some y → y ≠ .undef → ¬ D b (o + j))
    (href : ∀ t r pre, refOf (get fr t) = some (r, pre) → ¬ C r pre)
    (hval : ∀ t r pre, refOf (get fr t) = some (r, pre) → ∀ u, valAt g w tm r pre = some u → valAt g' w' tm r pre = some u)
    (hheap : ∀ i cs, hp[i]? = some (.cells cs) → ¬ C (.heap i) none ∧ Clear C D g (.heap i) cs ∧ ∀ b o, g.loc (.heap i) none = (b, o) → ∀ j y, cs[j]? = some y → y ≠ .undef → ¬ D b (o + j))
    (hmap : ∀ i ks vs, hp[i]? = some (.map ks vs) → ¬ C (.heap i) none ∧ ∀ b es c, g.own b = some (.obj i) → w.heap[b]? = some (.map es c) → w'.heap[b]? = some (.map es c))
    (himm : ∀ b o, g'.imm b o → (w'.cell? ⟨b, o, none⟩).isSome = true) (hown : ∀ b k, g'.own b = some k → b < w'.heap.size)
    (hrow : ∀ i s n p, hp[i]? = some (.row s n p) → 0 < s → rowAlive hp i = true → ¬ C (.heap i) none)
    (hbld : ∀ i T e bs, hp[i]? = some (.bld T e bs) → ∀ b, g.own b = some (.obj i) → SameBlk g w g' w' b) : Rel g' w' tm fr hp := by
  refine ⟨fun t => ?_, fun i cs hc => ?_, fun i ks vs hc => ?_, himm, hown, R.live, R.size, fun i s n p hc => ?_, fun i T e bs hc => (R.rows.2 i T e bs hc).keep (c.e0.loc i (lt_of_some hc)) (c.e0.cap i (lt_of_some hc)) (hbld i T e bs hc)⟩
  · by_cases hx : get fr t = .undef
    · rw [hx]; exact .of (.undef _)
    · obtain ⟨h1, h2, h3⟩ := hslot t hx
      exact (R.slots t).mono c (fun _ => h1) h2 h3 (href t) (hval t)
  · obtain ⟨b, hb⟩ := R.heap i cs hc
    obtain ⟨h1, h2, h3⟩ := hheap i cs hc
    exact ⟨b, hb.mono c h1 (c.obj _ _ hb.own h1) h2 (fun j y hj hy => by simpa using h3 _ _ hb.loc j y hj hy)⟩
  · obtain ⟨b, hb, hM⟩ := R.maps i ks vs hc
    obtain ⟨h1, h2⟩ := hmap i ks vs hc
    exact ⟨b, hb.mono c h1 (c.obj _ _ hb.own h1) (fun j y hj => by simp at hj) (fun j y hj => by simp at hj), hM.mono c.e0 fun es k h => h2 b es k hb.own h⟩
  · refine ⟨by rw [c.e0.cap i (lt_of_some hc)]; exact (R.rows.1 i s n p hc).1, fun h0 ha => ?_⟩
    rcases (R.rows.1 i s n p hc).2 h0 ha with hf | ⟨b, o, hl, ho, hr, hx⟩
    · exact .inl ((c.e0.cap i (lt_of_some hc)).trans hf)
    have sb := c.obj _ _ ho (hrow i s n p hc h0 ha)
    exact .inr ⟨b, o, (c.e0.loc i (lt_of_some hc)).trans hl, sb.own.trans ho, fun j hj => by rw [c.e0.cap i (lt_of_some hc)] at hj; rw [sb.there, sb.frozen]; exact hr j hj, fun j hj => hx j ((sb.imm j).1 hj)⟩
end
end Go.PS
end

section
/-
  New memory keeps a state; a new row in a slot.
-/
namespace Go.PS
section
variable {g g' : G} {w w' : World} {hn hn' : Nat} {tm : Array Value} {fr : Fr} {hp : Heap} {P : Program} {t : Nat}

theorem Rel.lt_own (R : Rel g w tm fr hp) {b : Nat} {k : Key} (h : g.own b = some k) : b < w.heap.size := R.ownLt b k h
theorem Rel.lt_imm (R : Rel g w tm fr hp) {b o : Nat} (h : g.imm b o) : b < w.heap.size := by
  have := R.immCell b o h
  rw [Option.isSome_iff_exists] at this
  obtain ⟨v, hv⟩ := this
  exact lt_of_cell hv

/-- World growth alone. -/
theorem Rel.grow (R : Rel g w tm fr hp) (h : Grow w w') : Rel g w' tm fr hp := by
  have e0 : Ext0 g w hp.length g w' hp.length := ⟨fun b o hi => ⟨hi, h.cell (R.lt_imm hi)⟩, fun _ _ => rfl, fun _ _ => rfl, Nat.le_refl _⟩
  have sb : ∀ b k, g.own b = some k → SameB (fun _ _ => False) g w g w' b := fun b k hb => ⟨rfl, fun _ => Iff.rfl, fun j _ => h.cell (R.lt_own hb), fun j => by rw [h.cell (R.lt_own hb)], fun j => h.frozen (R.lt_own hb)⟩
  have c : Chg (fun _ _ => False) (fun _ _ => False) g w hp.length g w' hp.length := ⟨e0, fun _ _ _ => rfl, fun b r pre hb _ => sb b _ hb, fun b t hb _ => sb b _ hb, fun b i hb _ => sb b _ hb⟩
  have cl : ∀ r cs, Clear (fun _ _ => False) (fun _ _ => False) g r cs := fun r cs j y _ _ => ⟨id, fun _ _ _ _ _ _ _ _ => id⟩
  refine R.change c (fun t _ => ⟨id, fun cs _ => cl _ cs, fun _ _ _ _ _ _ _ _ => id⟩) (fun _ _ _ _ => id) (fun t r pre _ u hu => ?_) (fun i cs _ => ⟨id, cl _ cs, fun _ _ _ _ _ _ _ => id⟩) (fun i ks vs _ => ⟨id, fun b es c hb e => by rw [h.block b (R.ownLt _ _ hb)]; exact e⟩) (fun b o hi => ?_) (fun b k hb => Nat.lt_of_lt_of_le (R.ownLt b k hb) h.size) (fun _ _ _ _ _ _ _ h => h)
    (fun i T e bs _ b hb => ⟨rfl, h.block b (R.ownLt _ _ hb), fun _ => Iff.rfl⟩)
  · cases pre with
    | none => cases r <;> exact hu
    | some o =>
      have : ∀ a : Addr, w.cell? a = some u → w'.cell? a = some u := fun a ha => by rw [h.cell (World.block_lt_of_cell? w a ha)]; exact ha
      cases r <;> exact this _ hu
  · rw [h.cell (R.lt_imm hi)]; exact R.immCell b o hi

theorem notImm_new (R : Rel g w tm fr hp) {b : Nat} (hb : w.heap.size ≤ b) (j : Nat) : ¬ g.imm b j := fun h => by have := R.lt_imm h; omega
theorem own_new (R : Rel g w tm fr hp) {b : Nat} (hb : w.heap.size ≤ b) : g.own b = none := by
  cases h : g.own b with
  | none => rfl
  | some k => have := R.lt_own h; omega
end
end Go.PS
end
