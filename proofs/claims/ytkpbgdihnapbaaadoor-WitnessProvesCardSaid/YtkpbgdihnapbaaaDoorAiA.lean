/- An abstract interpreter for the model's code: values without addresses where memory no longer changes, a heap of numbered blocks where it does. The functions; their soundness stands in the texts behind this one. -/
import GoSem.Core.Code
import GoSem.Core.View
import Derived.Deep.AppendSrc
import Derived.Deep.MidRow
import Derived.Below
import GoSem.Core.Region
import GoSem.Core.Layout
import GoSem.Op.Equal
import Derived.Calls
import Derived.Deep.WholeRow
import Derived.Laws.MakeOwn
import Derived.Great.FillDense
import Derived.Great.BuildSlice
import Derived.Lib.Strings
namespace Go.AI
open Go

/-- Abstract values. `vsl`, `fptr`: memory that never changes again. `ref`, `ptr`, `mref`: into the heap of blocks. -/
inductive AV where
  | bool (b : Bool)
  | int (k : IntKind) (n : Int)
  | str (s : List UInt8)
  | nilp
  | ptr (b g i off : Nat)
  | fptr (cells : List AV) (off : Nat)
  | nilsl
  | emp
  | vsl (es : List AV)
  | ref (b g off len : Nat)
  | nilmap
  | mref (b : Nat)
  | agg (cells : List AV)
  | tup (vs : List AV)
  | fn (f : Nat) (cap : List AV)
  | nilfn
  | iface (t : Nat) (v : AV)
  | nilif
  | someif
  deriving Inhabited

def AV.plain : AV → Bool
  | .tup _ => false
  | _ => true

def AV.cells : AV → List AV
  | .agg cs => cs
  | v => [v]

inductive Blk where
  | row (s g : Nat) (es : List AV)
  | map (kvs : List (AV × AV))

abbrev Heap := List (Option Blk)

def Heap.get (H : Heap) (b : Nat) : Option Blk := (H[b]?).join

/-- The elements of a row, as they stand, if the generation is the row's. -/
def Heap.row (H : Heap) (b g : Nat) : Option (Nat × List AV) :=
  match H.get b with
  | some (.row s g' es) => if g = g' then some (s, es) else none
  | _ => none

def Heap.mapAt (H : Heap) (b : Nat) : Option (List (AV × AV)) :=
  match H.get b with
  | some (.map kvs) => some kvs
  | _ => none

/-- Tables by number: the newest entry counts. -/
def look {α : Type} : List (Nat × Option α) → Nat → Option α
  | [], _ => none
  | (k, v) :: r, d => if k = d then v else look r d

structure St where
  env : List (Nat × Option AV)
  boxes : List (Nat × Option (List AV))
  addrs : List (Nat × Option (Nat × Nat))
  heap : Heap
  lo : Nat
  base : Nat

inductive SX where
  | slot (d : Nat)
  | lit (v : AV)
  deriving Inhabited

def St.eval (s : St) : SX → Option AV
  | .slot d => look s.env d
  | .lit v => some v

def St.evals (s : St) : List SX → Option (List AV)
  | [] => some []
  | x :: r => match s.eval x with
    | some v => match s.evals r with
      | some vs => some (v :: vs)
      | none => none
    | none => none

def St.put (s : St) (d : Option Nat) (v : Option AV) : St :=
  match d with
  | some d => { s with env := (d, v) :: s.env }
  | none => s

def St.undef (s : St) (v : Option AV) (d : Option Nat) : St :=
  match d with
  | some d => { s with env := (d, v) :: s.env, addrs := (d, none) :: s.addrs }
  | none => s

/-- How two operands are held against each other by == . -/
inductive Eqc where
  | int | str | bool | ptr | slice | map | func | iface
  | struct (fields : List (Nat × Eqc))
  | no
  deriving Inhabited

inductive LenK where
  | str | sl | mp
  deriving Inhabited

inductive SOp where
  | mov (x : SX)
  | pick (c a b : SX)
  | allocA (zero : List AV)
  | boxA (sz : Nat) (x : SX)
  | alloc (e : AV)
  | box (sz : Nat) (x : SX)
  | build (zero : List AV) (parts : List (Nat × Nat × SX))
  | buildSlice (sz : Nat) (zero : AV) (n : Nat) (parts : List (Nat × SX))
  | loadA (agg : Bool) (sz : Nat) (t : Nat)
  | load (agg : Bool) (sz : Nat) (x : SX)
  | storeA (sz : Nat) (t : Nat) (v : SX)
  | store (sz : Nat) (x v : SX)
  | movA (t : Nat)
  | nilCheck (x : SX)
  | bin (op : BinOp) (e : Eqc) (x y : SX)
  | un (op : UnOp) (x : SX)
  | conv (k : IntKind) (x : SX)
  | sameS (x : SX)
  | bytesStr (x : SX)
  | strBytes (x : SX)
  | mkFunc (f : Nat) (cap : List SX)
  | mkIface (t : Nat) (x : SX)
  | makeMap
  | makeSlice (sz bytes : Nat) (zero : AV) (n c : SX)
  | slice (sz : Nat) (x : SX) (lo hi mx : Option SX)
  | sliceS (x : SX) (lo hi : Option SX)
  | faddrA (off : Nat) (t : Nat)
  | faddr (off : Nat) (x : SX)
  | iaddrA (n sz : Nat) (t : Nat) (i : SX)
  | iaddr (sz : Nat) (x i : SX)
  | iaddrP (n sz : Nat) (x i : SX)
  | field (agg : Bool) (sz off : Nat) (x : SX)
  | indexS (x i : SX)
  | indexG (agg : Bool) (n sz : Nat) (x i : SX)
  | lookup (kc : Eqc) (zero : AV) (x k : SX) (ok : Bool)
  | mapUpd (kc : Eqc) (m k v : SX)
  | delete (kc : Eqc) (m k : SX)
  | extract (x : SX) (i : Nat)
  | len (k : LenK) (x : SX)
  | append (sz bytes : Nat) (x y : SX)
  | copy (sz : Nat) (x y : SX)
  | clear (zero : AV) (x : SX)
  | minmax (mx : Bool) (xs : List SX)
  | call (f : Nat) (args : List SX)
  | callv (f : SX) (args : List SX)
  deriving Inhabited

structure SI where
  dst : Option Nat
  guard : Option (Nat × Bool)
  op : SOp
  deriving Inhabited

/-- The orders of a region that draws one: what may be taken first, what comes alone, and where two may come in either order. The lists of numbers: what comes ahead in every order. -/
inductive STree where
  | done
  | take (n : Nat) (i : SI) (k : STree)
  | only (anc : List Nat) (i : SI) (k : STree)
  | fork (anc : List Nat) (i : SI) (k : STree) (anc' : List Nat) (j : SI) (k' : STree)
  deriving Inhabited

inductive SCode where
  | skip
  | region (is : List SI) (env : List Nat) (boxes : List Nat) (frz : List Nat)
  | draw (t : STree) (env : List Nat) (boxes : List Nat) (frz : List Nat)
  | seq (a b : SCode)
  | cond (c : SX) (thn els : SCode)
  | block (id : Nat) (b : SCode)
  | loop (b : SCode)
  | exit (id : Nat)
  | ret
  deriving Inhabited

inductive SExit where
  | normal
  | exit (id : Nat)
  | ret
  deriving DecidableEq

/-! ### Plain functions on values -/

def maxBytes : Nat := 140737488355328   -- 2 ^ 47

def splice (cs : List AV) (off : Nat) (vs : List AV) : List AV := cs.take off ++ vs ++ cs.drop (off + vs.length)

/-- `sz` cells at a place, as a value. -/
def readAt (agg : Bool) (sz : Nat) (cells : List AV) (off : Nat) : Option AV :=
  if agg then (if off + sz ≤ cells.length then some (.agg ((cells.drop off).take sz)) else none) else cells[off]?

/-- An element with some of its cells written. -/
def writeElem (e : AV) (off : Nat) (vs : List AV) : Option AV :=
  match e with
  | .agg cs => if off + vs.length ≤ cs.length then some (.agg (splice cs off vs)) else none
  | _ => if off = 0 then match vs with
      | [c] => some c
      | _ => none
    else none

def intOp (op : BinOp) (k : IntKind) (a b : Int) : Option AV :=
  match op with
  | .add => some (.int k (k.wrap (a + b)))
  | .sub => some (.int k (k.wrap (a - b)))
  | .mul => some (.int k (k.wrap (a * b)))
  | .quo => if b = 0 then none else some (.int k (k.wrap (a.tdiv b)))
  | .rem => if b = 0 then none else some (.int k (a.tmod b))
  | .and => some (.int k (k.wrap ((BitVec.ofInt k.bits a &&& BitVec.ofInt k.bits b).toNat : Int)))
  | .or => some (.int k (k.wrap ((BitVec.ofInt k.bits a ||| BitVec.ofInt k.bits b).toNat : Int)))
  | .xor => some (.int k (k.wrap ((BitVec.ofInt k.bits a ^^^ BitVec.ofInt k.bits b).toNat : Int)))
  | .andNot => some (.int k (k.wrap ((BitVec.ofInt k.bits a &&& ~~~ BitVec.ofInt k.bits b).toNat : Int)))
  | .eql => some (.bool (a == b))
  | .neq => some (.bool (a != b))
  | .lss => some (.bool (decide (a < b)))
  | .leq => some (.bool (decide (a ≤ b)))
  | .gtr => some (.bool (decide (a > b)))
  | .geq => some (.bool (decide (a ≥ b)))
  | _ => none

def shiftOp (op : BinOp) (k : IntKind) (a b : Int) : Option AV :=
  if b < 0 then none else
  match op with
  | .shl => some (.int k (k.wrap (a * 2 ^ (min b.toNat k.bits))))
  | .shr => some (.int k (a.fdiv (2 ^ (min b.toNat k.bits))))
  | _ => none

def bless : List UInt8 → List UInt8 → Bool
  | _, [] => false
  | [], _ :: _ => true
  | a :: x, b :: y => a < b || (a == b && bless x y)

def strOp (op : BinOp) (a b : List UInt8) : Option AV :=
  match op with
  | .add => if a.length + b.length ≤ 9223372036854775807 then some (.str (a ++ b)) else none
  | .eql => some (.bool (a == b))
  | .neq => some (.bool (!(a == b)))
  | .lss => some (.bool (bless a b))
  | .leq => some (.bool (bless a b || a == b))
  | .gtr => some (.bool (!(bless a b || a == b)))
  | .geq => some (.bool (!bless a b))
  | _ => none

/-- Whether two values are one, where that can be told. -/
def eqAV : Eqc → AV → AV → Option Bool
  | .int, .int k a, .int k' b => if k = k' then some (a == b) else none
  | .str, .str a, .str b => some (a == b)
  | .bool, .bool a, .bool b => some (a == b)
  | .ptr, .nilp, .nilp => some true
  | .ptr, .nilp, .ptr .. => some false
  | .ptr, .ptr .., .nilp => some false
  | .ptr, .nilp, .fptr .. => some false
  | .ptr, .fptr .., .nilp => some false
  | .slice, .nilsl, .nilsl => some true
  | .slice, .vsl (_ :: _), .nilsl => some false
  | .slice, .nilsl, .vsl (_ :: _) => some false
  | .map, .nilmap, .nilmap => some true
  | .map, .mref _, .nilmap => some false
  | .map, .nilmap, .mref _ => some false
  | .func, .nilfn, .nilfn => some true
  | .func, .fn .., .nilfn => some false
  | .func, .nilfn, .fn .. => some false
  | .iface, .iface .., .nilif => some false
  | .iface, .nilif, .iface .. => some false
  | .iface, .someif, .nilif => some false
  | .iface, .nilif, .someif => some false
  | .iface, .nilif, .nilif => some true
  | .slice, .ref .., .nilsl => some false
  | .slice, .nilsl, .ref .. => some false
  | _, _, _ => none

/-- Two aggregates of scalars, field by field (each field one cell). -/
def eqFields : List (Nat × Eqc) → List AV → List AV → Option Bool
  | [], _, _ => some true
  | (off, c) :: r, as, bs =>
    match as[off]?, bs[off]? with
    | some a, some b =>
      match eqAV c a b with
      | some true => eqFields r as bs
      | some false => some false
      | none => none
    | _, _ => none

def eqAll (e : Eqc) (x y : AV) : Option Bool :=
  match e, x, y with
  | .struct fs, .agg as, .agg bs => eqFields fs as bs
  | e, x, y => eqAV e x y

def binOp (op : BinOp) (e : Eqc) (x y : AV) : Option AV :=
  match x, y with
  | .int k a, .int k' b =>
    match op with
    | .shl | .shr => shiftOp op k a b
    | _ => if k = k' then intOp op k a b else none
  | .str a, .str b => strOp op a b
  | _, _ =>
    match op with
    | .eql => (eqAll e x y).map .bool
    | .neq => (eqAll e x y).map fun b => .bool (!b)
    | _ => none

def unOp (op : UnOp) (x : AV) : Option AV :=
  match op, x with
  | .neg, .int k n => some (.int k (k.wrap (0 - n)))
  | .xor, .int k n => some (.int k (k.wrap ((BitVec.ofInt k.bits (if k.signed then -1 else k.max) ^^^ BitVec.ofInt k.bits n).toNat : Int)))
  | .not, .bool b => some (.bool !b)
  | _, _ => none

/-- The elements of a slice, where they are known. -/
def elems (H : Heap) : AV → Option (List AV)
  | .nilsl | .emp => some []
  | .vsl es => some es
  | .ref b g off len => match H.row b g with
    | some (_, es) => if off + len ≤ es.length then some ((es.drop off).take len) else none
    | none => none
  | _ => none

/-- What `append` takes from its second operand. -/
def source (H : Heap) : AV → Option (List AV)
  | .str s => some (s.map fun c => .int .u8 c.toNat)
  | v => elems H v

def lenOf (H : Heap) : LenK → AV → Option Nat
  | .str, .str s => some s.length
  | .mp, .nilmap => some 0
  | .mp, .mref b => (H.mapAt b).map (·.length)
  | .sl, .nilsl => some 0
  | .sl, .emp => some 0
  | .sl, .vsl es => some es.length
  | .sl, .ref _ _ _ len => some len
  | _, _ => none

def bound (x : Option AV) (dflt most : Nat) : Option Nat :=
  match x with
  | none => some dflt
  | some (.int _ n) => if 0 ≤ n ∧ n ≤ most then some n.toNat else none
  | _ => none

/-- Elements of so many cells each. -/
def szOk (sz : Nat) (es : List AV) : Bool := es.all fun e => e.cells.length == sz

def sliceOk (H : Heap) (sz : Nat) : AV → Bool
  | .vsl es => szOk sz es
  | .ref b g _ _ => match H.row b g with
    | some (z, _) => z == sz
    | none => false
  | _ => true

/-- `s[lo:hi]` of a text -/
def sliceStr (x : AV) (lo hi : Option AV) : Option AV :=
  match x with
  | .str s => match bound hi s.length s.length with
    | some h => match bound lo 0 h with
      | some l => some (.str ((s.take h).drop l))
      | none => none
    | none => none
  | _ => none

/-- `x[lo:hi:mx]` -/
def sliceOp (x : AV) (lo hi mx : Option AV) : Option AV :=
  match x with
  | .nilsl | .emp =>
    match bound mx 0 0 with
    | some m => match bound hi 0 m with
      | some h => match bound lo 0 h with
        | some _ => some x
        | none => none
      | none => none
    | none => none
  | .vsl es =>
    match bound mx es.length es.length with
    | some m => match bound hi es.length m with
      | some h => match bound lo 0 h with
        | some l => if mx.isSome && m == l then some .emp else some (.vsl ((es.take h).drop l))
        | none => none
      | none => none
    | none => none
  | .ref b g off len =>
    match bound mx len len with
    | some m => match bound hi len m with
      | some h => match bound lo 0 h with
        | some l => if mx.isSome then (if m == l then some .emp else none) else some (.ref b g (off + l) (h - l))
        | none => none
      | none => none
    | none => none
  | _ => none

/-- Where a key stands. -/
def findKV (kc : Eqc) (k : AV) : List (AV × AV) → Nat → Option (Option (Nat × AV))
  | [], _ => some none
  | (k', v) :: r, i =>
    match eqAll kc k k' with
    | some true => some (some (i, v))
    | some false => findKV kc k r (i + 1)
    | none => none

/-! ### Operations -/

def setRow (s : St) (b sz g : Nat) (es : List AV) : St :=
  { s with heap := s.heap.set b (some (.row sz g es)), lo := min s.lo b }

def setMap (s : St) (b : Nat) (kvs : List (AV × AV)) : St :=
  { s with heap := s.heap.set b (some (.map kvs)), lo := min s.lo b }

def addRow (s : St) (sz : Nat) (es : List AV) : St := { s with heap := s.heap ++ [some (.row sz 0 es)] }

/-- A map's entries. -/
def entriesOf (H : Heap) : AV → Option (List (AV × AV))
  | .nilmap => some []
  | .mref b => H.mapAt b
  | _ => none

/-- `append`: what comes of it, and the state behind it. -/
def appendOp (sz bytes : Nat) (x : AV) (ys : List AV) (s : St) : Option (AV × St) :=
  match x with
  | .nilsl | .emp =>
    match ys with
    | [] => some (x, s)
    | _ => if ys.length * bytes ≤ maxBytes ∧ ys.length ≤ maxBytes then some (.ref s.heap.length 0 0 ys.length, addRow s sz ys) else none
  | .ref b g off len =>
    match s.heap.row b g with
    | some (sz', es) =>
      if sz' = sz ∧ off = 0 ∧ len ≤ es.length ∧ (len + ys.length) * bytes ≤ maxBytes ∧ len + ys.length ≤ maxBytes then
        match ys with
        | [] => some (x, s)
        | _ => some (.ref b (g + 1) 0 (len + ys.length), setRow s b sz (g + 1) (es.take len ++ ys))
      else none
    | none => none
  | _ => none

/-- `copy` into a row. -/
def copyOp (sz : Nat) (x : AV) (ys : List AV) (s : St) : Option (AV × St) :=
  match x with
  | .nilsl | .emp => some (.int .i64 0, s)
  | .ref b g off len => match s.heap.row b g with
    | some (sz', es) =>
      if sz' = sz ∧ off + len ≤ es.length then
        some (.int .i64 (min ys.length len : Nat), setRow s b sz g (es.take off ++ ys.take len ++ es.drop (off + min ys.length len)))
      else none
    | none => none
  | _ => none

def St.evalO (s : St) : Option SX → Option (Option AV)
  | none => some none
  | some x => (s.eval x).map some

def aop (op : SOp) (s : St) : Option (AV × St) :=
  match op with
  | .mov x => match s.eval x with
    | some v => some (v, s)
    | none => none
  | .pick c a b => match s.eval c with
    | some (.bool t) => if t then (match s.eval a with | some v => some (v, s) | none => none) else (match s.eval b with | some v => some (v, s) | none => none)
    | _ => none
  | .alloc e => some (.ptr s.heap.length 0 0 0, addRow s e.cells.length [e])
  | .box sz x => match s.eval x with
    | some v => if v.cells.length = sz ∧ v.plain = true then some (.ptr s.heap.length 0 0 0, addRow s sz [v]) else none
    | none => none
  | .build zero parts =>
    (fill zero parts).map fun cs => (.agg cs, s)
  | .buildSlice sz zero n parts =>
    if n = 0 then some (.emp, s) else
    match fillE sz (List.replicate n zero) parts with
    | some es => some (.ref s.heap.length 0 0 n, addRow s sz es)
    | none => none
  | .loadA agg sz t => match look s.addrs t with
    | some (d, off) => match look s.boxes d with
      | some cells => (readAt agg sz cells off).map (·, s)
      | none => none
    | none => none
  | .load agg sz x => match s.eval x with
    | some (.fptr cells off) => (readAt agg sz cells off).map (·, s)
    | some (.ptr b g i off) => match s.heap.row b g with
      | some (_, es) => match es[i]? with
        | some e => (readAt agg sz e.cells off).map (·, s)
        | none => none
      | none => none
    | _ => none
  | .nilCheck x => match s.eval x with
    | some (.ptr b g i off) => some (.ptr b g i off, s)
    | some (.fptr cells off) => some (.fptr cells off, s)
    | some (.fn f cap) => some (.fn f cap, s)
    | _ => none
  | .bin op e x y => match s.eval x, s.eval y with
    | some a, some b => (binOp op e a b).map (·, s)
    | _, _ => none
  | .un op x => match s.eval x with
    | some a => (unOp op a).map (·, s)
    | none => none
  | .conv k x => match s.eval x with
    | some (.int _ n) => some (.int k (k.wrap n), s)
    | _ => none
  | .sameS x => match s.eval x with
    | some (.str l) => some (.str l, s)
    | _ => none
  | .bytesStr x => match s.eval x with
    | some v => match elems s.heap v with
      | some es => (bytesOf es).map fun l => (.str l, s)
      | none => none
    | none => none
  | .mkFunc f cap => match s.evals cap with
    | some vs => some (.fn f vs, s)
    | none => none
  | .mkIface t x => match s.eval x with
    | some v => some (.iface t v, s)
    | none => none
  | .makeMap => some (.mref s.heap.length, { s with heap := s.heap ++ [some (.map [])] })
  | .makeSlice sz bytes zero n c => match s.eval n, s.eval c with
    | some (.int .i64 n), some (.int .i64 c) =>
      if 0 ≤ n ∧ n ≤ c ∧ c ≤ 140737488355328 ∧ c.toNat * bytes ≤ maxBytes then
        if c = 0 then some (.emp, s) else some (.ref s.heap.length 0 0 n.toNat, addRow s sz (List.replicate n.toNat zero))
      else none
    | _, _ => none
  | .slice sz x lo hi mx => match s.eval x, s.evalO lo, s.evalO hi, s.evalO mx with
    | some v, some lo, some hi, some mx => if sliceOk s.heap sz v then (sliceOp v lo hi mx).map (·, s) else none
    | _, _, _, _ => none
  | .sliceS x lo hi => match s.eval x, s.evalO lo, s.evalO hi with
    | some v, some lo, some hi => (sliceStr v lo hi).map (·, s)
    | _, _, _ => none
  | .faddr off x => match s.eval x with
    | some (.ptr b g i o) => some (.ptr b g i (o + off), s)
    | some (.fptr cells o) => some (.fptr cells (o + off), s)
    | _ => none
  | .iaddr sz x i => match s.eval x, s.eval i with
    | some (.vsl es), some (.int _ n) => if 0 ≤ n then (match es[n.toNat]? with | some e => if e.cells.length = sz then some (.fptr e.cells 0, s) else none | none => none) else none
    | some (.ref b g off len), some (.int _ n) => if 0 ≤ n ∧ n < len then (match s.heap.row b g with | some (z, _) => if z = sz then some (.ptr b g (off + n.toNat) 0, s) else none | none => none) else none
    | _, _ => none
  | .iaddrP len sz x i => match s.eval x, s.eval i with
    | some (.ptr b g e o), some (.int _ n) => if 0 ≤ n ∧ n < len then some (.ptr b g e (o + n.toNat * sz), s) else none
    | some (.fptr cells o), some (.int _ n) => if 0 ≤ n ∧ n < len then some (.fptr cells (o + n.toNat * sz), s) else none
    | _, _ => none
  | .field agg sz off x => match s.eval x with
    | some (.agg cs) => (readAt agg sz cs off).map (·, s)
    | _ => none
  | .indexS x i => match s.eval x, s.eval i with
    | some (.str l), some (.int _ n) => if 0 ≤ n then (match l[n.toNat]? with | some c => some (.int .u8 c.toNat, s) | none => none) else none
    | _, _ => none
  | .indexG agg len sz x i => match s.eval x, s.eval i with
    | some (.agg cs), some (.int _ n) => if 0 ≤ n ∧ n < len then (readAt agg sz cs (n.toNat * sz)).map (·, s) else none
    | _, _ => none
  | .lookup kc zero x k ok => match s.eval x, s.eval k with
    | some m, some k =>
      match entriesOf s.heap m with
      | some kvs => match findKV kc k kvs 0 with
        | some (some (_, v)) => some (if ok then .tup [v, .bool true] else v, s)
        | some none => some (if ok then .tup [zero, .bool false] else zero, s)
        | none => none
      | none => none
    | _, _ => none
  | .extract x i => match s.eval x with
    | some (.tup vs) => vs[i]?.map (·, s)
    | _ => none
  | .len k x => match s.eval x with
    | some v => match lenOf s.heap k v with
      | some n => some (.int .i64 n, s)
      | none => none
    | none => none
  | .append sz bytes x y => match s.eval x, s.eval y with
    | some v, some y => match source s.heap y with
      | some ys => if szOk sz ys then appendOp sz bytes v ys s else none
      | none => none
    | _, _ => none
  | .copy sz x y => match s.eval x, s.eval y with
    | some x, some y => match source s.heap y with
      | some ys => if szOk sz ys then copyOp sz x ys s else none
      | none => none
    | _, _ => none
  | .clear zero x => match s.eval x with
    | some .nilsl => some (.tup [], s)
    | some .emp => some (.tup [], s)
    | some (.ref b g off len) => match s.heap.row b g with
      | some (sz, es) => if off + len ≤ es.length ∧ zero.cells.length = sz then
          some (.tup [], setRow s b sz g (es.take off ++ List.replicate len zero ++ es.drop (off + len))) else none
      | none => none
    | _ => none
  | .delete kc m k => match s.eval m, s.eval k with
    | some .nilmap, some _ => some (.tup [], s)
    | some (.mref b), some k => match s.heap.mapAt b with
      | some kvs => match findKV kc k kvs 0 with
        | some (some (i, _)) => some (.tup [], setMap s b (kvs.eraseIdx i))
        | some none => some (.tup [], setMap s b kvs)
        | none => none
      | none => none
    | _, _ => none
  | .minmax mx xs => match s.evals xs with
    | some (.int k a :: r) => (minmaxOf mx k a r).map fun n => (.int k n, s)
    | _ => none
  | _ => none
where
  fill (zero : List AV) : List (Nat × Nat × SX) → Option (List AV)
    | [] => some zero
    | (off, sz, x) :: r => match s.eval x with
      | some v => if v.cells.length = sz ∧ v.plain = true ∧ off + sz ≤ zero.length then fill (splice zero off v.cells) r else none
      | none => none
  fillE (sz : Nat) (es : List AV) : List (Nat × SX) → Option (List AV)
    | [] => some es
    | (i, x) :: r => match s.eval x with
      | some v => if i < es.length ∧ v.plain = true ∧ v.cells.length = sz then fillE sz (es.set i v) r else none
      | none => none
  bytesOf : List AV → Option (List UInt8)
    | [] => some []
    | .int .u8 n :: r => (bytesOf r).map (UInt8.ofNat n.toNat :: ·)
    | _ :: _ => none
  minmaxOf (mx : Bool) (k : IntKind) (a : Int) : List AV → Option Int
    | [] => some a
    | .int k' b :: r => if k = k' then minmaxOf mx k (if mx then (if a < b then b else a) else (if b < a then b else a)) r else none
    | _ :: _ => none

/-- A store's new element list. -/
def storeRow (es : List AV) (i off : Nat) (vs : List AV) : Option (List AV) :=
  match es[i]? with
  | some e => match writeElem e off vs with
    | some e' => some (es.set i e')
    | none => none
  | none => none

/-- Addresses within a box are none behind a new one in its place. -/
def killA (d : Nat) (p : Nat × Option (Nat × Nat)) : Nat × Option (Nat × Nat) :=
  match p.2 with
  | some q => if q.1 = d then (p.1, none) else p
  | none => p

/-- Every operation but calls, with the slot that it writes. -/
def sop (op : SOp) (dst : Option Nat) (s : St) : Option St :=
  match op with
  | .allocA zero => match dst with
    | some d => some { s with boxes := (d, some zero) :: s.boxes, addrs := (d, some (d, 0)) :: s.addrs.map (killA d) }
    | none => none
  | .boxA sz x => match dst, s.eval x with
    | some d, some v => if v.cells.length = sz ∧ v.plain = true then
        some { s with boxes := (d, some v.cells) :: s.boxes, addrs := (d, some (d, 0)) :: s.addrs.map (killA d) } else none
    | _, _ => none
  | .movA t => match dst, look s.addrs t with
    | some d, some p => if (look s.boxes p.1).isSome then some { s with addrs := (d, some p) :: s.addrs } else none
    | _, _ => none
  | .faddrA off t => match dst, look s.addrs t with
    | some d, some (b, o) => if (look s.boxes b).isSome then some { s with addrs := (d, some (b, o + off)) :: s.addrs } else none
    | _, _ => none
  | .iaddrA n sz t i => match dst, look s.addrs t, s.eval i with
    | some d, some (b, o), some (.int _ k) => if 0 ≤ k ∧ k < n ∧ (look s.boxes b).isSome then some { s with addrs := (d, some (b, o + k.toNat * sz)) :: s.addrs } else none
    | _, _, _ => none
  | .storeA sz t x => match look s.addrs t, s.eval x with
    | some (d, off), some v => match look s.boxes d with
      | some cells => if v.cells.length = sz ∧ v.plain = true ∧ off + sz ≤ cells.length then
          some ({ s with boxes := (d, some (splice cells off v.cells)) :: s.boxes }.put dst none) else none
      | none => none
    | _, _ => none
  | .store sz x y => match s.eval x, s.eval y with
    | some (.ptr b g i off), some v => match s.heap.row b g with
      | some (n, es) => if v.cells.length = sz ∧ v.plain = true then (match storeRow es i off v.cells with
          | some es' => some ((setRow s b n g es').put dst none)
          | none => none) else none
      | none => none
    | _, _ => none
  | .mapUpd kc m k x => match s.eval m, s.eval k, s.eval x with
    | some (.mref b), some k, some v => match s.heap.mapAt b with
      | some kvs => match findKV kc k kvs 0 with
        | some (some (i, _)) => some ((setMap s b (kvs.set i (k, v))).put dst none)
        | some none => some ((setMap s b (kvs ++ [(k, v)])).put dst none)
        | none => none
      | none => none
    | _, _, _ => none
  | op => match aop op s with
    | some (v, s') => some (s'.put dst (some v))
    | none => none

end Go.AI

/- The abstract interpreter's control: operations in turn, branches, loops, calls. -/
namespace Go.AI
open Go

/-- What a call comes to: the result, the heap, and a block number below which nothing was written. -/
abbrev Res := Option (AV × Heap × Nat)
abbrev Call := Nat → List AV → Heap → Res

def wantedS (s : St) : Option (Nat × Bool) → Option Bool
  | none => some true
  | some (t, want) => match look s.env t with
    | some (.bool b) => some (b == want)
    | some (.tup []) => some false
    | _ => none

/-- What stands in a slot whose operation was not wanted. -/
def undefV : SOp → Option AV
  | .movA _ | .faddrA .. | .iaddrA .. | .allocA _ | .boxA .. => none
  | _ => some (.tup [])

def doCall (call : Call) (f : Nat) (vs : List AV) (dst : Option Nat) (s : St) : Option St :=
  match call f vs s.heap with
  | some (r, H, lo) => some ({ s with heap := H, lo := min s.lo lo }.put dst (some r))
  | none => none

def step (call : Call) (op : SOp) (dst : Option Nat) (s : St) : Option St :=
  match op with
  | .call f args => match s.evals args with
    | some vs => doCall call f vs dst s
    | none => none
  | .callv x args => match s.eval x, s.evals args with
    | some (.fn f cap), some vs => doCall call f (vs ++ cap) dst s
    | _, _ => none
  | op => sop op dst s

def stepSI (call : Call) (i : SI) (s : St) : Option St :=
  match wantedS s i.guard with
  | some true => step call i.op i.dst s
  | some false => some (s.undef (undefV i.op) i.dst)
  | none => none

def stepAll (call : Call) : List SI → St → Option St
  | [], s => some s
  | i :: r, s => match stepSI call i s with
    | some s' => stepAll call r s'
    | none => none

/-- What is kept behind a region. -/
def restrict (env boxes : List Nat) (s : St) : St :=
  { s with
    env := env.map fun d => (d, look s.env d)
    boxes := boxes.map fun d => (d, look s.boxes d)
    addrs := boxes.map fun d => (d, some (d, 0)) }

def mapO {α β : Type} (f : α → Option β) : List α → Option (List β)
  | [] => some []
  | a :: r => match f a with
    | some b => match mapO f r with
      | some l => some (b :: l)
      | none => none
    | none => none

/-- A value without references to blocks from a number on. `strict`: without any. -/
def frzV (H : Heap) (n0 : Nat) : Bool → Nat → AV → Option AV
  | _, 0, _ => none
  | strict, n + 1, v => match v with
    | .nilsl => some (.vsl [])
    | .emp => some (.vsl [])
    | .ref b g off len => if b < n0 then (if strict then none else some (.ref b g off len)) else
      match H.row b g with
      | some (_, es) => if off + len ≤ es.length then (mapO (frzV H n0 true n) ((es.drop off).take len)).map .vsl else none
      | none => none
    | .ptr b g i off => if b < n0 then (if strict then none else some (.ptr b g i off)) else
      match H.row b g with
      | some (_, es) => match es[i]? with
        | some e => (mapO (frzV H n0 true n) e.cells).map fun cs => .fptr cs off
        | none => none
      | none => none
    | .mref b => if b < n0 then (if strict then none else some (.mref b)) else none
    | .agg cs => (mapO (frzV H n0 strict n) cs).map .agg
    | .tup vs => (mapO (frzV H n0 strict n) vs).map .tup
    | .fn f cap => (mapO (frzV H n0 strict n) cap).map (.fn f)
    | .iface t v => (frzV H n0 strict n v).map (.iface t)
    | v => some v

def depth : Nat := 9

/-- A slot's row, or variable, changes no more from now on. -/
def freeze (s : St) (d : Nat) : Option St :=
  match look s.env d with
  | some (.ref b g off len) => if b < s.base then none else match s.heap.row b g with
    | some (_, es) => if off + len ≤ es.length then
        match mapO (frzV [] 0 true depth) ((es.drop off).take len) with
        | some l => some ({ s with heap := s.heap.set b none, lo := min s.lo b }.put (some d) (some (.vsl l)))
        | none => none
      else none
    | none => none
  | some (.ptr b g i off) => if b < s.base then none else match s.heap.row b g with
    | some (_, es) => match es[i]? with
      | some e => match mapO (frzV [] 0 true depth) e.cells with
        | some cs => some ({ s with heap := s.heap.set b none, lo := min s.lo b }.put (some d) (some (.fptr cs off)))
        | none => none
      | none => none
    | none => none
  | some .nilsl => some (s.put (some d) (some (.vsl [])))
  | some .emp => some (s.put (some d) (some (.vsl [])))
  | _ => none

def freezeAll : List Nat → St → Option St
  | [], s => some s
  | d :: r, s => match freeze s d with
    | some s' => freezeAll r s'
    | none => none

/-- What stands behind a region. -/
def endRegion (env boxes frz : List Nat) (s : St) : Option St :=
  match freezeAll frz s with
  | some s' => some (restrict env boxes s')
  | none => none

mutual
def AV.same : AV → AV → Bool
  | .bool a, .bool b => a == b
  | .int k a, .int l b => k == l && a == b
  | .str a, .str b => a == b
  | .nilp, .nilp => true
  | .ptr a b c d, .ptr a' b' c' d' => a == a' && b == b' && c == c' && d == d'
  | .fptr cs o, .fptr cs' o' => AV.sameL cs cs' && o == o'
  | .nilsl, .nilsl => true
  | .emp, .emp => true
  | .vsl es, .vsl es' => AV.sameL es es'
  | .ref a b c d, .ref a' b' c' d' => a == a' && b == b' && c == c' && d == d'
  | .nilmap, .nilmap => true
  | .mref a, .mref b => a == b
  | .agg cs, .agg cs' => AV.sameL cs cs'
  | .tup cs, .tup cs' => AV.sameL cs cs'
  | .fn f cs, .fn g cs' => f == g && AV.sameL cs cs'
  | .nilfn, .nilfn => true
  | .iface t v, .iface u v' => t == u && AV.same v v'
  | .nilif, .nilif => true
  | .someif, .someif => true
  | _, _ => false
def AV.sameL : List AV → List AV → Bool
  | [], [] => true
  | a :: r, b :: r' => AV.same a b && AV.sameL r r'
  | _, _ => false
end

mutual
theorem AV.eq_of_same : ∀ {a b : AV}, AV.same a b = true → a = b
  | a, b, h => by
    cases a <;> cases b
    all_goals first
      | (simp [AV.same] at h; done)
      | rfl
      | skip
    all_goals simp only [AV.same, Bool.and_eq_true, beq_iff_eq] at h
    all_goals first
      | (subst h; rfl)
      | (obtain ⟨h1, h2⟩ := h; subst h1; subst h2; rfl)
      | (obtain ⟨⟨⟨h1, h2⟩, h3⟩, h4⟩ := h; subst h1; subst h2; subst h3; subst h4; rfl)
      | (rw [AV.eq_of_sameL h])
      | (rw [AV.eq_of_sameL h.1, h.2])
      | (rw [h.1, AV.eq_of_sameL h.2])
      | (rw [h.1, AV.eq_of_same h.2])
theorem AV.eq_of_sameL : ∀ {a b : List AV}, AV.sameL a b = true → a = b
  | [], [], _ => rfl
  | a :: r, b :: r', h => by
    simp only [AV.sameL, Bool.and_eq_true] at h
    rw [AV.eq_of_same h.1, AV.eq_of_sameL h.2]
  | [], _ :: _, h => by simp [AV.sameL] at h
  | _ :: _, [], h => by simp [AV.sameL] at h
end

mutual
theorem AV.same_self : ∀ (a : AV), AV.same a a = true
  | .bool a => by simp [AV.same]
  | .int k a => by simp [AV.same]
  | .str a => by simp [AV.same]
  | .nilp => by simp [AV.same]
  | .ptr a b c d => by simp [AV.same]
  | .fptr cs o => by simp [AV.same, AV.sameL_self cs]
  | .nilsl => by simp [AV.same]
  | .emp => by simp [AV.same]
  | .vsl es => by simp [AV.same, AV.sameL_self es]
  | .ref a b c d => by simp [AV.same]
  | .nilmap => by simp [AV.same]
  | .mref a => by simp [AV.same]
  | .agg cs => by simp [AV.same, AV.sameL_self cs]
  | .tup cs => by simp [AV.same, AV.sameL_self cs]
  | .fn f cs => by simp [AV.same, AV.sameL_self cs]
  | .nilfn => by simp [AV.same]
  | .iface t v => by simp [AV.same, AV.same_self v]
  | .nilif => by simp [AV.same]
  | .someif => by simp [AV.same]
theorem AV.sameL_self : ∀ (a : List AV), AV.sameL a a = true
  | [] => rfl
  | a :: r => by rw [AV.sameL, AV.same_self a, AV.sameL_self r]; rfl
end

def sameO {α : Type} (f : α → α → Bool) : Option α → Option α → Bool
  | none, none => true
  | some a, some b => f a b
  | _, _ => false
def sameLs {α : Type} (f : α → α → Bool) : List α → List α → Bool
  | [], [] => true
  | a :: r, b :: r' => f a b && sameLs f r r'
  | _, _ => false
def sameP {α β : Type} (f : α → α → Bool) (g : β → β → Bool) (x y : α × β) : Bool := f x.1 y.1 && g x.2 y.2
def Blk.same : Blk → Blk → Bool
  | .row s g es, .row s' g' es' => s == s' && g == g' && AV.sameL es es'
  | .map kvs, .map kvs' => sameLs (sameP AV.same AV.same) kvs kvs'
  | _, _ => false
def natEq (a b : Nat) : Bool := a == b
def St.same (s t : St) : Bool :=
  sameLs (sameP natEq (sameO AV.same)) s.env t.env && sameLs (sameP natEq (sameO AV.sameL)) s.boxes t.boxes &&
  sameLs (sameP natEq (sameO (sameP natEq natEq))) s.addrs t.addrs && sameLs (sameO Blk.same) s.heap t.heap && natEq s.lo t.lo && natEq s.base t.base

def Lawful {α : Type} (f : α → α → Bool) : Prop := ∀ a b, f a b = true ↔ a = b
theorem lawful_AV : Lawful AV.same := fun a b => ⟨AV.eq_of_same, fun h => h ▸ AV.same_self a⟩
theorem lawful_AVL : Lawful AV.sameL := fun a b => ⟨AV.eq_of_sameL, fun h => h ▸ AV.sameL_self a⟩
theorem lawful_nat : Lawful natEq := fun a b => by simp [natEq]
theorem lawful_O {α : Type} {f : α → α → Bool} (h : Lawful f) : Lawful (sameO f) := fun a b => by
  cases a <;> cases b <;> simp [sameO, h _ _]
theorem lawful_P {α β : Type} {f : α → α → Bool} {g : β → β → Bool} (h : Lawful f) (k : Lawful g) : Lawful (sameP f g) := fun x y => by
  obtain ⟨a, a'⟩ := x; obtain ⟨b, b'⟩ := y; simp [sameP, h _ _, k _ _]
theorem lawful_Ls {α : Type} {f : α → α → Bool} (h : Lawful f) : Lawful (sameLs f) := fun a => by
  induction a with
  | nil => intro b; cases b <;> simp [sameLs]
  | cons x r ih => intro b; cases b <;> simp [sameLs, h _ _, ih _]
theorem lawful_Blk : Lawful Blk.same := fun a b => by
  cases a <;> cases b <;> simp [Blk.same, lawful_AVL _ _, lawful_Ls (lawful_P lawful_AV lawful_AV) _ _, and_assoc]
theorem St.eq_of_same {s t : St} (h : s.same t = true) : s = t := by
  obtain ⟨e, b, a, H, l, n⟩ := s
  obtain ⟨e', b', a', H', l', n'⟩ := t
  simp only [St.same, Bool.and_eq_true] at h
  obtain ⟨⟨⟨⟨⟨h1, h2⟩, h3⟩, h4⟩, h5⟩, h6⟩ := h
  rw [(lawful_Ls (lawful_P lawful_nat (lawful_O lawful_AV)) _ _).1 h1, (lawful_Ls (lawful_P lawful_nat (lawful_O lawful_AVL)) _ _).1 h2,
    (lawful_Ls (lawful_P lawful_nat (lawful_O (lawful_P lawful_nat lawful_nat))) _ _).1 h3, (lawful_Ls (lawful_O lawful_Blk) _ _).1 h4, (lawful_nat _ _).1 h5, (lawful_nat _ _).1 h6]
theorem St.same_self (s : St) : s.same s = true := by
  simp only [St.same, Bool.and_eq_true]
  exact ⟨⟨⟨⟨⟨(lawful_Ls (lawful_P lawful_nat (lawful_O lawful_AV)) _ _).2 rfl, (lawful_Ls (lawful_P lawful_nat (lawful_O lawful_AVL)) _ _).2 rfl⟩,
    (lawful_Ls (lawful_P lawful_nat (lawful_O (lawful_P lawful_nat lawful_nat))) _ _).2 rfl⟩, (lawful_Ls (lawful_O lawful_Blk) _ _).2 rfl⟩, (lawful_nat _ _).2 rfl⟩, (lawful_nat _ _).2 rfl⟩

/-- A number above every block that a value's operation looks into. -/
def topV : Option AV → Nat
  | some (.ptr b _ _ _) => b + 1
  | some (.ref b _ _ _) => b + 1
  | some (.mref b) => b + 1
  | _ => 0

def topOf (s : St) : SOp → Nat
  | .load _ _ x | .faddr _ x | .slice _ x .. | .iaddr _ x _ | .iaddrP _ _ x _ | .lookup _ _ x _ _ | .len _ x => topV (s.eval x)
  | _ => 0

def heeds (G : List (Nat × Nat)) (anc : List Nat) (lo : Nat) : Bool := G.all fun p => anc.contains p.1 || decide (p.2 ≤ lo)

/-- A step, and below which block it wrote nothing. -/
def stepLo (call : Call) (i : SI) (s : St) : Option St := stepSI call i { s with lo := s.heap.length }

def stepG (call : Call) (G : List (Nat × Nat)) (un : List Nat) (i : SI) (s : St) : Option St :=
  match stepLo call i s with
  | some s' => if heeds G un s'.lo then some { s' with lo := min s.lo s'.lo } else none
  | none => none

def stepTree (call : Call) (fin : St → Option St) : List (Nat × Nat) → STree → St → Option St
  | _, .done, s => fin s
  | G, .take n i k, s => match stepSI call i s with
    | some s' => stepTree call fin ((n, topOf s i.op) :: G) k s'
    | none => none
  | G, .only un i k, s => match stepG call G un i s with
    | some s' => stepTree call fin G k s'
    | none => none
  | G, .fork un i k un' j k', s =>
    match stepG call G un i s, stepG call G un' j s with
    | some s1, some s2 => match stepTree call fin G k s1, stepTree call fin G k' s2 with
      | some r, some r' => if St.same r r' then some r else none
      | _, _ => none
    | _, _ => none

def iter (f : St → Option (SExit × St)) : Nat → St → Option (SExit × St)
  | 0, _ => none
  | n + 1, s => match f s with
    | some (.normal, s') => iter f n s'
    | r => r

def exec (call : Call) (m : Nat) : SCode → St → Option (SExit × St)
  | .skip, s => some (.normal, s)
  | .region is env boxes frz, s => match stepAll call is s with
    | some s' => (endRegion env boxes frz s').map (SExit.normal, ·)
    | none => none
  | .draw t env boxes frz, s => (stepTree call (endRegion env boxes frz) [] t s).map (SExit.normal, ·)
  | .seq a b, s => match exec call m a s with
    | some (.normal, s') => exec call m b s'
    | r => r
  | .cond c a b, s => match s.eval c with
    | some (.bool t) => if t then exec call m a s else exec call m b s
    | _ => none
  | .block id b, s => match exec call m b s with
    | some (.exit id', s') => if id' = id then some (.normal, s') else some (.exit id', s')
    | r => r
  | .loop b, s => iter (exec call m b) m s
  | .exit id, s => some (.exit id, s)
  | .ret, s => some (.ret, s)

inductive SRes where
  | slot (d : Nat)
  | cellA (agg : Bool) (sz t : Nat)
  | cell (agg : Bool) (sz d : Nat)

/-- `keep`: what was made stays in the heap behind the call. -/
structure SFun where
  np : Nat
  body : SCode
  results : List SRes
  keep : Bool

def initEnv : Nat → List AV → List (Nat × Option AV)
  | _, [] => []
  | i, v :: r => (i, some v) :: initEnv (i + 1) r

def evalRes (s : St) : SRes → Option AV
  | .slot d => look s.env d
  | .cellA agg sz t => match look s.addrs t with
    | some (d, off) => match look s.boxes d with
      | some cells => readAt agg sz cells off
      | none => none
    | none => none
  | .cell agg sz d => match look s.env d with
    | some (.ptr b g i off) => match s.heap.row b g with
      | some (_, es) => match es[i]? with
        | some e => readAt agg sz e.cells off
        | none => none
      | none => none
    | _ => none

def resultOf (s : St) (rs : List SRes) : Option AV :=
  match mapO (evalRes s) rs with
  | some [v] => some v
  | some vs => some (.tup vs)
  | none => none

def finish (keep : Bool) (H : Heap) (rs : List SRes) (s : St) : Res :=
  match resultOf s rs with
  | some r => if keep then some (r, s.heap, s.lo) else
      if H.length ≤ s.lo then (match frzV s.heap H.length false depth r with
        | some r' => some (r', H, H.length)
        | none => none) else none
  | none => none

def runF (call : Call) (m : Nat) (f : SFun) (args : List AV) (H : Heap) : Res :=
  if args.length ≤ f.np then match exec call m f.body { env := initEnv 0 args, boxes := [], addrs := [], heap := H, lo := H.length, base := H.length } with
  | some (.normal, s) => finish f.keep H f.results s
  | some (.ret, s) => finish f.keep H f.results s
  | _ => none
  else none

inductive Spec where
  | code (f : SFun)
  | prim (g : List AV → Heap → Res)

def run (F : Nat → Option Spec) : Nat → Call
  | 0, _, _, _ => none
  | n + 1, f, args, H => match F f with
    | some (.code sf) => runF (run F n) n sf args H
    | some (.prim g) => g args H
    | none => none

end Go.AI

/- What it means that values and memory of the model are those of the abstract interpreter. -/
set_option linter.unusedVariables false
namespace Go.AI
open Go

structure Mem where
  β : Nat → Nat × Nat
  H : Heap

def AV.one : AV → Bool
  | .agg _ | .tup _ => false
  | _ => true

def flat (es : List AV) : List AV := es.flatMap AV.cells

/-- A value of the model is an abstract one: `X` are the blocks that may change; without `Mem`: nothing that may change is in it. -/
inductive VR (w : World) (X : Nat → Prop) : Option Mem → Value → AV → Prop
  | bool {m} (b : Bool) : VR w X m (.bool b) (.bool b)
  | int {m} (k : IntKind) (n : Int) : VR w X m (.int k n) (.int k n)
  | str {m} (s : ByteArray) : VR w X m (.string s) (.str s.data.toList)
  | nilp {m} : VR w X m (.pointer none) .nilp
  | fptr {m} (c o off : Nat) (cells : List AV) (vals : List Value) (hX : ¬ X c) (hc : c < w.heap.size) (hr : w.rangeAt c o vals)
      (hl : vals.length = cells.length) (h1 : ∀ a ∈ cells, a.one = true)
      (hv : ∀ (k : Nat) (v : Value) (a : AV), vals[k]? = some v → cells[k]? = some a → VR w X none v a) :
      VR w X m (.pointer (some ⟨c, o + off, none⟩)) (.fptr cells off)
  | nilsl {m} : VR w X m (.slice none 0 0) .nilsl
  | emp {m} (a : Option Addr) : VR w X m (.slice a 0 0) .emp
  | vslE {m} (a : Option Addr) (cap : Nat) : VR w X m (.slice a 0 cap) (.vsl [])
  | vsl {m} (c o cap sz : Nat) (es : List AV) (vals : List Value) (hcap : es.length ≤ cap) (hX : ¬ X c) (hc : c < w.heap.size) (hr : w.rangeAt c o vals)
      (hl : vals.length = (flat es).length) (hsz : ∀ e ∈ es, e.cells.length = sz) (h1 : ∀ a ∈ flat es, a.one = true)
      (hv : ∀ (k : Nat) (v : Value) (a : AV), vals[k]? = some v → (flat es)[k]? = some a → VR w X none v a) :
      VR w X m (.slice (some ⟨c, o, none⟩) es.length cap) (.vsl es)
  | ptr {M : Mem} (p : Addr) (b g i off : Nat) (hb : b < M.H.length) (hg : ∀ s g' es, M.H.get b = some (.row s g' es) → g ≤ g')
      (h : ∀ s es, M.H.get b = some (.row s g es) → p = ⟨(M.β b).1, (M.β b).2 + i * s + off, none⟩) :
      VR w X (some M) (.pointer (some p)) (.ptr b g i off)
  | ref {M : Mem} (p : Addr) (b g off len cap : Nat) (hb : b < M.H.length) (hg : ∀ s g' es, M.H.get b = some (.row s g' es) → g ≤ g')
      (h : ∀ s es, M.H.get b = some (.row s g es) → len ≤ cap ∧ off + len ≤ es.length ∧
        (cap = 0 ∨ (p = ⟨(M.β b).1, (M.β b).2 + off * s, none⟩ ∧ w.there (M.β b).1 ((M.β b).2 + off * s) (cap * s)))) :
      VR w X (some M) (.slice (some p) len cap) (.ref b g off len)
  | nilmap {m} : VR w X m (.map none) .nilmap
  | mref {M : Mem} (r b : Nat) (hb : b < M.H.length) (h : ∀ kvs, M.H.get b = some (.map kvs) → r = (M.β b).1) :
      VR w X (some M) (.map (some r)) (.mref b)
  | agg {m} (cs : Array Value) (as : List AV) (hl : cs.size = as.length) (h1 : ∀ a ∈ as, a.one = true)
      (hv : ∀ (k : Nat) (v : Value) (a : AV), cs[k]? = some v → as[k]? = some a → VR w X m v a) : VR w X m (.agg cs) (.agg as)
  | tup {m} (cs : Array Value) (as : List AV) (hl : cs.size = as.length)
      (hv : ∀ (k : Nat) (v : Value) (a : AV), cs[k]? = some v → as[k]? = some a → VR w X m v a) : VR w X m (.tuple cs) (.tup as)
  | fn {m} (f : Nat) (cs : Array Value) (as : List AV) (hl : cs.size = as.length)
      (hv : ∀ (k : Nat) (v : Value) (a : AV), cs[k]? = some v → as[k]? = some a → VR w X m v a) : VR w X m (.func (.func f) #[] cs) (.fn f as)
  | nilfn {m} : VR w X m .nilFunc .nilfn
  | iface {m} (t : Nat) (v : Value) (a : AV) (h : VR w X m v a) : VR w X m (.iface t v) (.iface t a)
  | nilif {m} : VR w X m .nilIface .nilif
  | someif {m} (t : Nat) (v : Value) : VR w X m (.iface t v) .someif

/-- Lists of values, one by one. -/
def VRs (w : World) (X : Nat → Prop) (m : Option Mem) (vs : List Value) (as : List AV) : Prop :=
  vs.length = as.length ∧ ∀ (k : Nat) v a, vs[k]? = some v → as[k]? = some a → VR w X m v a

/-- What lies at a block's row. -/
structure RowR (w : World) (X : Nat → Prop) (M : Mem) (b s : Nat) (es : List AV) : Prop where
  ex : ∃ vals, w.rangeAt (M.β b).1 (M.β b).2 vals ∧ VRs w X (some M) vals (flat es)
  there : w.there (M.β b).1 (M.β b).2 (flat es).length
  sz : ∀ e ∈ es, e.cells.length = s
  one : ∀ a ∈ flat es, a.one = true

structure MapR (w : World) (X : Nat → Prop) (M : Mem) (b : Nat) (kvs : List (AV × AV)) : Prop where
  ex : ∃ (entries : Array MapEntry) (clock : Nat), w.heap[(M.β b).1]? = some (.map entries clock) ∧ entries.size = kvs.length ∧
    (∀ (k : Nat) e kv, entries[k]? = some e → kvs[k]? = some kv → VR w X (some M) e.key kv.1 ∧ VR w X (some M) e.val kv.2) ∧
    (∀ e ∈ entries, e.born < clock) ∧ (entries.toList.map (·.born)).Nodup

def Mem.live (M : Mem) (b : Nat) : Prop := (M.H.get b).isSome = true

/-- The blocks of what is in the heap. -/
def Mem.L (M : Mem) (c : Nat) : Prop := ∃ b, M.live b ∧ (M.β b).1 = c

structure HR (w : World) (X : Nat → Prop) (M : Mem) (N0 : Nat) : Prop where
  row : ∀ b s g es, M.H.get b = some (.row s g es) → RowR w X M b s es
  map : ∀ b kvs, M.H.get b = some (.map kvs) → MapR w X M b kvs
  inj : ∀ b b', M.live b → M.live b' → (M.β b).1 = (M.β b').1 → b = b'
  lt : ∀ b, M.live b → (M.β b).1 < w.heap.size
  ge : ∀ b, M.live b → N0 ≤ (M.β b).1

/-- What a stretch of code does to memory at most; of the blocks in `E` nothing is said. -/
structure Fr (E : Nat → Prop) (w : World) (M : Mem) (lo : Nat) (w' : World) (M' : Mem) : Prop where
  os : w'.os = w.os
  tape : w'.tape = w.tape
  output : w'.output = w.output
  size : w.heap.size ≤ w'.heap.size
  keep : ∀ c, c < w.heap.size → ¬ M.L c → ¬ E c → w'.heap[c]? = w.heap[c]?
  len : M.H.length ≤ M'.H.length
  row : ∀ b s g es, b < M.H.length → M'.H.get b = some (.row s g es) → ∃ g0 es0, M.H.get b = some (.row s g0 es0) ∧ g0 ≤ g ∧
    (g0 = g → M'.β b = M.β b ∧ es0.length ≤ es.length ∧ ∀ o n, w.there (M.β b).1 o n → w'.there (M.β b).1 o n)
  map : ∀ b kvs, b < M.H.length → M'.H.get b = some (.map kvs) → (∃ kvs0, M.H.get b = some (.map kvs0)) ∧ M'.β b = M.β b
  live : ∀ b, M'.live b → M.L (M'.β b).1 ∨ w.heap.size ≤ (M'.β b).1
  low : ∀ b, b < lo → b < M.H.length → M'.H[b]? = M.H[b]? ∧ M'.β b = M.β b ∧ (M.live b → w'.heap[(M.β b).1]? = w.heap[(M.β b).1]?)

theorem Fr.refl (E : Nat → Prop) (w : World) (M : Mem) (lo : Nat) : Fr E w M lo w M where
  os := rfl
  tape := rfl
  output := rfl
  size := Nat.le_refl _
  keep := fun _ _ _ _ => rfl
  len := Nat.le_refl _
  row := fun b s g es _ h => ⟨g, es, h, Nat.le_refl _, fun _ => ⟨rfl, Nat.le_refl _, fun _ _ h => h⟩⟩
  map := fun b kvs _ h => ⟨⟨kvs, h⟩, rfl⟩
  live := fun b h => .inl ⟨b, h, rfl⟩
  low := fun _ _ _ => ⟨rfl, rfl, fun _ => rfl⟩

theorem Heap.get_congr {H H' : Heap} {b : Nat} (h : H[b]? = H'[b]?) : H.get b = H'.get b := by
  unfold Heap.get; rw [h]

theorem Fr.mono {E E' : Nat → Prop} {w : World} {M : Mem} {lo lo' : Nat} {w' : World} {M' : Mem} (h : Fr E w M lo w' M') (hl : lo' ≤ lo) (hE : ∀ c, c < w.heap.size → E c → E' c) : Fr E' w M lo' w' M' :=
  { h with low := fun b hb => h.low b (Nat.lt_of_lt_of_le hb hl), keep := fun c hc h1 h2 => h.keep c hc h1 fun h => h2 (hE c hc h) }

theorem Fr.trans {E : Nat → Prop} {w w' w'' : World} {M M' M'' : Mem} {lo lo' : Nat} (h : Fr E w M lo w' M') (k : Fr E w' M' lo' w'' M'') :
    Fr E w M (min lo lo') w'' M'' where
  os := k.os.trans h.os
  tape := k.tape.trans h.tape
  output := k.output.trans h.output
  size := Nat.le_trans h.size k.size
  keep := fun c hc hL hE => by
    rw [k.keep c (Nat.lt_of_lt_of_le hc h.size) ?_ hE, h.keep c hc hL hE]
    rintro ⟨b, hb, e⟩
    rcases h.live b hb with hb' | hb'
    · exact hL (e ▸ hb')
    · omega
  len := Nat.le_trans h.len k.len
  row := fun b s g es hb hr => by
    obtain ⟨g1, es1, h1, hg1, e1⟩ := k.row b s g es (Nat.lt_of_lt_of_le hb h.len) hr
    obtain ⟨g0, es0, h0, hg0, e0⟩ := h.row b s g1 es1 hb h1
    refine ⟨g0, es0, h0, Nat.le_trans hg0 hg1, fun e => ?_⟩
    obtain ⟨a1, b1, c1⟩ := e1 (by omega)
    obtain ⟨a0, b0, c0⟩ := e0 (by omega)
    exact ⟨a1.trans a0, Nat.le_trans b0 b1, fun o n ht => by have := c1 o n (by rw [a0]; exact c0 o n ht); rwa [a0] at this⟩
  map := fun b kvs hb hr => by
    obtain ⟨⟨kvs1, h1⟩, e1⟩ := k.map b kvs (Nat.lt_of_lt_of_le hb h.len) hr
    obtain ⟨h0, e0⟩ := h.map b kvs1 hb h1
    exact ⟨h0, e1.trans e0⟩
  live := fun b hb => by
    rcases k.live b hb with ⟨b1, hb1, e1⟩ | hb1
    · rcases h.live b1 hb1 with ⟨b0, hb0, e0⟩ | hb0
      · exact .inl ⟨b0, hb0, e0.trans e1⟩
      · exact .inr (e1 ▸ hb0)
    · exact .inr (Nat.le_trans h.size hb1)
  low := fun b hb hl => by
    obtain ⟨a0, b0, c0⟩ := h.low b (by omega) hl
    obtain ⟨a1, b1, c1⟩ := k.low b (by omega) (Nat.lt_of_lt_of_le hl h.len)
    refine ⟨a1.trans a0, b1.trans b0, fun hv => ?_⟩
    have hv' : M'.live b := by unfold Mem.live at *; rw [Heap.get_congr a0]; exact hv
    rw [← c0 hv, ← b0]
    exact c1 hv'

theorem cell?_of_heap {w w' : World} {c : Nat} (h : w'.heap[c]? = w.heap[c]?) (o : Nat) : w'.cell? ⟨c, o, none⟩ = w.cell? ⟨c, o, none⟩ := by
  unfold World.cell?; rw [h]
theorem frozen?_of_heap {w w' : World} {c : Nat} (h : w'.heap[c]? = w.heap[c]?) (o : Nat) : w'.frozen? ⟨c, o, none⟩ = w.frozen? ⟨c, o, none⟩ := by
  unfold World.frozen?; rw [h]
theorem rangeAt_of_heap {w w' : World} {c o : Nat} {vs : List Value} (h : w'.heap[c]? = w.heap[c]?) (hr : w.rangeAt c o vs) : w'.rangeAt c o vs :=
  fun j v hv => by rw [cell?_of_heap h]; exact hr j v hv
theorem there_of_heap {w w' : World} {c o n : Nat} (h : w'.heap[c]? = w.heap[c]?) (hr : w.there c o n) : w'.there c o n :=
  fun j hj => by rw [cell?_of_heap h, frozen?_of_heap h]; exact hr j hj

/-- What is needed for values to stay what they are. -/
structure Stays (w : World) (X : Nat → Prop) (m : Option Mem) (w' : World) (X' : Nat → Prop) (m' : Option Mem) : Prop where
  size : w.heap.size ≤ w'.heap.size
  forb : ∀ c, c < w.heap.size → X' c → X c
  keep : ∀ c, c < w.heap.size → ¬ X c → w'.heap[c]? = w.heap[c]?
  mem : ∀ M, m = some M → ∃ M', m' = some M' ∧ M.H.length ≤ M'.H.length ∧
    (∀ b s g es, b < M.H.length → M'.H.get b = some (.row s g es) → ∃ g0 es0, M.H.get b = some (.row s g0 es0) ∧ g0 ≤ g ∧
      (g0 = g → M'.β b = M.β b ∧ es0.length ≤ es.length ∧ ∀ o n, w.there (M.β b).1 o n → w'.there (M.β b).1 o n)) ∧
    (∀ b kvs, b < M.H.length → M'.H.get b = some (.map kvs) → (∃ kvs0, M.H.get b = some (.map kvs0)) ∧ M'.β b = M.β b)

theorem Stays.none {w w' : World} {X X' : Nat → Prop} {m m' : Option Mem} (h : Stays w X m w' X' m') : Stays w X none w' X' none :=
  { h with mem := fun _ h => by cases h }

theorem VR.stays {w w' : World} {X X' : Nat → Prop} {m m' : Option Mem} {v : Value} {a : AV} (h : VR w X m v a) (hs : Stays w X m w' X' m') : VR w' X' m' v a := by
  induction h generalizing m' with
  | bool b => exact .bool b
  | int k n => exact .int k n
  | str s => exact .str s
  | nilp => exact .nilp
  | fptr c o off cells vals hX hc hr hl h1 hv ih =>
    exact .fptr c o off cells vals (fun h => hX (hs.forb c hc h)) (Nat.lt_of_lt_of_le hc hs.size) (rangeAt_of_heap (hs.keep c hc hX) hr) hl h1
      fun k v a h1 h2 => ih k v a h1 h2 hs.none
  | nilsl => exact .nilsl
  | emp a => exact .emp a
  | vslE a cap => exact .vslE a cap
  | vsl c o cap sz es vals hcap hX hc hr hl hsz h1 hv ih =>
    exact .vsl c o cap sz es vals hcap (fun h => hX (hs.forb c hc h)) (Nat.lt_of_lt_of_le hc hs.size) (rangeAt_of_heap (hs.keep c hc hX) hr) hl hsz h1
      fun k v a h1 h2 => ih k v a h1 h2 hs.none
  | ptr p b g i off hb hg h =>
    obtain ⟨M', rfl, hl, hrow, _⟩ := hs.mem _ rfl
    refine .ptr p b g i off (Nat.lt_of_lt_of_le hb hl) (fun s g' es hr => ?_) fun s es hr => ?_
    · obtain ⟨g0, es0, h0, hg0, _⟩ := hrow b s g' es hb hr
      exact Nat.le_trans (hg s g0 es0 h0) hg0
    · obtain ⟨g0, es0, h0, hg0, e⟩ := hrow b s g es hb hr
      have hgg := hg s g0 es0 h0
      obtain rfl : g0 = g := by omega
      rw [(e rfl).1]
      exact h s es0 h0
  | ref p b g off len cap hb hg h =>
    obtain ⟨M', rfl, hl, hrow, _⟩ := hs.mem _ rfl
    refine .ref p b g off len cap (Nat.lt_of_lt_of_le hb hl) (fun s g' es hr => ?_) fun s es hr => ?_
    · obtain ⟨g0, es0, h0, hg0, _⟩ := hrow b s g' es hb hr
      exact Nat.le_trans (hg s g0 es0 h0) hg0
    · obtain ⟨g0, es0, h0, hg0, e⟩ := hrow b s g es hb hr
      have hgg := hg s g0 es0 h0
      obtain rfl : g0 = g := by omega
      obtain ⟨e1, e2, e3⟩ := e rfl
      obtain ⟨h1, h2, h3⟩ := h s es0 h0
      rw [e1]
      exact ⟨h1, Nat.le_trans h2 e2, h3.imp id fun ⟨hp, ht⟩ => ⟨hp, e3 _ _ ht⟩⟩
  | nilmap => exact .nilmap
  | mref r b hb h =>
    obtain ⟨M', rfl, hl, _, hmap⟩ := hs.mem _ rfl
    refine .mref r b (Nat.lt_of_lt_of_le hb hl) fun kvs hr => ?_
    obtain ⟨⟨kvs0, h0⟩, e⟩ := hmap b kvs hb hr
    rw [e]; exact h kvs0 h0
  | agg cs as hl h1 hv ih => exact .agg cs as hl h1 fun k v a h1 h2 => ih k v a h1 h2 hs
  | tup cs as hl hv ih => exact .tup cs as hl fun k v a h1 h2 => ih k v a h1 h2 hs
  | fn f cs as hl hv ih => exact .fn f cs as hl fun k v a h1 h2 => ih k v a h1 h2 hs
  | nilfn => exact .nilfn
  | iface t v a h ih => exact .iface t v a (ih hs)
  | nilif => exact .nilif
  | someif t v => exact .someif t v

/-- What has no reference is the same in any heap. -/
theorem VR.any {w : World} {X : Nat → Prop} {v : Value} {a : AV} (h : VR w X none v a) (m : Option Mem) : VR w X m v a :=
  h.stays ⟨Nat.le_refl _, fun _ _ h => h, fun _ _ _ => rfl, fun _ h => by cases h⟩

theorem VR.one {w : World} {X : Nat → Prop} {m : Option Mem} {v : Value} {a : AV} (h : VR w X m v a) (h1 : a.one = true) : v.oneCell' = true := by
  cases h <;> first | rfl | (simp [AV.one] at h1)

/-- A value's cells are those of the abstract one. -/
theorem VR.cells {w : World} {X : Nat → Prop} {m : Option Mem} {v : Value} {a : AV} (h : VR w X m v a) :
    VRs w X m v.cells.toList a.cells := by
  cases h
  case agg cs as hl h1 hv => exact ⟨by simpa [Value.cells, AV.cells] using hl, fun k v a e1 e2 => hv k v a (by simpa [Value.cells] using e1) e2⟩
  all_goals
    refine ⟨by simp [Value.cells, AV.cells], fun k v a e1 e2 => ?_⟩
    cases k <;> simp [Value.cells, AV.cells] at e1 e2
    subst e1; subst e2
  case bool b => exact .bool b
  case int k n => exact .int k n
  case str s => exact .str s
  case nilp => exact .nilp
  case fptr c o off cells vals hX hc hr hl h1 hv => exact .fptr c o off cells vals hX hc hr hl h1 hv
  case nilsl => exact .nilsl
  case emp a => exact .emp a
  case vslE a cap => exact .vslE a cap
  case vsl c o cap sz es vals hcap hX hc hr hl hsz h1 hv => exact .vsl c o cap sz es vals hcap hX hc hr hl hsz h1 hv
  case ptr p b g i off hb hg h => exact .ptr p b g i off hb hg h
  case ref p b g off len cap hb hg h => exact .ref p b g off len cap hb hg h
  case nilmap => exact .nilmap
  case mref r b hb h => exact .mref r b hb h
  case tup cs as hl hv => exact .tup cs as hl hv
  case fn f cs as hl hv => exact .fn f cs as hl hv
  case nilfn => exact .nilfn
  case iface t v a h => exact .iface t v a h
  case nilif => exact .nilif
  case someif t v => exact .someif t v

end Go.AI

/- From the model's code to the interpreter's: each fact on types that an operation needs is asked here, once. -/
namespace Go.AI
open Go

/-- What is said of a function beside its text: slots that hold addresses of the frame's own boxes, what is kept behind each region, what is frozen there, in which order a region that draws one is taken, and what the world's own variables hold that it reads. -/
structure Hints where
  boxes : List Nat := []
  addrs : List Nat := []
  post : List (Nat × List Nat × List Nat × List Nat) := []
  order : List (Nat × List Nat) := []
  keep : Bool := false
  globals : List (Nat × List AV) := []

/-- What a variable of the world's own holds. -/
def globOf : List (Nat × List AV) → Nat → Option (List AV)
  | [], _ => none
  | (k, cs) :: r, g => if k = g then some cs else globOf r g

def ofCell : Value → Option AV
  | .bool b => some (.bool b)
  | .int k n => some (.int k n)
  | .string s => some (.str s.data.toList)
  | .pointer none => some .nilp
  | .slice none 0 0 => some .nilsl
  | .map none => some .nilmap
  | .nilFunc => some .nilfn
  | .nilIface => some .nilif
  | _ => none

def ofV : Value → Option AV
  | .agg cs => (mapO ofCell cs.toList).map .agg
  | v => ofCell v

section
variable (P : Program) (h : Hints) (ntmps : Nat)

def isA (t : Nat) : Bool := h.addrs.contains t || h.boxes.contains t

def cX : Operand → Option SX
  | .tmp t => if isA h t then none else some (.slot t)
  | .const v => (ofV v).map .lit
  | .func f => some (.lit (.fn f []))
  | .global g => (globOf h.globals g).map fun cs => .lit (.fptr cs 0)

def cXs (xs : Array Operand) : Option (List SX) := mapO (cX h) xs.toList

def cXO : Option Operand → Option (Option SX)
  | none => some none
  | some x => (cX h x).map some

/-- Is it an address slot? -/
def cA : Operand → Option Nat
  | .tmp t => if isA h t then some t else none
  | _ => none

def isConst : Operand → Bool
  | .const _ => true
  | _ => false

def szOf (t : TypeId) : Option Nat := (P.info? t).map (·.size)
def aggOf (t : TypeId) : Option Bool := (P.underlying t).map fun | .struct _ | .array _ _ => true | _ => false
def zeroOf (t : TypeId) : Option AV := ((P.info? t).bind (·.zero)).bind ofV

def cEq : Nat → TypeId → Option Eqc
  | 0, _ => none
  | n + 1, t => match P.underlying t with
    | some .bool => some .bool
    | some (.int _) => some .int
    | some .string => some .str
    | some (.pointer e) => match szOf P e with
      | some 0 => none
      | some _ => some .ptr
      | none => none
    | some (.slice _) => some .slice
    | some (.map ..) => some .map
    | some (.func ..) => some .func
    | some (.interface _) => some .iface
    | some (.struct fs) => if P.stoodInHeld t || P.eqGuardType P.depth t then none else
      (mapO (fun f => if f.name = "_" then none else match cEq n f.type with
        | some .int => some (f.offset, Eqc.int)
        | some .str => some (f.offset, Eqc.str)
        | some .bool => some (f.offset, Eqc.bool)
        | _ => none) fs.toList).map .struct
    | _ => none

/-- How a map's keys are held against each other. -/
def cKey (kt : TypeId) : Option Eqc :=
  match P.underlying kt with
  | some (.int _) => some .int
  | some .string => some .str
  | some .bool => some .bool
  | _ => none

/-- Where the parts of a struct or array lie. -/
def placeOf (t : TypeId) : Option (Nat → Option (Nat × Nat)) :=
  match P.underlying t with
  | some (.struct fs) => match fs.toList.mapM (fun f => (P.info? f.type).map fun i => (f.offset, i.size)) with
    | some pl => some fun i => pl[i]?
    | none => none
  | some (.array _ e) => match P.info? e with
    | some i => some fun k => some (k * i.size, i.size)
    | none => none
  | _ => none

def places (t : TypeId) (parts : List (Nat × Operand)) : Option (List (Nat × Nat × SX)) :=
  match placeOf P t with
  | some pl => mapO (fun p => match pl p.1, cX h p.2 with
      | some q, some x => some (q.1, q.2, x)
      | _, _ => none) parts
  | none => none

def valueOp (o : Oper) (op : Option SOp) : Option SOp :=
  match o.dst with
  | none => op
  | some d => if isA h d || ntmps ≤ d then none else op

def addrOp (o : Oper) (op : Option SOp) : Option SOp :=
  match o.dst with
  | some d => if h.addrs.contains d && !h.boxes.contains d && decide (d < ntmps) then op else none
  | none => none

def boxOp (d : Nat) (op : Option SOp) : Option SOp :=
  if decide (d < ntmps) then op else none

def cCall (o : Oper) (c : Go.Call) : Option SOp :=
  match c.callee with
  | .value (.func f) => match P.funcs[f]? with
    | some fn => if fn.name == "runtime.NumGoroutine" || fn.body.isNone then none else (cXs h c.args).map (.call f)
    | none => none
  | .value x => match cX h x, cXs h c.args with
    | some x, some xs => some (.callv x xs)
    | _, _ => none
  | .invoke .. => none
  | .builtin b => match b, c.args.toList, c.argTypes.toList with
    | .len, [x], [t] => match P.underlying t with
      | some .string => (cX h x).map (.len .str)
      | some (.slice _) => (cX h x).map (.len .sl)
      | some (.map ..) => (cX h x).map (.len .mp)
      | some (.array n _) => some (.mov (.lit (.int .i64 n)))
      | some (.pointer e) => match P.underlying e with
        | some (.array n _) => some (.mov (.lit (.int .i64 n)))
        | _ => none
      | _ => none
    | .append, [x, y], [t, ty] => match P.underlying t, P.underlying ty with
      | some (.slice e), some (.slice e') => match P.info? e, szOf P e' with
        | some i, some sz' => if 0 < i.size ∧ sz' = i.size ∧ (i.zero.map (·.cells.size)) = some i.size then (match cX h x, cX h y with
            | some x, some y => some (.append i.size i.bytes x y)
            | _, _ => none) else none
        | _, _ => none
      | some (.slice e), some .string => match P.info? e, P.underlying e with
        | some i, some (.int .u8) => if i.size = 1 ∧ (i.zero.map (·.cells.size)) = some 1 then (match cX h x, cX h y with
            | some x, some y => some (.append 1 i.bytes x y)
            | _, _ => none) else none
        | _, _ => none
      | _, _ => none
    | .min, _, _ => (cXs h c.args).map (.minmax false)
    | .max, _, _ => (cXs h c.args).map (.minmax true)
    | .delete, [m, k], [t, _] => match P.underlying t with
      | some (.map kt _) => match cKey P kt, cX h m, cX h k with
        | some kc, some m, some k => some (.delete kc m k)
        | _, _, _ => none
      | _ => none
    | .clear, [x], [t] => match P.underlying t with
      | some (.slice e) => match zeroOf P e, cX h x with
        | some z, some x => if 0 < z.cells.length then some (.clear z x) else none
        | _, _ => none
      | _ => none
    | _, _, _ => none

def cop (o : Oper) : Option SOp :=
  let v := valueOp h ntmps o
  let ad := addrOp h ntmps o
  match o.op with
  | .move x | .assign x => match cA h x with
    | some t => ad (some (.movA t))
    | none => v ((cX h x).map .mov)
  | .pick c a b => match cX h c, cX h a, cX h b with
    | some c, some a, some b => v (some (.pick c a b))
    | _, _, _ => none
  | .alloc e => match zeroOf P e with
    | some z => match o.dst with
      | some d => if h.boxes.contains d then boxOp ntmps d (some (.allocA z.cells)) else if z.cells.length = 0 then none else v (some (.alloc z))
      | none => none
    | none => none
  | .box e x => match szOf P e, cX h x with
    | some sz, some x => match o.dst with
      | some d => if h.boxes.contains d then boxOp ntmps d (some (.boxA sz x)) else if sz = 0 then none else v (some (.box sz x))
      | none => none
    | _, _ => none
  | .build t ps => match zeroOf P t, places P h t ps.toList with
    | some (.agg z), some l => v (some (.build z l))
    | _, _ => none
  | .buildSlice t n ps => match P.underlying t with
    | some (.slice e) => match szOf P e, zeroOf P e, mapO (fun p => (cX h p.2).map fun x => (p.1, x)) ps.toList with
      | some sz, some z, some l => if 0 < sz ∧ z.cells.length = sz ∧ n * sz ≤ 16777216 ∧ (n = 0 → ps.size = 0) then v (some (.buildSlice sz z n l)) else none
      | _, _, _ => none
    | _ => none
  | .load t x => match aggOf P t, szOf P t with
    | some agg, some sz => match cA h x with
      | some s => v (some (.loadA agg sz s))
      | none => v ((cX h x).map (.load agg sz))
    | _, _ => none
  | .store t x y => match szOf P t, cX h y with
    | some sz, some y => match cA h x with
      | some s => v (some (.storeA sz s y))
      | none => v ((cX h x).map (.store sz · y))
    | _, _ => none
  | .nilCheck x => match cA h x with
    | some t => ad (some (.movA t))
    | none => v ((cX h x).map .nilCheck)
  | .binOp op t x y _ => match cX h x, cX h y with
    | some sx, some sy => v (match op with
      | .eql | .neq => match cEq P 3 t with
        | some .iface => if isConst x || isConst y then some (.bin op .iface sx sy) else none
        | some e => some (.bin op e sx sy)
        | none => none
      | _ => some (.bin op .no sx sy))
    | _, _ => none
  | .unOp op _ x => v ((cX h x).map (.un op))
  | .convert src dst x => match P.underlying src, P.underlying dst with
    | some _, some (.int k) => v ((cX h x).map (.conv k))
    | some .string, some .string => v ((cX h x).map .sameS)
    | _, _ => none
  | .makeFunc fn first cap => match fn with
    | .func f => if first.size = 0 then v ((cXs h cap).map (.mkFunc f)) else none
    | _ => none
  | .makeInterface t x => match P.underlying t with
    | some (.interface _) => none
    | some _ => v ((cX h x).map (.mkIface t))
    | none => none
  | .makeMap _ none => v (some .makeMap)
  | .makeSlice t n c => match P.underlying t with
    | some (.slice e) => match P.info? e, zeroOf P e, cX h n, cX h c with
      | some i, some z, some n, some c => if 0 < i.size ∧ z.cells.length = i.size then v (some (.makeSlice i.size i.bytes z n c)) else none
      | _, _, _, _ => none
    | _ => none
  | .slice t x lo hi mx => match P.underlying t with
    | some .string => match mx with
      | none => match cX h x, cXO h lo, cXO h hi with
        | some x, some lo, some hi => v (some (.sliceS x lo hi))
        | _, _, _ => none
      | some _ => none
    | some (.slice e) => match szOf P e, cX h x, cXO h lo, cXO h hi, cXO h mx with
      | some sz, some x, some lo, some hi, some mx => if 0 < sz ∧ (mx.isNone ∨ hi.isSome) then v (some (.slice sz x lo hi mx)) else none
      | _, _, _, _, _ => none
    | _ => none
  | .fieldAddr t x f => match P.underlying t with
    | some (.struct fs) => match fs[f]? with
      | some fd => match szOf P fd.type with
        | some 0 => none
        | some _ => match cA h x with
          | some s => ad (some (.faddrA fd.offset s))
          | none => v ((cX h x).map (.faddr fd.offset))
        | none => none
      | none => none
    | _ => none
  | .indexAddr t x i => match P.underlying t, cX h i with
    | some (.slice e), some i => match szOf P e with
      | some sz => if 0 < sz then v ((cX h x).map (.iaddr sz · i)) else none
      | none => none
    | some (.array n e), some i => match szOf P e with
      | some sz => match cA h x with
        | some s => ad (some (.iaddrA n sz s i))
        | none => v ((cX h x).map (.iaddrP n sz · i))
      | none => none
    | _, _ => none
  | .field t x f => match P.underlying t with
    | some (.struct fs) => match fs[f]? with
      | some fd => match aggOf P fd.type, szOf P fd.type with
        | some agg, some sz => v ((cX h x).map (.field agg sz fd.offset))
        | _, _ => none
      | none => none
    | _ => none
  | .index t x i => match P.underlying t, cX h x, cX h i with
    | some .string, some x, some i => v (some (.indexS x i))
    | some (.array n e), some x, some i => match aggOf P e, szOf P e with
      | some agg, some sz => v (some (.indexG agg n sz x i))
      | _, _ => none
    | _, _, _ => none
  | .lookup t x k ok => match P.underlying t, cX h x, cX h k with
    | some (.map kt e), some x, some k => match zeroOf P e, cKey P kt with
      | some z, some kc => v (some (.lookup kc z x k ok))
      | _, _ => none
    | _, _, _ => none
  | .mapUpdate t m k x => match P.underlying t, cX h m, cX h k, cX h x with
    | some (.map kt _), some m, some k, some x => match cKey P kt with
      | some kc => v (some (.mapUpd kc m k x))
      | none => none
    | _, _, _, _ => none
  | .extract x i => v ((cX h x).map (.extract · i))
  | .call c => v (cCall P h o c)
  | _ => none

end
end Go.AI

/- The frame of a call of the model, and the abstract one. -/
set_option linter.unusedVariables false
namespace Go.AI
open Go

/-- What stands fast while a function runs: which slots hold addresses, how many slots there are, whose blocks are not to be touched, where the world's own blocks begin, and where the call's. -/
structure Ctx where
  P : Program
  h : Hints
  ntmps : Nat
  Y : Nat → Prop
  N0 : Nat
  N1 : Nat
  G : Nat → Option (List Value)

def XX (Y : Nat → Prop) (M : Mem) (boxes : List (Nat × Option (List AV))) (B : Nat → Nat) (k : Nat) : Prop :=
  Y k ∨ M.L k ∨ ∃ d cells, look boxes d = some cells ∧ B d = k

structure BoxR (c : Ctx) (w : World) (X : Nat → Prop) (M : Mem) (a : Act) (B : Nat → Nat) (d : Nat) (cells : List AV) : Prop where
  slot : a.tmps.getD d undef = .pointer (some ⟨B d, 0, none⟩)
  isA : c.h.boxes.contains d = true
  lt : B d < w.heap.size
  notY : ¬ c.Y (B d)
  ge : c.N1 ≤ B d
  ex : ∃ vals, w.rangeAt (B d) 0 vals ∧ VRs w X (some M) vals cells
  there : w.there (B d) 0 cells.length
  one : ∀ a ∈ cells, a.one = true

structure SR (c : Ctx) (s : St) (a : Act) (w : World) (M : Mem) (B : Nat → Nat) : Prop where
  heap : M.H = s.heap
  size : c.ntmps ≤ a.tmps.size
  defers : a.defers = []
  hr : HR w (XX c.Y M s.boxes B) M c.N0
  notY : ∀ b, M.live b → ¬ c.Y (M.β b).1
  notB : ∀ b d cells, M.live b → look s.boxes d = some cells → B d ≠ (M.β b).1
  env : ∀ d v, look s.env d = some v → VR w (XX c.Y M s.boxes B) (some M) (a.tmps.getD d undef) v
  envA : ∀ d v, look s.env d = some v → isA c.h d = false
  box : ∀ d cells, look s.boxes d = some cells → BoxR c w (XX c.Y M s.boxes B) M a B d cells
  inj : ∀ d d' cells cells', look s.boxes d = some cells → look s.boxes d' = some cells' → B d = B d' → d = d'
  addr : ∀ t d off cells, look s.addrs t = some (d, off) → look s.boxes d = some cells → a.tmps.getD t undef = .pointer (some ⟨B d, off, none⟩)
  addrA : ∀ t p, look s.addrs t = some p → isA c.h t = true
  base : c.N1 ≤ w.heap.size
  N0 : c.N0 ≤ c.N1
  Ylt : ∀ k, c.Y k → k < c.N1
  lole : s.lo ≤ s.heap.length
  Yge : ∀ k, c.Y k → c.N0 ≤ k
  gl : ∀ g cells, globOf c.h.globals g = some cells → VR w (XX c.Y M s.boxes B) (some M) (.pointer (some ⟨g, 0, none⟩)) (.fptr cells 0)

theorem look_cons {α : Type} (k : Nat) (v : Option α) (r : List (Nat × Option α)) (d : Nat) : look ((k, v) :: r) d = if k = d then v else look r d := rfl

theorem getD_set {tmps : Array Value} {d t : Nat} {v : Value} (hd : d < tmps.size) : (tmps.setIfInBounds d v).getD t undef = if d = t then v else tmps.getD t undef := by
  simp only [Array.getD_eq_getD_getElem?, Array.getElem?_setIfInBounds]
  split
  · subst_vars; simp [hd]
  · rfl

theorem isA_box {h : Hints} {d : Nat} (hb : h.boxes.contains d = true) : isA h d = true := by simp only [isA, hb, Bool.or_true]

section
variable {c : Ctx} {s : St} {a : Act} {w : World} {M : Mem} {B : Nat → Nat}

/-- A value goes into a slot. -/
theorem SR.put (h : SR c s a w M B) {d : Nat} {v : Value} {o : Option AV} (hA : isA c.h d = false) (hd : d < c.ntmps)
    (hv : ∀ av, o = some av → VR w (XX c.Y M s.boxes B) (some M) v av) : SR c (s.put (some d) o) (a.put (some d) v) w M B := by
  have hds : d < a.tmps.size := Nat.lt_of_lt_of_le hd h.size
  have hne : ∀ t, isA c.h t = true → d ≠ t := fun t ht e => by subst e; rw [hA] at ht; cases ht
  exact {
    heap := h.heap
    size := by simpa [Act.put] using h.size
    defers := h.defers
    hr := h.hr
    notY := h.notY
    notB := h.notB
    env := fun t av ht => by
      simp only [St.put, look_cons] at ht
      simp only [Act.put, getD_set hds]
      split at ht
      · rename_i e
        subst e
        simp only [if_true]
        exact hv _ ht
      · rename_i e
        rw [if_neg e]
        exact h.env t av ht
    envA := fun t av ht => by
      simp only [St.put, look_cons] at ht
      split at ht
      · rename_i e; exact e ▸ hA
      · exact h.envA t av ht
    box := fun t cells ht => by
      have hb := h.box t cells ht
      have hn := hne t (isA_box hb.isA)
      refine { hb with slot := ?_ }
      simp only [Act.put, getD_set hds, if_neg hn]
      exact hb.slot
    inj := h.inj
    addr := fun t d' off cells ht hb => by
      have := hne t (h.addrA t _ ht)
      simp only [Act.put, getD_set hds, if_neg this]
      exact h.addr t d' off cells ht hb
    addrA := h.addrA
    base := h.base
    N0 := h.N0
    Ylt := h.Ylt
    lole := h.lole
    Yge := h.Yge
    gl := h.gl }

theorem SR.putNone (h : SR c s a w M B) (v : Value) : SR c (s.put none none) (a.put none v) w M B := h

/-- Whatever slot a value's operation names. -/
theorem SR.puts (h : SR c s a w M B) {dst : Option Nat} {v : Value} {o : Option AV} (hd : ∀ d, dst = some d → isA c.h d = false ∧ d < c.ntmps)
    (hv : ∀ av, o = some av → VR w (XX c.Y M s.boxes B) (some M) v av) : SR c (s.put dst o) (a.put dst v) w M B := by
  cases dst with
  | none => exact h
  | some d => exact h.put (hd d rfl).1 (hd d rfl).2 hv

/-- Another count of what was written, and nothing else. -/
theorem SR.lo (h : SR c s a w M B) (n : Nat) (hn : n ≤ s.heap.length) : SR c { s with lo := n } a w M B := { h with lole := hn }

/-- The same frame in a world that has gone on. -/
theorem SR.world (h : SR c s a w M B) {w' : World} {M' : Mem} {s' : St} (henv : s'.env = s.env) (hboxes : s'.boxes = s.boxes) (haddrs : s'.addrs = s.addrs) (hheap : M'.H = s'.heap) {lo : Nat} (hlo : s'.lo ≤ s'.heap.length)
    (hf : Fr (fun _ => False) w M lo w' M')
    (hr : HR w' (XX c.Y M' s.boxes B) M' c.N0) : SR c s' a w' M' B := by
  have hL : ∀ k, k < w.heap.size → M'.L k → M.L k := by
    rintro k hk ⟨b, hb, rfl⟩
    rcases hf.live b hb with h1 | h1
    · exact h1
    · omega
  have hX : ∀ k, k < w.heap.size → XX c.Y M' s.boxes B k → XX c.Y M s.boxes B k := fun k hk hx =>
    hx.imp id (Or.imp (hL k hk) id)
  have hs : Stays w (XX c.Y M s.boxes B) (some M) w' (XX c.Y M' s.boxes B) (some M') :=
    ⟨hf.size, hX, fun k hk hnx => hf.keep k hk (fun hl => hnx (.inr (.inl hl))) (fun h => h), fun M0 e => by
      cases e; exact ⟨M', rfl, hf.len, hf.row, hf.map⟩⟩
  have hkb : ∀ d cells, look s.boxes d = some cells → w'.heap[B d]? = w.heap[B d]? := fun d cells hb =>
    hf.keep _ (h.box d cells hb).lt (by rintro ⟨b, hl, e⟩; exact h.notB b d cells hl hb e.symm) (fun h => h)
  exact {
    heap := hheap
    size := h.size
    defers := h.defers
    hr := by rw [hboxes]; exact hr
    notY := fun b hb hy => by
      rcases hf.live b hb with ⟨b0, hb0, e⟩ | h1
      · exact h.notY b0 hb0 (e ▸ hy)
      · have := h.Ylt _ hy
        have := h.base
        omega
    notB := fun b d cells hb hbx e => by
      rw [hboxes] at hbx
      rcases hf.live b hb with ⟨b0, hb0, e0⟩ | h1
      · exact h.notB b0 d cells hb0 hbx (e.trans e0.symm)
      · have := (h.box d cells hbx).lt; omega
    env := fun d v hd => by rw [henv] at hd; rw [hboxes]; exact (h.env d v hd).stays hs
    envA := fun d v hd => h.envA d v (by rw [henv] at hd; exact hd)
    box := fun d cells hb => by
      rw [hboxes] at hb ⊢
      have hbx := h.box d cells hb
      obtain ⟨vals, hrg, hv⟩ := hbx.ex
      exact { hbx with
        lt := Nat.lt_of_lt_of_le hbx.lt hf.size
        ex := ⟨vals, rangeAt_of_heap (hkb d cells hb) hrg, hv.1, fun k v a h1 h2 => (hv.2 k v a h1 h2).stays hs⟩
        there := there_of_heap (hkb d cells hb) hbx.there }
    inj := fun d d' x y h1 h2 => by rw [hboxes] at h1 h2; exact h.inj d d' x y h1 h2
    addr := fun t d off cells h1 h2 => by rw [haddrs] at h1; rw [hboxes] at h2; exact h.addr t d off cells h1 h2
    addrA := fun t p h1 => by rw [haddrs] at h1; exact h.addrA t p h1
    base := Nat.le_trans h.base hf.size
    N0 := h.N0
    Ylt := h.Ylt
    lole := hlo
    Yge := h.Yge
    gl := fun g cells hg => by rw [hboxes]; exact (h.gl g cells hg).stays hs }
end
end Go.AI

/- Operations that only compute: sound. -/
set_option linter.unusedVariables false
set_option linter.unusedSimpArgs false
namespace Go.AI
open Go

/-- Blocks that an operation may write though they are none of the heap's: a store into a box. -/
def exempt (op : SOp) (s : St) (B : Nat → Nat) (k : Nat) : Prop :=
  (∃ sz t v, op = .storeA sz t v) ∧ ∃ d cells, look s.boxes d = some cells ∧ B d = k

def Sound (c : Ctx) (o : Oper) (op : SOp) : Prop :=
  ∀ s s' a w M B, SR c s a w M B → sop op o.dst s = some s' → ∀ K Q,
    (∀ a' w' M' B', SR c s' a' w' M' B' → Fr (exempt op s B) w M s'.lo w' M' → s'.lo ≤ s.lo → K a' w') → o.wp c.P a w K Q

/-- The slot that a value's operation names. -/
def DstOk (c : Ctx) (o : Oper) : Prop := ∀ d, o.dst = some d → isA c.h d = false ∧ d < c.ntmps

theorem valueOp_ok {c : Ctx} {o : Oper} {x : Option SOp} {op : SOp} (h : valueOp c.h c.ntmps o x = some op) : x = some op ∧ DstOk c o := by
  unfold valueOp at h
  unfold DstOk
  cases hd : o.dst with
  | none => simp only [hd] at h; exact ⟨h, fun d e => by cases e⟩
  | some d =>
    simp only [hd] at h
    split at h
    · cases h
    · rename_i hn
      simp only [Bool.or_eq_true, decide_eq_true_eq, not_or, Bool.not_eq_true] at hn
      exact ⟨h, fun d' e => by cases e; exact ⟨hn.1, Nat.lt_of_not_le hn.2⟩⟩

theorem addrOp_ok {c : Ctx} {o : Oper} {x : Option SOp} {op : SOp} (h : addrOp c.h c.ntmps o x = some op) :
    x = some op ∧ ∃ d, o.dst = some d ∧ isA c.h d = true ∧ c.h.boxes.contains d = false ∧ d < c.ntmps := by
  unfold addrOp at h
  cases hd : o.dst with
  | none => simp [hd] at h
  | some d =>
    simp only [hd] at h
    split at h
    · rename_i hn
      simp only [Bool.and_eq_true, decide_eq_true_eq, Bool.not_eq_true'] at hn
      exact ⟨h, d, rfl, by simp only [isA, hn.1.1, Bool.true_or], hn.1.2, hn.2⟩
    · cases h

theorem mapO_some {α β : Type} {f : α → Option β} : ∀ {l : List α} {r : List β}, mapO f l = some r →
    l.length = r.length ∧ ∀ (k : Nat) x y, l[k]? = some x → r[k]? = some y → f x = some y
  | [], r, h => by
    simp only [mapO, Option.some.injEq] at h
    subst h
    exact ⟨rfl, fun k x y h => by simp at h⟩
  | a :: l, r, h => by
    simp only [mapO] at h
    split at h
    · rename_i b hb
      split at h
      · rename_i r' hr'
        cases h
        obtain ⟨h1, h2⟩ := mapO_some hr'
        refine ⟨by simp [h1], fun k x y hx hy => ?_⟩
        cases k with
        | zero => simp at hx hy; subst hx; subst hy; exact hb
        | succ k => exact h2 k x y (by simpa using hx) (by simpa using hy)
      · cases h
    · cases h

section lits
variable {w : World} {X : Nat → Prop} {m : Option Mem}
theorem ofCell_VR {v : Value} {a : AV} (h : ofCell v = some a) : VR w X m v a ∧ a.one = true := by
  unfold ofCell at h
  split at h <;> simp at h <;> subst h
  · exact ⟨.bool _, rfl⟩
  · exact ⟨.int _ _, rfl⟩
  · exact ⟨.str _, rfl⟩
  · exact ⟨.nilp, rfl⟩
  · exact ⟨.nilsl, rfl⟩
  · exact ⟨.nilmap, rfl⟩
  · exact ⟨.nilfn, rfl⟩
  · exact ⟨.nilif, rfl⟩

theorem ofV_VR {v : Value} {a : AV} (h : ofV v = some a) : VR w X m v a := by
  unfold ofV at h
  split at h
  · rename_i cs
    simp only [Option.map_eq_some_iff] at h
    obtain ⟨l, hl, rfl⟩ := h
    obtain ⟨h1, h2⟩ := mapO_some hl
    refine .agg cs l (by simpa using h1) (fun x hx => ?_) fun k v x hv hx => (ofCell_VR (h2 k v x (by simpa using hv) hx)).1
    obtain ⟨k, hk⟩ := List.getElem?_of_mem hx
    have hk' : k < cs.toList.length := by rw [h1]; exact (List.getElem?_eq_some_iff.1 hk).1
    exact (ofCell_VR (w := w) (X := X) (m := m) (h2 k _ x (List.getElem?_eq_getElem hk') hk)).2
  · exact (ofCell_VR h).1

theorem ofV_cells {v : Value} {a : AV} (h : ofV v = some a) : v.cells.size = a.cells.length ∧ ∀ x ∈ a.cells, x.one = true := by
  have h1 := (ofV_VR (w := default) (X := fun _ => False) (m := none) h).cells
  refine ⟨by simpa using h1.1, ?_⟩
  unfold ofV at h
  split at h
  · rename_i cs
    simp only [Option.map_eq_some_iff] at h
    obtain ⟨l, hl, rfl⟩ := h
    obtain ⟨h1, h2⟩ := mapO_some hl
    intro x hx
    obtain ⟨k, hk⟩ := List.getElem?_of_mem hx
    have hk' : k < cs.toList.length := by rw [h1]; exact (List.getElem?_eq_some_iff.1 hk).1
    exact (ofCell_VR (w := default) (X := fun _ => False) (m := none) (h2 k _ x (List.getElem?_eq_getElem hk') hk)).2
  · have := (ofCell_VR (w := default) (X := fun _ => False) (m := none) h).2
    intro x hx
    have e : a.cells = [a] := by cases a <;> first | rfl | (simp [AV.one] at this)
    rw [e] at hx
    simp at hx
    subst hx
    exact this
end lits

section
variable {c : Ctx} {s s' : St} {a : Act} {w : World} {M : Mem} {B : Nat → Nat} {o : Oper}

theorem SR.val (h : SR c s a w M B) {x : Operand} {sx : SX} {av : AV} (hx : cX c.h x = some sx) (hv : s.eval sx = some av) :
    VR w (XX c.Y M s.boxes B) (some M) (a.eval x) av := by
  cases x with
  | tmp t =>
    simp only [cX] at hx
    split at hx
    · cases hx
    · cases hx
      exact h.env t av hv
  | const v =>
    simp only [cX, Option.map_eq_some_iff] at hx
    obtain ⟨z, hz, rfl⟩ := hx
    cases hv
    exact ofV_VR hz
  | func f =>
    cases hx
    cases hv
    exact .fn f #[] [] rfl fun k v a h => by simp at h
  | global g =>
    simp only [cX, Option.map_eq_some_iff] at hx
    obtain ⟨cs, hg, rfl⟩ := hx
    cases hv
    exact h.gl g cs hg

theorem SR.vals (h : SR c s a w M B) : ∀ {xs : List Operand} {sxs : List SX} {avs : List AV}, mapO (cX c.h) xs = some sxs → s.evals sxs = some avs →
    VRs w (XX c.Y M s.boxes B) (some M) (xs.map a.eval) avs
  | [], _, _, hx, hv => by cases hx; cases hv; exact ⟨rfl, fun k v a h => by simp at h⟩
  | x :: xs, _, _, hx, hv => by
    simp only [mapO] at hx
    split at hx
    · rename_i y hy
      split at hx
      · rename_i ys hys
        cases hx
        simp only [St.evals] at hv
        split at hv
        · rename_i z hz
          split at hv
          · rename_i zs hzs
            cases hv
            obtain ⟨h1, h2⟩ := h.vals hys hzs
            refine ⟨by simp at h1 ⊢; omega, fun k v b e1 e2 => ?_⟩
            cases k with
            | zero => simp at e1 e2; subst e1; subst e2; exact h.val hy hz
            | succ k => exact h2 k v b (by simpa using e1) (by simpa using e2)
          · cases hv
        · cases hv
      · cases hx
    · cases hx

theorem put_lo (s : St) (d : Option Nat) (v : Option AV) : (s.put d v).lo = s.lo := by cases d <;> rfl
theorem put_boxes (s : St) (d : Option Nat) (v : Option AV) : (s.put d v).boxes = s.boxes := by cases d <;> rfl

theorem runV {P : Program} {w w' : World} {x : Sem Value} {v : Value} (h : x.run P w = .ok v w') : (do pure (Next.value (← x)) : Sem Next).run P w = .ok (.value v) w' := by
  rw [Sem.run_bind, h]; rfl

/-- An operation that yields a value. -/
def VSound (c : Ctx) (o : Oper) (op : SOp) : Prop :=
  ∀ s s1 v a w M B, SR c s a w M B → aop op s = some (v, s1) → ∃ vv w' M', (execOp a.eval o).run c.P w = .ok (.value vv) w' ∧
    SR c s1 a w' M' B ∧ VR w' (XX c.Y M' s1.boxes B) (some M') vv v ∧ Fr (fun _ => False) w M s1.lo w' M' ∧ s1.lo ≤ s.lo

theorem VSound.sound {op : SOp} (h : VSound c o op) (hd : DstOk c o)
    (hs : ∀ s, sop op o.dst s = match aop op s with | some (v, s') => some (s'.put o.dst (some v)) | none => none) : Sound c o op := by
  intro s s' a w M B hr hop K Q hK
  rw [hs] at hop
  split at hop
  · rename_i v s1 hv
    cases hop
    obtain ⟨vv, w', M', hrun, hr1, hvr, hf, hl⟩ := h s s1 v a w M B hr hv
    unfold Oper.wp
    rw [hrun]
    refine hK _ w' M' B (hr1.puts hd fun _ e => by cases e; exact hvr) ?_ (by rw [put_lo]; exact hl)
    rw [put_lo]
    exact hf.mono (Nat.le_refl _) fun _ _ h => h.elim
  · cases hop

/-- One that leaves the world as it is. -/
theorem VSound.pure {op : SOp} (h : ∀ s s1 v a w M B, SR c s a w M B → aop op s = some (v, s1) → s1 = s ∧ ∃ vv, (execOp a.eval o).run c.P w = .ok (.value vv) w ∧
    VR w (XX c.Y M s.boxes B) (some M) vv v) : VSound c o op := by
  intro s s1 v a w M B hr hop
  obtain ⟨rfl, vv, hrun, hv⟩ := h s s1 v a w M B hr hop
  exact ⟨vv, w, M, hrun, hr, hv, Fr.refl _ _ _ _, Nat.le_refl _⟩

theorem vs_mov {x : Operand} {sx : SX} (ho : o.op = .move x ∨ o.op = .assign x) (hx : cX c.h x = some sx) : VSound c o (.mov sx) := by
  refine VSound.pure fun s s1 v a w M B h hs => ?_
  simp only [aop] at hs
  split at hs
  · rename_i av hav
    cases hs
    refine ⟨rfl, a.eval x, ?_, h.val hx hav⟩
    rcases ho with ho | ho <;> (unfold execOp; rw [ho]; rfl)
  · cases hs

theorem vs_pick {x y z : Operand} {sx sy sz : SX} (ho : o.op = .pick x y z) (hx : cX c.h x = some sx) (hy : cX c.h y = some sy) (hz : cX c.h z = some sz) :
    VSound c o (.pick sx sy sz) := by
  refine VSound.pure fun s s1 v a w M B h hs => ?_
  simp only [aop] at hs
  split at hs
  · rename_i t ht
    have hb := h.val hx ht
    generalize hav : a.eval x = vx at hb
    cases hb
    cases t
    · simp only [Bool.false_eq_true, if_false] at hs
      split at hs
      · rename_i av hav'
        cases hs
        exact ⟨rfl, a.eval z, by unfold execOp; rw [ho]; simp [hav, asBool], h.val hz hav'⟩
      · cases hs
    · simp only [if_true] at hs
      split at hs
      · rename_i av hav'
        cases hs
        exact ⟨rfl, a.eval y, by unfold execOp; rw [ho]; simp [hav, asBool], h.val hy hav'⟩
      · cases hs
  · cases hs

theorem vs_un {x : Operand} {sx : SX} {op : UnOp} {t : TypeId} (ho : o.op = .unOp op t x) (hx : cX c.h x = some sx) : VSound c o (.un op sx) := by
  refine VSound.pure fun s s1 v a w M B h hs => ?_
  simp only [aop] at hs
  split at hs
  · rename_i av hav
    simp only [Option.map_eq_some_iff] at hs
    obtain ⟨r, hr, he⟩ := hs
    cases he
    refine ⟨rfl, ?_⟩
    have hb := h.val hx hav
    generalize hvx : a.eval x = vx at hb
    have hrun : execOp a.eval o = (do pure (.value (← Op.unary op (a.eval x)))) := by unfold execOp; rw [ho]
    rw [hvx] at hrun
    unfold unOp at hr
    split at hr <;> cases hr <;> cases hb
    · exact ⟨_, by rw [hrun]; exact runV (by simp [Op.unary, Op.intArith]), .int _ _⟩
    · exact ⟨_, by rw [hrun]; exact runV (by simp [Op.unary, Op.intBits]), .int _ _⟩
    · exact ⟨_, by rw [hrun]; exact runV (by simp [Op.unary]), .bool _⟩
  · cases hs

theorem vs_conv {x : Operand} {sx : SX} {k : IntKind} {src dst : TypeId} {ds : TypeDesc} (ho : o.op = .convert src dst x) (hsrc : c.P.underlying src = some ds) (hdst : c.P.underlying dst = some (.int k)) (hx : cX c.h x = some sx) :
    VSound c o (.conv k sx) := by
  refine VSound.pure fun s s1 v a w M B h hs => ?_
  simp only [aop] at hs
  split at hs
  · rename_i k' n hav
    cases hs
    refine ⟨rfl, ?_⟩
    have hb := h.val hx hav
    generalize hvx : a.eval x = vx at hb
    cases hb
    refine ⟨.int k (k.wrap n), ?_, .int _ _⟩
    have hrun : execOp a.eval o = (do pure (.value (← convert src dst (a.eval x)))) := by unfold execOp; rw [ho]
    rw [hrun, hvx]
    exact runV (by cases ds <;> simp [convert, run_underlying hsrc, run_underlying hdst, Conv.intToInt])
  · cases hs

theorem vs_same {x : Operand} {sx : SX} {src dst : TypeId} (ho : o.op = .convert src dst x) (hsrc : c.P.underlying src = some .string) (hdst : c.P.underlying dst = some .string) (hx : cX c.h x = some sx) :
    VSound c o (.sameS sx) := by
  refine VSound.pure fun s s1 v a w M B h hs => ?_
  simp only [aop] at hs
  split at hs
  · rename_i l hav
    cases hs
    refine ⟨rfl, a.eval x, ?_, h.val hx hav⟩
    have hb := h.val hx hav
    generalize hvx : a.eval x = vx at hb
    cases hb
    have hrun : execOp a.eval o = (do pure (.value (← convert src dst (a.eval x)))) := by unfold execOp; rw [ho]
    rw [hrun, hvx]
    exact runV (by simp [convert, run_underlying hsrc, run_underlying hdst])
  · cases hs

theorem vs_mkFunc {f : Nat} {cap : Array Operand} {sxs : List SX} (ho : o.op = .makeFunc (.func f) #[] cap) (hx : cXs c.h cap = some sxs) : VSound c o (.mkFunc f sxs) := by
  refine VSound.pure fun s s1 v a w M B h hs => ?_
  simp only [aop] at hs
  split at hs
  · rename_i vs hvs
    cases hs
    obtain ⟨h1, h2⟩ := h.vals hx hvs
    refine ⟨rfl, .func (.func f) #[] (cap.map a.eval), ?_, .fn f _ _ (by simpa using h1) fun k v x e1 e2 => h2 k v x (by simpa using e1) e2⟩
    unfold execOp; rw [ho]; simp [Instr.makeFunc]
  · cases hs

theorem vs_mkIface {t : TypeId} {x : Operand} {sx : SX} {d : TypeDesc} (ho : o.op = .makeInterface t x) (hd : c.P.underlying t = some d) (hni : ∀ ms, d ≠ .interface ms) (hx : cX c.h x = some sx) :
    VSound c o (.mkIface t sx) := by
  refine VSound.pure fun s s1 v a w M B h hs => ?_
  simp only [aop] at hs
  split at hs
  · rename_i av hav
    cases hs
    refine ⟨rfl, .iface t (a.eval x), ?_, .iface _ _ _ (h.val hx hav)⟩
    unfold execOp; rw [ho]
    cases d <;> first | (exact absurd rfl (hni _)) | simp [Instr.makeInterface, run_underlying hd]
  · cases hs

theorem vs_extract {x : Operand} {sx : SX} {i : Nat} (ho : o.op = .extract x i) (hx : cX c.h x = some sx) : VSound c o (.extract sx i) := by
  refine VSound.pure fun s s1 v a w M B h hs => ?_
  simp only [aop] at hs
  split at hs
  · rename_i vs hav
    simp only [Option.map_eq_some_iff] at hs
    obtain ⟨r, hr, he⟩ := hs
    cases he
    refine ⟨rfl, ?_⟩
    have hb := h.val hx hav
    generalize hvx : a.eval x = vx at hb
    cases hb
    rename_i cs hl hv
    have hi : i < cs.size := by rw [hl]; exact (List.getElem?_eq_some_iff.1 hr).1
    refine ⟨cs[i], ?_, hv i _ _ (Array.getElem?_eq_getElem hi) hr⟩
    have hrun : execOp a.eval o = (do pure (.value (← Instr.extract (a.eval x) i))) := by unfold execOp; rw [ho]
    rw [hrun, hvx]
    exact runV (by simp [Instr.extract, hi])
  · cases hs

end
end Go.AI

/- Rows of cells: parts, reads, writes. -/
set_option linter.unusedVariables false
set_option linter.unusedSimpArgs false
namespace Go.AI
open Go

theorem rangeAt_sub {w : World} {b o : Nat} {vs : List Value} (h : w.rangeAt b o vs) (k n : Nat) : w.rangeAt b (o + k) ((vs.drop k).take n) := fun j v hv => by
  rw [Nat.add_assoc]
  refine h (k + j) v ?_
  rw [List.getElem?_take] at hv
  split at hv
  · rwa [List.getElem?_drop] at hv
  · cases hv

theorem there_sub {w : World} {b o n : Nat} (h : w.there b o n) (k m : Nat) (hk : k + m ≤ n) : w.there b (o + k) m := fun j hj => by
  rw [Nat.add_assoc]
  exact h (k + j) (by omega)

theorem VRs_sub {w : World} {X : Nat → Prop} {m : Option Mem} {vs : List Value} {as : List AV} (h : VRs w X m vs as) (k n : Nat) :
    VRs w X m ((vs.drop k).take n) ((as.drop k).take n) := by
  refine ⟨by simp [h.1], fun i v a hv ha => ?_⟩
  rw [List.getElem?_take] at hv ha
  split at hv
  · rename_i hi
    rw [if_pos hi] at ha
    rw [List.getElem?_drop] at hv ha
    exact h.2 _ v a hv ha
  · cases hv

theorem VRs.take {w : World} {X : Nat → Prop} {m : Option Mem} {vs : List Value} {as : List AV} (h : VRs w X m vs as) (n : Nat) : VRs w X m (vs.take n) (as.take n) := by
  have := VRs_sub h 0 n
  simpa using this

theorem VRs.append {w : World} {X : Nat → Prop} {m : Option Mem} {vs us : List Value} {as bs : List AV} (h : VRs w X m vs as) (k : VRs w X m us bs) : VRs w X m (vs ++ us) (as ++ bs) := by
  refine ⟨by simp [h.1, k.1], fun i v a hv ha => ?_⟩
  rw [List.getElem?_append] at hv ha
  rw [h.1] at hv
  split at hv
  · rename_i hi
    rw [if_pos hi] at ha
    exact h.2 _ v a hv ha
  · rename_i hi
    rw [if_neg hi] at ha
    exact k.2 _ v a hv ha

theorem VRs.nil {w : World} {X : Nat → Prop} {m : Option Mem} : VRs w X m [] [] := ⟨rfl, fun k v a h => by simp at h⟩

theorem VRs.stays {w w' : World} {X X' : Nat → Prop} {m m' : Option Mem} {vs : List Value} {as : List AV} (h : VRs w X m vs as) (hs : Stays w X m w' X' m') : VRs w' X' m' vs as :=
  ⟨h.1, fun k v a h1 h2 => (h.2 k v a h1 h2).stays hs⟩

theorem VRs.one {w : World} {X : Nat → Prop} {m : Option Mem} {vs : List Value} {as : List AV} (h : VRs w X m vs as) (h1 : ∀ a ∈ as, a.one = true) : ∀ v ∈ vs, v.oneCell' = true := by
  intro v hv
  obtain ⟨k, hk⟩ := List.getElem?_of_mem hv
  have hl : k < as.length := by rw [← h.1]; exact (List.getElem?_eq_some_iff.1 hk).1
  exact (h.2 k v as[k] hk (List.getElem?_eq_getElem hl)).one (h1 _ (List.getElem_mem hl))

theorem flat_cons (e : AV) (es : List AV) : flat (e :: es) = e.cells ++ flat es := by simp [flat]
theorem flat_append (es fs : List AV) : flat (es ++ fs) = flat es ++ flat fs := by simp [flat]

theorem flat_length {s : Nat} : ∀ {es : List AV}, (∀ e ∈ es, e.cells.length = s) → (flat es).length = es.length * s
  | [], _ => by simp [flat]
  | e :: es, h => by
    rw [flat_cons, List.length_append, h e (by simp), flat_length fun x hx => h x (by simp [hx]), List.length_cons, Nat.succ_mul]
    omega

theorem flat_drop {s : Nat} : ∀ {es : List AV} (i : Nat), (∀ e ∈ es, e.cells.length = s) → (flat es).drop (i * s) = flat (es.drop i)
  | es, 0, h => by simp
  | [], i + 1, h => by simp [flat]
  | e :: es, i + 1, h => by
    rw [flat_cons, List.drop_succ_cons, ← flat_drop i fun x hx => h x (by simp [hx])]
    have he := h e (by simp)
    rw [Nat.succ_mul, Nat.add_comm, ← List.drop_drop, ← he]
    simp

theorem flat_take {s : Nat} : ∀ {es : List AV} (i : Nat), (∀ e ∈ es, e.cells.length = s) → (flat es).take (i * s) = flat (es.take i)
  | es, 0, h => by simp [flat]
  | [], i + 1, h => by simp [flat]
  | e :: es, i + 1, h => by
    rw [flat_cons, List.take_succ_cons, flat_cons, ← flat_take i fun x hx => h x (by simp [hx])]
    have he := h e (by simp)
    rw [Nat.succ_mul, Nat.add_comm, ← he, List.take_length_add_append, he]

theorem flat_elem {s : Nat} {es : List AV} (h : ∀ e ∈ es, e.cells.length = s) {i : Nat} {e : AV} (he : es[i]? = some e) : ((flat es).drop (i * s)).take s = e.cells := by
  obtain ⟨hi, rfl⟩ := List.getElem?_eq_some_iff.1 he
  rw [flat_drop i h, List.drop_eq_getElem_cons hi, flat_cons]
  have := h es[i] (List.getElem_mem hi)
  rw [← this]
  simp

theorem mem_flat {es : List AV} {a : AV} : a ∈ flat es ↔ ∃ e ∈ es, a ∈ e.cells := by simp [flat]

theorem elem_one {es : List AV} (h : ∀ a ∈ flat es, a.one = true) {i : Nat} {e : AV} (he : es[i]? = some e) : ∀ a ∈ e.cells, a.one = true :=
  fun a ha => h a (mem_flat.2 ⟨e, List.mem_of_getElem? he, ha⟩)

theorem flat_set {s : Nat} {es : List AV} (h : ∀ e ∈ es, e.cells.length = s) {i : Nat} (hi : i < es.length) {e' : AV} (he : e'.cells.length = s) :
    flat (es.set i e') = (flat es).take (i * s) ++ e'.cells ++ (flat es).drop (i * s + s) := by
  have e1 : i * s + s = (i + 1) * s := by rw [Nat.succ_mul]
  rw [flat_take i h, e1, flat_drop (i + 1) h, List.set_eq_take_append_cons_drop, if_pos hi]
  simp [flat_append, flat_cons]

section
variable {P : Program} {w : World} {X : Nat → Prop} {m : Option Mem}

theorem aggOf_ok {t : TypeId} {agg : Bool} (h : aggOf P t = some agg) : ∃ d, P.underlying t = some d ∧ agg = d.isRow := by
  unfold aggOf at h
  simp only [Option.map_eq_some_iff] at h
  obtain ⟨d, hd, rfl⟩ := h
  exact ⟨d, hd, by cases d <;> rfl⟩

/-- A variable within a row of cells is read. -/
theorem load_run {b o off : Nat} {t : TypeId} {agg : Bool} {sz : Nat} {vals : List Value} {cells : List AV} {r : AV} (hr : w.rangeAt b o vals) (hv : VRs w X m vals cells)
    (h1 : ∀ a ∈ cells, a.one = true) (hagg : aggOf P t = some agg) (hsz : szOf P t = some sz) (h : readAt agg sz cells off = some r) :
    ∃ v, (Instr.loadAt t (.pointer (some ⟨b, o + off, none⟩))).run P w = .ok v w ∧ VR w X m v r := by
  obtain ⟨d, hd, rfl⟩ := aggOf_ok hagg
  unfold readAt at h
  split at h
  · rename_i hrow
    split at h
    · rename_i hle
      cases h
      have hsub := rangeAt_sub hr off sz
      have hvs := VRs_sub hv off sz
      have hlen : ((vals.drop off).take sz).length = sz := by simp [hv.1]; omega
      refine ⟨_, run_loadAt_mid w b (o + off) t _ d hsub hd hrow (by rw [hlen]; exact hsz), ?_⟩
      exact .agg _ _ (by simpa using hvs.1) (fun a ha => h1 a (List.mem_of_mem_drop (List.mem_of_mem_take ha))) fun k v a e1 e2 => hvs.2 k v a (by simpa using e1) e2
    · cases h
  · rename_i hrow
    have hlt : off < vals.length := by rw [hv.1]; exact (List.getElem?_eq_some_iff.1 h).1
    have hcell := hr off _ (List.getElem?_eq_getElem hlt)
    have hag : ∀ w : World, (isAgg t).run P w = .ok false w := fun w => by
      unfold isAgg
      rw [Sem.run_bind, run_underlying hd w]
      cases d <;> simp_all
    refine ⟨vals[off], ?_, hv.2 off _ _ (List.getElem?_eq_getElem hlt) h⟩
    simp [Instr.loadAt, Instr.sureAddr, loadVar, hag, hcell]

end
end Go.AI

/- One block of the heap is made, or turned; or forgotten. -/
set_option linter.unusedVariables false
set_option linter.unusedSimpArgs false
namespace Go.AI
open Go

/-- What a block is behind a step, held against what it was. -/
def BlkStep (w w' : World) (M : Mem) (b : Nat) (p : Nat × Nat) : Blk → Prop
  | .row s g es => ∃ g0 es0, M.H.get b = some (.row s g0 es0) ∧ g0 ≤ g ∧
      (g0 = g → p = M.β b ∧ es0.length ≤ es.length ∧ ∀ o n, w.there (M.β b).1 o n → w'.there (M.β b).1 o n)
  | .map _ => (∃ kvs0, M.H.get b = some (.map kvs0)) ∧ p = M.β b

def BlkR (w : World) (X : Nat → Prop) (M : Mem) (b : Nat) : Blk → Prop
  | .row s _ es => RowR w X M b s es
  | .map kvs => MapR w X M b kvs

theorem RowR.stays {w w' : World} {X X' : Nat → Prop} {M M' : Mem} {b s : Nat} {es : List AV} (h : RowR w X M b s es) (hs : Stays w X (some M) w' X' (some M'))
    (hβ : M'.β b = M.β b) (hw : w'.heap[(M.β b).1]? = w.heap[(M.β b).1]?) : RowR w' X' M' b s es := by
  obtain ⟨vals, h1, h2⟩ := h.ex
  exact ⟨⟨vals, by rw [hβ]; exact rangeAt_of_heap hw h1, h2.stays hs⟩, by rw [hβ]; exact there_of_heap hw h.there, h.sz, h.one⟩

theorem MapR.stays {w w' : World} {X X' : Nat → Prop} {M M' : Mem} {b : Nat} {kvs : List (AV × AV)} (h : MapR w X M b kvs) (hs : Stays w X (some M) w' X' (some M'))
    (hβ : M'.β b = M.β b) (hw : w'.heap[(M.β b).1]? = w.heap[(M.β b).1]?) : MapR w' X' M' b kvs := by
  obtain ⟨es, cl, h1, h2, h3, h4, h5⟩ := h.ex
  exact ⟨⟨es, cl, by rw [hβ, hw]; exact h1, h2, fun k e kv e1 e2 => ⟨(h3 k e kv e1 e2).1.stays hs, (h3 k e kv e1 e2).2.stays hs⟩, h4, h5⟩⟩

section
variable {c : Ctx} {s : St} {a : Act} {w : World} {M : Mem} {B : Nat → Nat}

/-- The blocks' places, with one turned. -/
def turnβ (M : Mem) (b : Nat) (p : Nat × Nat) : Nat → Nat × Nat := fun k => if k = b then p else M.β k

theorem SR.upd (h : SR c s a w M B) {b : Nat} {blk : Blk} {p : Nat × Nat} {w' : World} {s' : St}
    (henv : s'.env = s.env) (hbx : s'.boxes = s.boxes) (had : s'.addrs = s.addrs) (hlo : s'.lo ≤ b)
    (hlen : M.H.length ≤ s'.heap.length) (hget : ∀ k, s'.heap.get k = if k = b then some blk else M.H.get k) (hlow : ∀ k, k < b → s'.heap[k]? = M.H[k]?)
    (hos : w'.os = w.os) (htape : w'.tape = w.tape) (hout : w'.output = w.output) (hsize : w.heap.size ≤ w'.heap.size)
    (hkeep : ∀ k, k < w.heap.size → (M.live b → k ≠ (M.β b).1) → w'.heap[k]? = w.heap[k]?)
    (hp : (M.live b ∧ p.1 = (M.β b).1) ∨ w.heap.size ≤ p.1) (hp' : p.1 < w'.heap.size)
    (hold : b < M.H.length → BlkStep w w' M b p blk)
    (hnew : Stays w (XX c.Y M s.boxes B) (some M) w' (XX c.Y ⟨turnβ M b p, s'.heap⟩ s.boxes B) (some ⟨turnβ M b p, s'.heap⟩) →
      BlkR w' (XX c.Y ⟨turnβ M b p, s'.heap⟩ s.boxes B) ⟨turnβ M b p, s'.heap⟩ b blk) :
    SR c s' a w' ⟨turnβ M b p, s'.heap⟩ B ∧ ∀ lo, lo ≤ b → Fr (fun _ => False) w M lo w' ⟨turnβ M b p, s'.heap⟩ := by
  have hβ : ∀ k, k ≠ b → turnβ M b p k = M.β k := fun k hk => by simp [turnβ, hk]
  have hβb : turnβ M b p b = p := by simp [turnβ]
  have hlive : ∀ k, (Mem.mk (turnβ M b p) s'.heap).live k → k = b ∨ (k ≠ b ∧ M.live k) := fun k hk => by
    by_cases e : k = b
    · exact .inl e
    · refine .inr ⟨e, ?_⟩
      unfold Mem.live at hk ⊢
      rw [hget k, if_neg e] at hk
      exact hk
  have hbl : ∀ k, k ≠ b → M.live k → w'.heap[(M.β k).1]? = w.heap[(M.β k).1]? := fun k hk hl =>
    hkeep _ (h.hr.lt k hl) fun hb e => hk (h.hr.inj k b hl hb e)
  have hL : ∀ k, k < w.heap.size → (Mem.mk (turnβ M b p) s'.heap).L k → M.L k := by
    rintro k hk ⟨j, hj, e⟩
    rcases hlive j hj with rfl | ⟨hne, hj'⟩
    · have e : (turnβ M j p j).1 = k := e
      rw [hβb] at e
      rcases hp with ⟨hl, e'⟩ | hge
      · exact ⟨j, hl, e'.symm.trans e⟩
      · omega
    · have e : (turnβ M b p j).1 = k := e
      rw [hβ j hne] at e
      exact ⟨j, hj', e⟩
  have hX : ∀ k, k < w.heap.size → XX c.Y ⟨turnβ M b p, s'.heap⟩ s.boxes B k → XX c.Y M s.boxes B k := fun k hk hx =>
    hx.imp id (Or.imp (hL k hk) id)
  have hrow : ∀ k z g es, k < M.H.length → s'.heap.get k = some (.row z g es) → ∃ g0 es0, M.H.get k = some (.row z g0 es0) ∧ g0 ≤ g ∧
      (g0 = g → turnβ M b p k = M.β k ∧ es0.length ≤ es.length ∧ ∀ o n, w.there (M.β k).1 o n → w'.there (M.β k).1 o n) := fun k z g es hk hg => by
    rw [hget k] at hg
    split at hg
    · rename_i e
      subst e
      cases hg
      have := hold hk
      rw [hβb]
      exact this
    · rename_i e
      refine ⟨g, es, hg, Nat.le_refl _, fun _ => ⟨hβ k e, Nat.le_refl _, fun o n ht => there_of_heap (hbl k e (by unfold Mem.live; rw [hg]; rfl)) ht⟩⟩
  have hmap : ∀ k kvs, k < M.H.length → s'.heap.get k = some (.map kvs) → (∃ kvs0, M.H.get k = some (.map kvs0)) ∧ turnβ M b p k = M.β k := fun k kvs hk hg => by
    rw [hget k] at hg
    split at hg
    · rename_i e
      subst e
      cases hg
      have := hold hk
      rw [hβb]
      exact this
    · rename_i e
      exact ⟨⟨kvs, hg⟩, hβ k e⟩
  have hst : Stays w (XX c.Y M s.boxes B) (some M) w' (XX c.Y ⟨turnβ M b p, s'.heap⟩ s.boxes B) (some ⟨turnβ M b p, s'.heap⟩) :=
    ⟨hsize, hX, fun k hk hnx => hkeep k hk fun hl e => hnx (.inr (.inl ⟨b, hl, e.symm⟩)), fun M0 e => by
      cases e; exact ⟨_, rfl, hlen, hrow, hmap⟩⟩
  have hfr : ∀ lo, lo ≤ b → Fr (fun _ => False) w M lo w' ⟨turnβ M b p, s'.heap⟩ := fun lo hlo => {
    os := hos
    tape := htape
    output := hout
    size := hsize
    keep := fun k hk hl _ => hkeep k hk fun hb e => hl ⟨b, hb, e.symm⟩
    len := hlen
    row := hrow
    map := hmap
    live := fun k hk => by
      rcases hlive k hk with rfl | ⟨hne, hk'⟩
      · rcases hp with ⟨hl, e⟩ | hge
        · left; exact ⟨k, hl, by rw [show (Mem.mk (turnβ M k p) s'.heap).β k = p from hβb]; exact e.symm⟩
        · right; rw [show (Mem.mk (turnβ M k p) s'.heap).β k = p from hβb]; exact hge
      · left; exact ⟨k, hk', by rw [show (Mem.mk (turnβ M b p) s'.heap).β k = M.β k from hβ k hne]⟩
    low := fun k hk hkl => by
      have hne : k ≠ b := by omega
      exact ⟨hlow k (by omega), hβ k hne, hbl k hne⟩ }
  have hhr : HR w' (XX c.Y ⟨turnβ M b p, s'.heap⟩ s.boxes B) ⟨turnβ M b p, s'.heap⟩ c.N0 := {
    row := fun k z g es hg => by
      by_cases e : k = b
      · subst e
        have hg' : s'.heap.get k = some (.row z g es) := hg
        rw [hget k, if_pos rfl] at hg'
        cases hg'
        exact hnew hst
      · have hg' : s'.heap.get k = some (.row z g es) := hg
        rw [hget k, if_neg e] at hg'
        exact (h.hr.row k z g es hg').stays hst (hβ k e) (hbl k e (by unfold Mem.live; rw [hg']; rfl))
    map := fun k kvs hg => by
      by_cases e : k = b
      · subst e
        have hg' : s'.heap.get k = some (.map kvs) := hg
        rw [hget k, if_pos rfl] at hg'
        cases hg'
        exact hnew hst
      · have hg' : s'.heap.get k = some (.map kvs) := hg
        rw [hget k, if_neg e] at hg'
        exact (h.hr.map k kvs hg').stays hst (hβ k e) (hbl k e (by unfold Mem.live; rw [hg']; rfl))
    inj := fun k k' hk hk' e => by
      have e : (turnβ M b p k).1 = (turnβ M b p k').1 := e
      rcases hlive k hk with rfl | ⟨hne, hk1⟩ <;> rcases hlive k' hk' with rfl | ⟨hne', hk1'⟩
      · rfl
      · rw [hβb, hβ k' hne'] at e
        rcases hp with ⟨hl, e'⟩ | hge
        · exact h.hr.inj k k' hl hk1' (e'.symm.trans e)
        · have := h.hr.lt k' hk1'; omega
      · rw [hβb, hβ k hne] at e
        rcases hp with ⟨hl, e'⟩ | hge
        · exact h.hr.inj k k' hk1 hl (e.trans e')
        · have := h.hr.lt k hk1; omega
      · rw [hβ k hne, hβ k' hne'] at e
        exact h.hr.inj k k' hk1 hk1' e
    lt := fun k hk => by
      rcases hlive k hk with rfl | ⟨hne, hk1⟩
      · rw [show (Mem.mk (turnβ M k p) s'.heap).β k = p from hβb]; exact hp'
      · rw [show (Mem.mk (turnβ M b p) s'.heap).β k = M.β k from hβ k hne]; exact Nat.lt_of_lt_of_le (h.hr.lt k hk1) hsize
    ge := fun k hk => by
      rcases hlive k hk with rfl | ⟨hne, hk1⟩
      · rw [show (Mem.mk (turnβ M k p) s'.heap).β k = p from hβb]
        rcases hp with ⟨hl, e⟩ | hge
        · rw [e]; exact h.hr.ge k hl
        · have := h.base; have := h.N0; omega
      · rw [show (Mem.mk (turnβ M b p) s'.heap).β k = M.β k from hβ k hne]; exact h.hr.ge k hk1 }
  have hbl' : b < s'.heap.length := by
    have := hget b
    rw [if_pos rfl] at this
    unfold Heap.get at this
    by_cases hb : b < s'.heap.length
    · exact hb
    · rw [List.getElem?_eq_none (Nat.le_of_not_lt hb)] at this; cases this
  exact ⟨h.world henv hbx had rfl (by omega) (hfr 0 (Nat.zero_le _)) hhr, hfr⟩

/-- A block is forgotten: what was there may be read as what never changes again. -/
theorem SR.kill (h : SR c s a w M B) {b : Nat} {s' : St} (henv : s'.env = s.env) (hbx : s'.boxes = s.boxes) (had : s'.addrs = s.addrs) (hlo : s'.lo ≤ s'.heap.length) (hheap : s'.heap = M.H.set b none) :
    SR c s' a w ⟨M.β, s'.heap⟩ B ∧ ∀ lo, lo ≤ b → Fr (fun _ => False) w M lo w ⟨M.β, s'.heap⟩ := by
  have hget : ∀ k, s'.heap.get k = if k = b then none else M.H.get k := fun k => by
    rw [hheap]
    unfold Heap.get
    by_cases e : k = b
    · subst e
      rw [if_pos rfl]
      rw [List.getElem?_set_self']
      cases M.H[k]? <;> rfl
    · rw [if_neg e, List.getElem?_set_ne (Ne.symm e)]
  have hlive : ∀ k, (Mem.mk M.β s'.heap).live k → M.live k := fun k hk => by
    unfold Mem.live at hk ⊢
    rw [hget k] at hk
    split at hk
    · cases hk
    · exact hk
  have hsame : ∀ k blk, s'.heap.get k = some blk → M.H.get k = some blk := fun k blk hk => by
    rw [hget k] at hk
    split at hk
    · cases hk
    · exact hk
  have hfr : ∀ lo, lo ≤ b → Fr (fun _ => False) w M lo w ⟨M.β, s'.heap⟩ := fun lo hlo => {
    os := rfl
    tape := rfl
    output := rfl
    size := Nat.le_refl _
    keep := fun _ _ _ _ => rfl
    len := by rw [hheap]; simp
    row := fun k z g es _ hg => ⟨g, es, hsame k _ hg, Nat.le_refl _, fun _ => ⟨rfl, Nat.le_refl _, fun _ _ h => h⟩⟩
    map := fun k kvs _ hg => ⟨⟨kvs, hsame k _ hg⟩, rfl⟩
    live := fun k hk => .inl ⟨k, hlive k hk, rfl⟩
    low := fun k hk hl => ⟨by rw [hheap, List.getElem?_set_ne (by omega)], rfl, fun _ => rfl⟩ }
  have hst : Stays w (XX c.Y M s.boxes B) (some M) w (XX c.Y ⟨M.β, s'.heap⟩ s.boxes B) (some ⟨M.β, s'.heap⟩) :=
    ⟨Nat.le_refl _, fun k _ hx => hx.imp id (Or.imp (fun ⟨j, hj, e⟩ => ⟨j, hlive j hj, e⟩) id), fun _ _ _ => rfl, fun M0 e => by
      cases e; exact ⟨_, rfl, (hfr 0 (Nat.zero_le _)).len, (hfr 0 (Nat.zero_le _)).row, (hfr 0 (Nat.zero_le _)).map⟩⟩
  refine ⟨h.world henv hbx had rfl hlo (hfr 0 (Nat.zero_le _)) {
    row := fun k z g es hg => (h.hr.row k z g es (hsame k _ hg)).stays hst rfl rfl
    map := fun k kvs hg => (h.hr.map k kvs (hsame k _ hg)).stays hst rfl rfl
    inj := fun k k' hk hk' e => h.hr.inj k k' (hlive k hk) (hlive k' hk') e
    lt := fun k hk => h.hr.lt k (hlive k hk)
    ge := fun k hk => h.hr.ge k (hlive k hk) }, hfr⟩

theorem get_append (H : Heap) (x : Option Blk) (k : Nat) : Heap.get (H ++ [x]) k = if k = H.length then x else H.get k := by
  unfold Heap.get
  rw [List.getElem?_append]
  split
  · rename_i h; rw [if_neg (by omega)]
  · rename_i h
    split
    · rename_i e; subst e; simp
    · rename_i e
      rw [List.getElem?_eq_none (l := H) (by omega)]
      have : k - H.length ≠ 0 := by omega
      cases hk : k - H.length with
      | zero => omega
      | succ n => simp

theorem get_set {H : Heap} {b : Nat} (hb : b < H.length) (x : Option Blk) (k : Nat) : Heap.get (H.set b x) k = if k = b then x else H.get k := by
  unfold Heap.get
  split
  · rename_i e; subst e; simp [hb]
  · rename_i e; rw [List.getElem?_set_ne (Ne.symm e)]

theorem Heap.get_lt {H : Heap} {b : Nat} {x : Blk} (h : H.get b = some x) : b < H.length := by
  unfold Heap.get at h
  by_cases hb : b < H.length
  · exact hb
  · rw [List.getElem?_eq_none (Nat.le_of_not_lt hb)] at h; cases h

/-- A new block that nobody looks into. -/
theorem SR.junk (h : SR c s a w M B) (ob : Obj) (w1 : World) (hw1 : w1.heap = w.heap) (hos : w1.os = w.os) (htape : w1.tape = w.tape) (hout : w1.output = w.output) :
    SR c s a (w1.alloc ob) M B ∧ Fr (fun _ => False) w M s.lo (w1.alloc ob) M := by
  have hold : ∀ k, k < w.heap.size → (w1.alloc ob).heap[k]? = w.heap[k]? := fun k hk => by
    rw [RowKit.Below.heap_alloc w1 _ k (by rw [hw1]; exact hk), hw1]
  have hsize : w.heap.size ≤ (w1.alloc ob).heap.size := by simp [World.alloc, hw1]
  have hf : ∀ lo, Fr (fun _ => False) w M lo (w1.alloc ob) M := fun lo => {
    os := by simp [World.alloc, hos]
    tape := by simp [World.alloc, htape]
    output := by simp [World.alloc, hout]
    size := hsize
    keep := fun k hk _ _ => hold k hk
    len := Nat.le_refl _
    row := fun b z g es _ hg => ⟨g, es, hg, Nat.le_refl _, fun _ => ⟨rfl, Nat.le_refl _, fun o n ht => there_of_heap (hold _ (h.hr.lt b (by unfold Mem.live; rw [hg]; rfl))) ht⟩⟩
    map := fun b kvs _ hg => ⟨⟨kvs, hg⟩, rfl⟩
    live := fun b hb => .inl ⟨b, hb, rfl⟩
    low := fun b _ _ => ⟨rfl, rfl, fun hb => hold _ (h.hr.lt b hb)⟩ }
  have hst : Stays w (XX c.Y M s.boxes B) (some M) (w1.alloc ob) (XX c.Y M s.boxes B) (some M) :=
    ⟨hsize, fun _ _ h => h, fun k hk _ => hold k hk, fun M0 e => by cases e; exact ⟨_, rfl, Nat.le_refl _, (hf 0).row, (hf 0).map⟩⟩
  exact ⟨h.world rfl rfl rfl h.heap h.lole (hf 0) {
    row := fun b z g es hg => (h.hr.row b z g es hg).stays hst rfl (hold _ (h.hr.lt b (by unfold Mem.live; rw [hg]; rfl)))
    map := fun b kvs hg => (h.hr.map b kvs hg).stays hst rfl (hold _ (h.hr.lt b (by unfold Mem.live; rw [hg]; rfl)))
    inj := h.hr.inj
    lt := fun b hb => Nat.lt_of_lt_of_le (h.hr.lt b hb) hsize
    ge := h.hr.ge }, hf _⟩

/-- A new row. -/
theorem SR.newRow (h : SR c s a w M B) {sz : Nat} {es : List AV} {C : Array Value} {T : TypeId} {w1 : World} (hw1 : w1.heap = w.heap) (hos : w1.os = w.os) (htape : w1.tape = w.tape) (hout : w1.output = w.output)
    (hC : VRs w (XX c.Y M s.boxes B) (some M) (C.toList.take (flat es).length) (flat es)) (hsz : ∀ e ∈ es, e.cells.length = sz) (h1 : ∀ a ∈ flat es, a.one = true) :
    SR c (addRow s sz es) a (w1.alloc (.cells C T)) ⟨turnβ M s.heap.length (w.heap.size, 0), (addRow s sz es).heap⟩ B ∧
      Fr (fun _ => False) w M s.lo (w1.alloc (.cells C T)) ⟨turnβ M s.heap.length (w.heap.size, 0), (addRow s sz es).heap⟩ ∧
      (w1.alloc (.cells C T)).there w.heap.size 0 C.size := by
  have hheap := h.heap
  have hsize : (w1.alloc (.cells C T)).heap.size = w.heap.size + 1 := by simp [World.alloc, hw1]
  have hnewb : (w1.alloc (.cells C T)).heap[w.heap.size]? = some (.cells C T) := by
    have := heap_alloc_last w1 (.cells C T)
    rwa [hw1] at this
  have hold : ∀ k, k < w.heap.size → (w1.alloc (.cells C T)).heap[k]? = w.heap[k]? := fun k hk => by
    rw [RowKit.Below.heap_alloc w1 _ k (by rw [hw1]; exact hk), hw1]
  have hcell : ∀ j, (w1.alloc (.cells C T)).cell? ⟨w.heap.size, j, none⟩ = C[j]? := fun j => by simp [World.cell?, hnewb]
  have hfro : ∀ j, (w1.alloc (.cells C T)).frozen? ⟨w.heap.size, j, none⟩ = false := fun j => by simp [World.frozen?, hnewb]
  have hth : (w1.alloc (.cells C T)).there w.heap.size 0 C.size := fun j hj => by rw [Nat.zero_add, hcell, hfro]; simp [hj]
  have hle : (flat es).length ≤ C.size := by have := hC.1; simp at this; omega
  have key := h.upd (b := s.heap.length) (blk := .row sz 0 es) (p := (w.heap.size, 0)) (w' := w1.alloc (.cells C T)) (s' := addRow s sz es) rfl rfl rfl h.lole
    (by rw [hheap]; simp [addRow]) (fun k => by rw [hheap]; exact get_append _ _ k) (fun k hk => by rw [hheap]; exact List.getElem?_append_left hk)
    (by simp [World.alloc, hos]) (by simp [World.alloc, htape]) (by simp [World.alloc, hout]) (by omega)
    (fun k hk _ => hold k hk) (.inr (Nat.le_refl _)) (by rw [hsize]; exact Nat.lt_succ_self _)
    (fun hb => by rw [hheap] at hb; exact absurd hb (Nat.lt_irrefl _))
    (fun hst => by
      refine ⟨⟨C.toList.take (flat es).length, ?_, hC.stays hst⟩, ?_, hsz, h1⟩
      · rw [show (Mem.mk (turnβ M s.heap.length (w.heap.size, 0)) (addRow s sz es).heap).β s.heap.length = (w.heap.size, 0) by simp [turnβ]]
        intro j v hv
        rw [Nat.zero_add, hcell]
        rw [List.getElem?_take] at hv
        split at hv
        · simpa using hv
        · cases hv
      · rw [show (Mem.mk (turnβ M s.heap.length (w.heap.size, 0)) (addRow s sz es).heap).β s.heap.length = (w.heap.size, 0) by simp [turnβ]]
        exact fun j hj => hth j (Nat.lt_of_lt_of_le hj hle))
  exact ⟨key.1, key.2 _ h.lole, hth⟩
end
end Go.AI

/- Addresses and reads: sound. -/
set_option linter.unusedVariables false
set_option linter.unusedSimpArgs false
namespace Go.AI
open Go

theorem row_get {H : Heap} {b g s : Nat} {es : List AV} (h : H.row b g = some (s, es)) : H.get b = some (.row s g es) := by
  unfold Heap.row at h
  split at h
  · rename_i s' g' es' hg
    split at h
    · rename_i e; subst e; cases h; exact hg
    · cases h
  · cases h

theorem map_get {H : Heap} {b : Nat} {kvs : List (AV × AV)} (h : H.mapAt b = some kvs) : H.get b = some (.map kvs) := by
  unfold Heap.mapAt at h
  split at h
  · rename_i kvs' hg; cases h; exact hg
  · cases h

theorem get_lt {H : Heap} {b : Nat} {x : Blk} (h : H.get b = some x) : b < H.length := by
  unfold Heap.get at h
  by_cases hb : b < H.length
  · exact hb
  · rw [List.getElem?_eq_none (Nat.le_of_not_lt hb)] at h; cases h

section
variable {c : Ctx} {s s' : St} {a : Act} {w : World} {M : Mem} {B : Nat → Nat} {o : Oper}

theorem RowR.elem {X : Nat → Prop} {b s : Nat} {es : List AV} (h : RowR w X M b s es) {i : Nat} {e : AV} (he : es[i]? = some e) :
    ∃ vals, w.rangeAt (M.β b).1 ((M.β b).2 + i * s) vals ∧ VRs w X (some M) vals e.cells := by
  obtain ⟨vals, hr, hv⟩ := h.ex
  refine ⟨(vals.drop (i * s)).take s, rangeAt_sub hr _ _, ?_⟩
  have := VRs_sub hv (i * s) s
  rwa [flat_elem h.sz he] at this

theorem vs_load {t : TypeId} {x : Operand} {sx : SX} {agg : Bool} {sz : Nat} (ho : o.op = .load t x) (hagg : aggOf c.P t = some agg) (hsz : szOf c.P t = some sz) (hx : cX c.h x = some sx) :
    VSound c o (.load agg sz sx) := by
  refine VSound.pure fun s s1 v a w M B h hs => ?_
  have hrun : execOp a.eval o = (do pure (.value (← Instr.loadAt t (a.eval x)))) := by unfold execOp; rw [ho]
  simp only [aop] at hs
  split at hs
  · rename_i cells off hav
    simp only [Option.map_eq_some_iff, Prod.mk.injEq] at hs
    obtain ⟨r, hr, rfl, rfl⟩ := hs
    have hb := h.val hx hav
    generalize a.eval x = vx at hb hrun
    cases hb
    rename_i k p vals hX hc hrg hl h1 hv
    obtain ⟨v, h2, h3⟩ := load_run (P := c.P) (m := none) hrg ⟨hl, hv⟩ h1 hagg hsz hr
    exact ⟨rfl, v, by rw [hrun]; exact runV h2, h3.any _⟩
  · rename_i b g i off hav
    split at hs
    · rename_i n es hrow
      split at hs
      · rename_i e he
        simp only [Option.map_eq_some_iff, Prod.mk.injEq] at hs
        obtain ⟨r, hr, rfl, rfl⟩ := hs
        have hb := h.val hx hav
        generalize a.eval x = vx at hb hrun
        cases hb
        rename_i p hlt hg hh
        rw [← h.heap] at hrow
        have hget := row_get hrow
        have hR := h.hr.row b n g es hget
        obtain ⟨vals, h1, h2⟩ := hR.elem he
        obtain ⟨v, h3, h4⟩ := load_run (P := c.P) h1 h2 (elem_one hR.one he) hagg hsz hr
        rw [hh n es hget] at hrun
        exact ⟨rfl, v, by rw [hrun]; exact runV h3, h4⟩
      · cases hs
    · cases hs
  · cases hs

theorem SR.adr (h : SR c s a w M B) {x : Operand} {t : Nat} (hx : cA c.h x = some t) : x = .tmp t := by
  cases x <;> simp only [cA] at hx <;> (try cases hx)
  split at hx <;> cases hx
  rfl

theorem vs_loadA {t : TypeId} {x : Operand} {sl : Nat} {agg : Bool} {sz : Nat} (ho : o.op = .load t x) (hagg : aggOf c.P t = some agg) (hsz : szOf c.P t = some sz) (hx : cA c.h x = some sl) :
    VSound c o (.loadA agg sz sl) := by
  refine VSound.pure fun s s1 v a w M B h hs => ?_
  obtain rfl := h.adr hx
  have hrun : execOp a.eval o = (do pure (.value (← Instr.loadAt t (a.eval (.tmp sl))))) := by unfold execOp; rw [ho]
  simp only [aop] at hs
  split at hs
  · rename_i d off had
    split at hs
    · rename_i cells hbx
      simp only [Option.map_eq_some_iff, Prod.mk.injEq] at hs
      obtain ⟨r, hr, rfl, rfl⟩ := hs
      have hb := h.box d cells hbx
      obtain ⟨vals, h1, h2⟩ := hb.ex
      obtain ⟨v, h3, h4⟩ := load_run (P := c.P) h1 h2 hb.one hagg hsz hr
      have hev : a.eval (.tmp sl) = .pointer (some ⟨B d, off, none⟩) := h.addr sl d off cells had hbx
      rw [hev] at hrun
      rw [Nat.zero_add] at h3
      exact ⟨rfl, v, by rw [hrun]; exact runV h3, h4⟩
    · cases hs
  · cases hs

theorem vs_nilCheck {x : Operand} {sx : SX} (ho : o.op = .nilCheck x) (hx : cX c.h x = some sx) : VSound c o (.nilCheck sx) := by
  refine VSound.pure fun s s1 v a w M B h hs => ?_
  simp only [aop] at hs
  have hrun : ∀ vx, a.eval x = vx → (∀ ad, vx = .pointer (some ad) → execOp a.eval o = pure (.value vx)) ∧ (∀ f cs, vx = .func (.func f) #[] cs → execOp a.eval o = pure (.value vx)) := fun vx hvx =>
    ⟨fun ad e => by unfold execOp; rw [ho]; simp only [hvx, e], fun f cs e => by unfold execOp; rw [ho]; simp only [hvx, e]⟩
  split at hs
  · rename_i b g i off hav
    simp only [Option.some.injEq, Prod.mk.injEq] at hs
    obtain ⟨rfl, rfl⟩ := hs
    have hb := h.val hx hav
    refine ⟨rfl, a.eval x, ?_, hb⟩
    have hr := hrun _ rfl
    generalize a.eval x = vx at hb hr
    cases hb
    rw [hr.1 _ rfl]; rfl
  · rename_i cells off hav
    simp only [Option.some.injEq, Prod.mk.injEq] at hs
    obtain ⟨rfl, rfl⟩ := hs
    have hb := h.val hx hav
    refine ⟨rfl, a.eval x, ?_, hb⟩
    have hr := hrun _ rfl
    generalize a.eval x = vx at hb hr
    cases hb
    rw [hr.1 _ rfl]; rfl
  · rename_i f cap hav
    simp only [Option.some.injEq, Prod.mk.injEq] at hs
    obtain ⟨rfl, rfl⟩ := hs
    have hb := h.val hx hav
    refine ⟨rfl, a.eval x, ?_, hb⟩
    have hr := hrun _ rfl
    generalize a.eval x = vx at hb hr
    cases hb
    rw [hr.2 _ _ rfl]; rfl
  · cases hs

theorem field_run {P : Program} {w : World} {t : TypeId} {fs : Array Field} {f : Nat} {fd : Field} {p : Addr} {sz : Nat} (ht : P.underlying t = some (.struct fs)) (hf : fs[f]? = some fd) (hsz : szOf P fd.type = some sz) (h0 : sz ≠ 0) :
    (Instr.fieldAt t (.pointer (some p)) f).run P w = .ok (.pointer (some (p.add fd.offset))) w := by
  unfold szOf at hsz
  cases hi : P.info? fd.type with
  | none => simp [hi] at hsz
  | some i =>
    have hs : i.size = sz := by simpa [hi] using hsz
    have h0' : i.size ≠ 0 := by omega
    simp [Instr.fieldAt, run_underlying ht, hf, Instr.sureAddr, fieldPlace, sizeOf, typeInfo, hi, h0']

theorem vs_faddr {t : TypeId} {x : Operand} {sx : SX} {fs : Array Field} {f : Nat} {fd : Field} {sz : Nat} (ho : o.op = .fieldAddr t x f) (ht : c.P.underlying t = some (.struct fs)) (hf : fs[f]? = some fd)
    (hsz : szOf c.P fd.type = some sz) (h0 : sz ≠ 0) (hx : cX c.h x = some sx) : VSound c o (.faddr fd.offset sx) := by
  refine VSound.pure fun s s1 v a w M B h hs => ?_
  have hrun : execOp a.eval o = (do pure (.value (← Instr.fieldAt t (a.eval x) f))) := by unfold execOp; rw [ho]
  simp only [aop] at hs
  split at hs
  · rename_i b g i off hav
    simp only [Option.some.injEq, Prod.mk.injEq] at hs
    obtain ⟨rfl, rfl⟩ := hs
    have hb := h.val hx hav
    generalize a.eval x = vx at hb hrun
    cases hb
    rename_i p hlt hg hh
    refine ⟨rfl, _, by rw [hrun]; exact runV (field_run ht hf hsz h0), .ptr _ b g i _ hlt hg fun n' es' hr => ?_⟩
    rw [hh n' es' hr, Addr.add_mid]
    simp [Nat.add_assoc]
  · rename_i cells off hav
    simp only [Option.some.injEq, Prod.mk.injEq] at hs
    obtain ⟨rfl, rfl⟩ := hs
    have hb := h.val hx hav
    generalize a.eval x = vx at hb hrun
    cases hb
    rename_i k p vals hX hc hrg hl h1 hv
    refine ⟨rfl, _, by rw [hrun]; exact runV (field_run ht hf hsz h0), ?_⟩
    have := VR.fptr (w := w) (X := XX c.Y M s.boxes B) (m := some M) k p (off + fd.offset) cells vals hX hc hrg hl h1 hv
    rw [Addr.add_mid]
    rwa [← Nat.add_assoc] at this
  · cases hs

theorem slot_run {P : Program} {w : World} {t e : TypeId} {p : Addr} {n cap : Nat} {k : IntKind} {i : Int} {sz : Nat} (ht : P.underlying t = some (.slice e)) (hsz : szOf P e = some sz) (h0 : 0 ≤ i) (h1 : i < n) :
    (Instr.indexAt t (.slice (some p) n cap) (.int k i)).run P w = .ok (.pointer (some (p.add (i.toNat * sz)))) w := by
  unfold szOf at hsz
  cases hi : P.info? e with
  | none => simp [hi] at hsz
  | some z =>
    have hs : z.size = sz := by simpa [hi] using hsz
    simp [Instr.indexAt, asIntOf, run_underlying ht, sizeOf, typeInfo, hi, hs, h0, h1]

theorem slotP_run {P : Program} {w : World} {t e : TypeId} {p : Addr} {n : Nat} {k : IntKind} {i : Int} {sz : Nat} (ht : P.underlying t = some (.array n e)) (hsz : szOf P e = some sz) (h0 : 0 ≤ i) (h1 : i < n) :
    (Instr.indexAt t (.pointer (some p)) (.int k i)).run P w = .ok (.pointer (some (p.add (i.toNat * sz)))) w := by
  unfold szOf at hsz
  cases hi : P.info? e with
  | none => simp [hi] at hsz
  | some z =>
    have hs : z.size = sz := by simpa [hi] using hsz
    simp [Instr.indexAt, asIntOf, run_underlying ht, Instr.sureAddr, sizeOf, typeInfo, hi, hs, h0, h1]

theorem vs_iaddr {t e : TypeId} {x i : Operand} {sx si : SX} {sz : Nat} (ho : o.op = .indexAddr t x i) (ht : c.P.underlying t = some (.slice e)) (hsz : szOf c.P e = some sz)
    (hx : cX c.h x = some sx) (hi : cX c.h i = some si) : VSound c o (.iaddr sz sx si) := by
  refine VSound.pure fun s s1 v a w M B h hs => ?_
  have hrun : execOp a.eval o = (do pure (.value (← Instr.indexAt t (a.eval x) (a.eval i)))) := by unfold execOp; rw [ho]
  simp only [aop] at hs
  split at hs
  · rename_i es k n hav hiv
    split at hs
    · rename_i h0
      split at hs
      · rename_i el he
        split at hs
        · rename_i hel
          simp only [Option.some.injEq, Prod.mk.injEq] at hs
          obtain ⟨rfl, rfl⟩ := hs
          have hb := h.val hx hav
          have hib := h.val hi hiv
          generalize a.eval x = vx at hb hrun
          generalize a.eval i = vi at hib hrun
          cases hib
          have hlt : n.toNat < es.length := (List.getElem?_eq_some_iff.1 he).1
          cases hb
          · simp at he
          · rename_i q p cap z vals hX hc hrg hcap hl hall h1 hv
            have hz : z = sz := by rw [← hel]; exact (hall el (List.mem_of_getElem? he)).symm
            subst hz
            refine ⟨rfl, _, by rw [hrun]; exact runV (slot_run ht hsz h0 (by omega)), ?_⟩
            rw [Addr.add_mid]
            have hvs := VRs_sub (w := w) (m := none) ⟨hl, hv⟩ (n.toNat * z) z
            rw [flat_elem hall he] at hvs
            have := VR.fptr (w := w) (X := XX c.Y M s.boxes B) (m := some M) q (p + n.toNat * z) 0 el.cells _ hX hc (rangeAt_sub hrg _ _) hvs.1 (elem_one h1 he) hvs.2
            simpa using this
        · cases hs
      · cases hs
    · cases hs
  · rename_i b g off len k n hav hiv
    split at hs
    · rename_i hin
      split at hs
      · rename_i z es hrow
        split at hs
        · rename_i hz
          subst hz
          simp only [Option.some.injEq, Prod.mk.injEq] at hs
          obtain ⟨rfl, rfl⟩ := hs
          have hb := h.val hx hav
          have hib := h.val hi hiv
          generalize a.eval x = vx at hb hrun
          generalize a.eval i = vi at hib hrun
          cases hib
          rw [← h.heap] at hrow
          have hget := row_get hrow
          cases hb
          rename_i p cap hlt hg hh
          refine ⟨rfl, _, by rw [hrun]; exact runV (slot_run ht hsz hin.1 hin.2), .ptr _ b g _ _ hlt hg fun n' es' hr => ?_⟩
          obtain ⟨h1, h2, h3⟩ := hh n' es' hr
          rw [hget] at hr
          cases hr
          rcases h3 with h3 | ⟨h3, _⟩
          · omega
          · rw [h3, Addr.add_mid]
            simp [Nat.add_mul, Nat.add_assoc]
        · cases hs
      · cases hs
    · cases hs
  · cases hs

theorem vs_iaddrP {t e : TypeId} {x i : Operand} {sx si : SX} {sz n : Nat} (ho : o.op = .indexAddr t x i) (ht : c.P.underlying t = some (.array n e)) (hsz : szOf c.P e = some sz)
    (hx : cX c.h x = some sx) (hi : cX c.h i = some si) : VSound c o (.iaddrP n sz sx si) := by
  refine VSound.pure fun s s1 v a w M B h hs => ?_
  have hrun : execOp a.eval o = (do pure (.value (← Instr.indexAt t (a.eval x) (a.eval i)))) := by unfold execOp; rw [ho]
  simp only [aop] at hs
  split at hs
  · rename_i b g el off k j hav hiv
    split at hs
    · rename_i hin
      simp only [Option.some.injEq, Prod.mk.injEq] at hs
      obtain ⟨rfl, rfl⟩ := hs
      have hb := h.val hx hav
      have hib := h.val hi hiv
      generalize a.eval x = vx at hb hrun
      generalize a.eval i = vi at hib hrun
      cases hib
      cases hb
      rename_i p hlt hg hh
      refine ⟨rfl, _, by rw [hrun]; exact runV (slotP_run ht hsz hin.1 hin.2), .ptr _ b g _ _ hlt hg fun n' es' hr => ?_⟩
      rw [hh n' es' hr, Addr.add_mid]
      simp [Nat.add_assoc]
    · cases hs
  · rename_i cells off k j hav hiv
    split at hs
    · rename_i hin
      simp only [Option.some.injEq, Prod.mk.injEq] at hs
      obtain ⟨rfl, rfl⟩ := hs
      have hb := h.val hx hav
      have hib := h.val hi hiv
      generalize a.eval x = vx at hb hrun
      generalize a.eval i = vi at hib hrun
      cases hib
      cases hb
      rename_i q p vals hX hc hrg hl h1 hv
      refine ⟨rfl, _, by rw [hrun]; exact runV (slotP_run ht hsz hin.1 hin.2), ?_⟩
      rw [Addr.add_mid]
      have := VR.fptr (w := w) (X := XX c.Y M s.boxes B) (m := some M) q p (off + j.toNat * sz) cells vals hX hc hrg hl h1 hv
      rwa [← Nat.add_assoc] at this
    · cases hs
  · cases hs

/-- A part of an aggregate. -/
theorem part_run {P : Program} {w : World} {X : Nat → Prop} {m : Option Mem} {t : TypeId} {agg : Bool} {sz off : Nat} {cs : Array Value} {as : List AV} {r : AV} (hv : VRs w X m cs.toList as)
    (h1 : ∀ a ∈ as, a.one = true) (hagg : aggOf P t = some agg) (hsz : szOf P t = some sz) (h : readAt agg sz as off = some r) :
    ∃ v, (part t cs off).run P w = .ok v w ∧ VR w X m v r := by
  obtain ⟨d, hd, rfl⟩ := aggOf_ok hagg
  unfold szOf at hsz
  cases hi : P.info? t with
  | none => simp [hi] at hsz
  | some z =>
    have hs : z.size = sz := by simpa [hi] using hsz
    have hag : ∀ w : World, (isAgg t).run P w = .ok d.isRow w := fun w => by
      unfold isAgg
      rw [Sem.run_bind, run_underlying hd w]
      cases d <;> simp
    unfold readAt at h
    split at h
    · rename_i hrow
      split at h
      · rename_i hle
        cases h
        have hvs := VRs_sub hv off sz
        refine ⟨.agg (cs.extract off (off + sz)), ?_, .agg _ _ ?_ (fun a ha => h1 a (List.mem_of_mem_drop (List.mem_of_mem_take ha))) fun k v a e1 e2 => hvs.2 k v a ?_ e2⟩
        · simp [part, hag, hrow, sizeOf, typeInfo, hi, hs]
        · have := hv.1; simp at this; simp; omega
        · rw [← Array.getElem?_toList, Array.toList_extract] at e1
          simpa [List.extract_eq_take_drop] using e1
      · cases h
    · rename_i hrow
      have hlt : off < cs.size := by have := hv.1; simp at this; rw [this]; exact (List.getElem?_eq_some_iff.1 h).1
      refine ⟨cs[off], ?_, hv.2 off _ _ (by simp [hlt]) h⟩
      simp [part, hag, hrow, hlt]

theorem vs_field {t : TypeId} {x : Operand} {sx : SX} {fs : Array Field} {f : Nat} {fd : Field} {sz : Nat} {agg : Bool} (ho : o.op = .field t x f) (ht : c.P.underlying t = some (.struct fs)) (hf : fs[f]? = some fd)
    (hagg : aggOf c.P fd.type = some agg) (hsz : szOf c.P fd.type = some sz) (hx : cX c.h x = some sx) : VSound c o (.field agg sz fd.offset sx) := by
  refine VSound.pure fun s s1 v a w M B h hs => ?_
  have hrun : execOp a.eval o = (do pure (.value (← Instr.field t (a.eval x) f))) := by unfold execOp; rw [ho]
  simp only [aop] at hs
  split at hs
  · rename_i as hav
    simp only [Option.map_eq_some_iff, Prod.mk.injEq] at hs
    obtain ⟨r, hr, rfl, rfl⟩ := hs
    have hb := h.val hx hav
    generalize a.eval x = vx at hb hrun
    have hcl := hb.cells
    cases hb
    rename_i cs hl h1 hv
    obtain ⟨v, h2, h3⟩ := part_run (P := c.P) hcl h1 hagg hsz hr
    have hh : (Instr.field t (.agg cs) f).run c.P w = .ok v w := by simp [Instr.field, run_underlying ht, hf, asAgg]; exact h2
    exact ⟨rfl, v, by rw [hrun]; exact runV hh, h3⟩
  · cases hs

theorem vs_indexG {t e : TypeId} {x i : Operand} {sx si : SX} {n sz : Nat} {agg : Bool} (ho : o.op = .index t x i) (ht : c.P.underlying t = some (.array n e))
    (hagg : aggOf c.P e = some agg) (hsz : szOf c.P e = some sz) (hx : cX c.h x = some sx) (hi : cX c.h i = some si) : VSound c o (.indexG agg n sz sx si) := by
  refine VSound.pure fun s s1 v a w M B h hs => ?_
  have hrun : execOp a.eval o = (do pure (.value (← Instr.index t (a.eval x) (a.eval i)))) := by unfold execOp; rw [ho]
  simp only [aop] at hs
  split at hs
  · rename_i as k j hav hiv
    split at hs
    · rename_i hin
      simp only [Option.map_eq_some_iff, Prod.mk.injEq] at hs
      obtain ⟨r, hr, rfl, rfl⟩ := hs
      have hb := h.val hx hav
      have hib := h.val hi hiv
      generalize a.eval x = vx at hb hrun
      generalize a.eval i = vi at hib hrun
      cases hib
      have hcl := hb.cells
      cases hb
      rename_i cs hl h1 hv
      obtain ⟨v, h2, h3⟩ := part_run (P := c.P) hcl h1 hagg hsz hr
      have hh : (Instr.index t (.agg cs) (.int k j)).run c.P w = .ok v w := by
        unfold szOf at hsz
        cases hz : c.P.info? e with
        | none => simp [hz] at hsz
        | some z =>
          have hs : z.size = sz := by simpa [hz] using hsz
          simp [Instr.index, asIntOf, run_underlying ht, hin.1, hin.2, sizeOf, typeInfo, hz, hs]
          exact h2
      exact ⟨rfl, v, by rw [hrun]; exact runV hh, h3⟩
    · cases hs
  · cases hs

theorem vs_indexS {t : TypeId} {x i : Operand} {sx si : SX} (ho : o.op = .index t x i) (ht : c.P.underlying t = some .string) (hx : cX c.h x = some sx) (hi : cX c.h i = some si) : VSound c o (.indexS sx si) := by
  refine VSound.pure fun s s1 v a w M B h hs => ?_
  have hrun : execOp a.eval o = (do pure (.value (← Instr.index t (a.eval x) (a.eval i)))) := by unfold execOp; rw [ho]
  simp only [aop] at hs
  split at hs
  · rename_i l k j hav hiv
    split at hs
    · rename_i h0
      split at hs
      · rename_i b hb
        simp only [Option.some.injEq, Prod.mk.injEq] at hs
        obtain ⟨rfl, rfl⟩ := hs
        have hv := h.val hx hav
        have hib := h.val hi hiv
        generalize a.eval x = vx at hv hrun
        generalize a.eval i = vi at hib hrun
        cases hib
        cases hv
        rename_i str
        obtain ⟨hlt, hget⟩ := List.getElem?_eq_some_iff.1 hb
        have hlt' : j.toNat < str.size := by rw [Array.length_toList] at hlt; exact hlt
        have hst : str[j.toNat]? = some b := by
          rw [getElem?_pos str j.toNat hlt']
          congr 1
        have hh : (Instr.index t (.string str) (.int k j)).run c.P w = .ok (.int .u8 b.toNat) w := by simp [Instr.index, asIntOf, run_underlying ht, h0, hst]
        exact ⟨rfl, .int .u8 b.toNat, by rw [hrun]; exact runV hh, .int _ _⟩
      · cases hs
    · cases hs
  · cases hs

end
end Go.AI

/- Operations that make memory: sound. -/
set_option linter.unusedVariables false
set_option linter.unusedSimpArgs false
namespace Go.AI
open Go

theorem zeroOf_ok {P : Program} {t : TypeId} {z : AV} (h : zeroOf P t = some z) : ∃ i v, P.info? t = some i ∧ i.zero = some v ∧ ofV v = some z := by
  unfold zeroOf at h
  rw [Option.bind_eq_some_iff] at h
  obtain ⟨v, hv, hz⟩ := h
  rw [Option.bind_eq_some_iff] at hv
  obtain ⟨i, hi, hv⟩ := hv
  exact ⟨i, v, hi, hv, hz⟩

theorem szOf_ok {P : Program} {t : TypeId} {n : Nat} (h : szOf P t = some n) : ∃ i, P.info? t = some i ∧ i.size = n := by
  unfold szOf at h
  simpa using h

theorem VR.plain_one {w : World} {X : Nat → Prop} {m : Option Mem} {v : Value} {a : AV} (h : VR w X m v a) (hp : a.plain = true) : ∀ y ∈ a.cells, y.one = true := by
  cases h
  case agg cs as hl h1 hv => exact h1
  case tup cs as hl hv => cases hp
  all_goals (intro y hy; simp [AV.cells] at hy; subst hy; rfl)

theorem newVar_run {P : Program} {w : World} {t : TypeId} {v : Value} : (newVar t v).run P w = .ok ⟨w.heap.size, 0, none⟩ (w.alloc (.cells v.cells t)) := by
  simp [newVar, newRow]

section
variable {c : Ctx} {s s' : St} {a : Act} {w : World} {M : Mem} {B : Nat → Nat} {o : Oper}

theorem flat_one (e : AV) : flat [e] = e.cells := by simp [flat]

theorem VRs.take_self {w : World} {X : Nat → Prop} {m : Option Mem} {vs : List Value} {as : List AV} (h : VRs w X m vs as) : VRs w X m (vs.take as.length) as := by
  rw [List.take_of_length_le (by rw [h.1]; exact Nat.le_refl _)]; exact h

/-- The pointer to a new row's first element. -/
theorem new_ptr {M : Mem} {w w' : World} {X : Nat → Prop} {sz : Nat} {es : List AV} {s : St} (hh : M.H = s.heap) :
    VR w' X (some ⟨turnβ M s.heap.length (w.heap.size, 0), (addRow s sz es).heap⟩) (.pointer (some ⟨w.heap.size, 0, none⟩)) (.ptr s.heap.length 0 0 0) := by
  refine .ptr _ _ _ _ _ (by simp [addRow]) (fun _ _ _ _ => Nat.zero_le _) fun z es' hg => ?_
  simp [turnβ]

theorem new_ref {M : Mem} {w w' : World} {X : Nat → Prop} {sz n cap : Nat} {es : List AV} {s : St} (hh : M.H = s.heap) (hn : n = es.length) (hc : n ≤ cap) (ht : w'.there w.heap.size 0 (cap * sz)) :
    VR w' X (some ⟨turnβ M s.heap.length (w.heap.size, 0), (addRow s sz es).heap⟩) (.slice (some ⟨w.heap.size, 0, none⟩) n cap) (.ref s.heap.length 0 0 n) := by
  refine .ref _ _ _ _ _ _ (by simp [addRow]) (fun _ _ _ _ => Nat.zero_le _) fun z es' hg => ?_
  have e : Heap.get (addRow s sz es).heap s.heap.length = some (.row sz 0 es) := by
    show Heap.get (s.heap ++ _) _ = _
    rw [get_append, if_pos rfl]
  have hg' : Heap.get (addRow s sz es).heap s.heap.length = some (.row z 0 es') := hg
  rw [e] at hg'
  cases hg'
  exact ⟨hc, by omega, .inr ⟨by simp [turnβ], by simpa [turnβ] using ht⟩⟩

theorem vs_alloc {e : TypeId} {z : AV} (ho : o.op = .alloc e) (hz : zeroOf c.P e = some z) : VSound c o (.alloc z) := by
  intro s s1 v a w M B h hs
  simp only [aop, Option.some.injEq, Prod.mk.injEq] at hs
  obtain ⟨rfl, rfl⟩ := hs
  obtain ⟨i, zv, hi, hzv, hzz⟩ := zeroOf_ok hz
  have hcl := ofV_cells hzz
  have hvr : VR w (XX c.Y M s.boxes B) (some M) zv z := ofV_VR hzz
  have hn := h.newRow (sz := z.cells.length) (es := [z]) (C := zv.cells) (T := e) (w1 := w) rfl rfl rfl rfl (by rw [flat_one]; exact hvr.cells.take_self) (by simp) (by rw [flat_one]; exact hcl.2)
  refine ⟨_, _, _, ?_, hn.1, new_ptr h.heap, hn.2.1, Nat.le_refl _⟩
  have hrun : execOp a.eval o = (do pure (.value (← Instr.alloc e true (.tuple #[])))) := by unfold execOp; rw [ho]
  rw [hrun]
  refine runV ?_
  simp [Instr.alloc, zeroValue, typeInfo, hi, hzv, newVar_run]

theorem vs_box {e : TypeId} {x : Operand} {sx : SX} {sz : Nat} (ho : o.op = .box e x) (hx : cX c.h x = some sx) : VSound c o (.box sz sx) := by
  intro s s1 v a w M B h hs
  simp only [aop] at hs
  split at hs
  · rename_i av hav
    split at hs
    · rename_i hsz
      simp only [Option.some.injEq, Prod.mk.injEq] at hs
      obtain ⟨rfl, rfl⟩ := hs
      have hvr := h.val hx hav
      have hone := hvr.plain_one hsz.2
      have hn := h.newRow (sz := sz) (es := [av]) (C := (a.eval x).cells) (T := e) (w1 := w) rfl rfl rfl rfl (by rw [flat_one]; exact hvr.cells.take_self) (by simpa using hsz.1) (by rw [flat_one]; exact hone)
      refine ⟨_, _, _, ?_, hn.1, new_ptr h.heap, hn.2.1, Nat.le_refl _⟩
      have hrun : execOp a.eval o = (do pure (.value (← Instr.box e (a.eval x)))) := by unfold execOp; rw [ho]
      rw [hrun]
      refine runV ?_
      simp [Instr.box, newVar_run]
    · cases hs
  · cases hs

theorem vs_makeMap {t : TypeId} (ho : o.op = .makeMap t none) : VSound c o .makeMap := by
  intro s s1 v a w M B h hs
  simp only [aop, Option.some.injEq, Prod.mk.injEq] at hs
  obtain ⟨rfl, rfl⟩ := hs
  have hheap := h.heap
  have hrun : execOp a.eval o = (do pure (.value (← Instr.makeMap t none))) := by unfold execOp; rw [ho]; rfl
  have hnewb : (w.alloc (.map #[] 0)).heap[w.heap.size]? = some (.map #[] 0) := heap_alloc_last w _
  have key := h.upd (b := s.heap.length) (blk := .map []) (p := (w.heap.size, 0)) (w' := w.alloc (.map #[] 0)) (s' := { s with heap := s.heap ++ [some (.map [])] }) rfl rfl rfl h.lole
    (by rw [hheap]; simp) (fun k => by rw [hheap]; exact get_append _ _ k) (fun k hk => by rw [hheap]; exact List.getElem?_append_left hk)
    rfl rfl rfl (by simp)
    (fun k hk _ => RowKit.Below.heap_alloc w _ k hk) (.inr (Nat.le_refl _)) (by simp)
    (fun hb => by rw [hheap] at hb; exact absurd hb (Nat.lt_irrefl _))
    (fun hst => ⟨⟨#[], 0, by rw [show (Mem.mk (turnβ M s.heap.length (w.heap.size, 0)) (s.heap ++ [some (.map [])])).β s.heap.length = (w.heap.size, 0) by simp [turnβ]]; exact hnewb, rfl,
      fun k e kv h1 => by simp at h1, fun e he => by simp at he, by simp⟩⟩)
  refine ⟨.map (some w.heap.size), _, _, ?_, key.1, .mref _ _ (by simp) (fun kvs hk => by simp [turnβ]), key.2 _ h.lole, Nat.le_refl _⟩
  rw [hrun]
  refine runV ?_
  simp [Instr.makeMap]

theorem replicate_flat {n : Nat} {z : AV} : flat (List.replicate n z) = (List.replicate n z.cells).flatten := by
  simp [flat, List.flatMap]

/-- Zeros, cell by cell. -/
theorem zeros_get {X : Nat → Prop} {m : Option Mem} {zv : Array Value} {z : AV} {sz : Nat} (hz : VRs w X m zv.toList z.cells) (hsz : z.cells.length = sz) (h0 : 0 < sz) (n : Nat) :
    VRs w X m ((Array.range (n * sz)).map fun i => zv[i % zv.size]!).toList (flat (List.replicate n z)) := by
  have hfl : (flat (List.replicate n z)).length = n * sz := by rw [flat_length (s := sz) (fun e he => by rw [List.eq_of_mem_replicate he]; exact hsz)]; simp
  have hzs : zv.size = sz := by have := hz.1; simp at this; omega
  refine ⟨by simp [hfl], fun k v av hv ha => ?_⟩
  have hk : k < n * sz := by rw [← hfl]; exact (List.getElem?_eq_some_iff.1 ha).1
  simp only [Array.toList_map, Array.toList_range, List.getElem?_map, List.getElem?_range hk, Option.map_some, Option.some.injEq] at hv
  have hm : k % sz < sz := Nat.mod_lt _ h0
  have hget : (flat (List.replicate n z))[k]? = z.cells[k % sz]? := by
    have hi : k / sz < n := Nat.div_lt_of_lt_mul (by rw [Nat.mul_comm]; exact hk)
    have he : (List.replicate n z)[k / sz]? = some z := by simp [hi]
    have := flat_elem (s := sz) (es := List.replicate n z) (fun e he => by rw [List.eq_of_mem_replicate he]; exact hsz) he
    rw [← this, List.getElem?_take, if_pos hm, List.getElem?_drop, Nat.mul_comm, Nat.div_add_mod]
  rw [hget] at ha
  subst hv
  rw [hzs]
  refine hz.2 (k % sz) _ av ?_ ha
  rw [Array.getElem?_toList, getElem!_pos zv (k % sz) (by omega)]
  simp [hzs, hm]

theorem zero_parts {P : Program} {e : TypeId} {z : AV} (hz : zeroOf P e = some z) : ∃ i v, P.info? e = some i ∧ i.zero = some v ∧ (∀ w X m, VR w X m v z) ∧ v.cells.size = z.cells.length ∧ ∀ x ∈ z.cells, x.one = true := by
  obtain ⟨i, v, hi, hv, hvz⟩ := zeroOf_ok hz
  exact ⟨i, v, hi, hv, fun w X m => ofV_VR hvz, (ofV_cells hvz).1, (ofV_cells hvz).2⟩

theorem vs_makeSlice {t e : TypeId} {x y : Operand} {sx sy : SX} {i : TypeInfo} {z : AV} (ho : o.op = .makeSlice t x y) (ht : c.P.underlying t = some (.slice e)) (hi : c.P.info? e = some i) (hz : zeroOf c.P e = some z)
    (h0 : 0 < i.size) (hzs : z.cells.length = i.size) (hx : cX c.h x = some sx) (hy : cX c.h y = some sy) : VSound c o (.makeSlice i.size i.bytes z sx sy) := by
  intro s s1 v a w M B h hs
  have hrun : execOp a.eval o = (do pure (.value (← Instr.makeSlice t (a.eval x) (a.eval y)))) := by unfold execOp; rw [ho]
  obtain ⟨i', zv, hi', hzv, hvr, hcs, hone⟩ := zero_parts hz
  rw [hi] at hi'
  cases hi'
  simp only [aop] at hs
  split at hs
  · rename_i n k hn hk
    have h1 := h.val hx hn
    have h2 := h.val hy hk
    generalize a.eval x = vx at h1 hrun
    generalize a.eval y = vy at h2 hrun
    cases h1; cases h2
    split at hs
    · rename_i hb
      obtain ⟨hn0, hnk, hkm, hby⟩ := hb
      have hkb : ((i.bytes : Int) * k) ≤ 281474976710656 := by
        have e1 : (k.toNat : Int) = k := by omega
        have e2 : ((k.toNat * i.bytes : Nat) : Int) = k * i.bytes := by rw [Int.natCast_mul, e1]
        rw [Int.mul_comm, ← e2]
        unfold maxBytes at hby
        omega
      have hmk := run_make (P := c.P) w t e i zv ht hi hzv .i64 .i64 n k hn0 hnk hkb (by omega)
      rw [hrun]
      split at hs
      · rename_i hk0
        subst hk0
        have : n = 0 := by omega
        subst this
        simp only [Option.some.injEq, Prod.mk.injEq] at hs
        obtain ⟨rfl, rfl⟩ := hs
        have key := h.junk (.cells (madeCells zv.cells 0) e) w rfl rfl rfl rfl
        simp only [Int.toNat_zero, Nat.zero_mul] at hmk
        exact ⟨_, _, M, runV hmk, key.1, .emp _, key.2, Nat.le_refl _⟩
      · rename_i hk0
        simp only [Option.some.injEq, Prod.mk.injEq] at hs
        obtain ⟨rfl, rfl⟩ := hs
        have hz0 := zeros_get (m := some M) (hvr w (XX c.Y M s.boxes B) (some M)).cells hzs h0 k.toNat
        have hfl : ∀ n, (flat (List.replicate n z)).length = n * i.size := fun n => by rw [flat_length (s := i.size) (fun e he => by rw [List.eq_of_mem_replicate he]; exact hzs)]; simp
        have hnk' : n.toNat ≤ k.toNat := by omega
        have hsub : (flat (List.replicate k.toNat z)).take (n.toNat * i.size) = flat (List.replicate n.toNat z) := by
          rw [flat_take (s := i.size) _ (fun e he => by rw [List.eq_of_mem_replicate he]; exact hzs), List.take_replicate, Nat.min_eq_left hnk']
        have hn := h.newRow (sz := i.size) (es := List.replicate n.toNat z) (C := madeCells zv.cells (k.toNat * i.size)) (T := e) (w1 := w) rfl rfl rfl rfl
          (by rw [hfl, ← hsub]; exact hz0.take _) (fun e he => by rw [List.eq_of_mem_replicate he]; exact hzs)
          (fun x hx => by
            obtain ⟨e, he, hx⟩ := mem_flat.1 hx
            rw [List.eq_of_mem_replicate he] at hx
            exact hone x hx)
        refine ⟨_, _, _, runV hmk, hn.1, new_ref h.heap (by simp) hnk' ?_, hn.2.1, Nat.le_refl _⟩
        have := hn.2.2
        rwa [size_madeCells] at this
    · cases hs
  · cases hs
end
end Go.AI

/- Literals of structs, arrays and slices; parts of slices: sound. -/
set_option linter.unusedVariables false
set_option linter.unusedSimpArgs false
namespace Go.AI
open Go

theorem splice_get {cs vs : List AV} {off : Nat} (h : off + vs.length ≤ cs.length) (k : Nat) :
    (splice cs off vs)[k]? = if off ≤ k ∧ k < off + vs.length then vs[k - off]? else cs[k]? := by
  unfold splice
  have hl : (cs.take off).length = off := by simp; omega
  by_cases h1 : k < off
  · rw [List.append_assoc, List.getElem?_append_left (by omega), if_neg (by omega), List.getElem?_take, if_pos h1]
  · by_cases h2 : k < off + vs.length
    · rw [List.append_assoc, List.getElem?_append_right (by omega), List.getElem?_append_left (by omega), if_pos ⟨by omega, h2⟩, hl]
    · rw [List.getElem?_append_right (by simp; omega), if_neg (by omega), List.getElem?_drop]
      congr 1
      simp
      omega

theorem splice_length {cs vs : List AV} {off : Nat} (h : off + vs.length ≤ cs.length) : (splice cs off vs).length = cs.length := by
  simp [splice]; omega

theorem splice_one {cs vs : List AV} {off : Nat} (h1 : ∀ a ∈ cs, a.one = true) (h2 : ∀ a ∈ vs, a.one = true) : ∀ a ∈ splice cs off vs, a.one = true := by
  intro a ha
  simp only [splice, List.mem_append] at ha
  rcases ha with (ha | ha) | ha
  · exact h1 a (List.mem_of_mem_take ha)
  · exact h2 a ha
  · exact h1 a (List.mem_of_mem_drop ha)

section
variable {w : World} {X : Nat → Prop} {m : Option Mem}

/-- Cells with some of them written. -/
theorem VRs.splice {cells : List Value} {as us : List AV} {vs : List Value} {off : Nat} (h : VRs w X m cells as) (k : VRs w X m vs us) (hl : off + us.length ≤ as.length) {out : List Value}
    (hs : out.length = cells.length) (ho : ∀ j, out[j]? = if off ≤ j ∧ j < off + vs.length then vs[j - off]? else cells[j]?) : VRs w X m out (AI.splice as off us) := by
  refine ⟨by rw [hs, splice_length hl, h.1], fun j v a hv ha => ?_⟩
  rw [ho] at hv
  rw [splice_get hl] at ha
  rw [k.1] at hv
  split at hv
  · rename_i hc
    rw [if_pos hc] at ha
    exact k.2 _ v a hv ha
  · rename_i hc
    rw [if_neg hc] at ha
    exact h.2 _ v a hv ha

theorem fill_one {cells vs : Array Value} {off : Nat} (hl : off + vs.size ≤ cells.size) :
    (vs.zipIdx.foldl (fun cs (x : Value × Nat) => cs.setIfInBounds (off + x.2) x.1) cells).size = cells.size ∧
    ∀ j, (vs.zipIdx.foldl (fun cs (x : Value × Nat) => cs.setIfInBounds (off + x.2) x.1) cells).toList[j]? = if off ≤ j ∧ j < off + vs.toList.length then vs.toList[j - off]? else cells.toList[j]? := by
  rw [← Array.foldl_toList, Array.toList_zipIdx]
  obtain ⟨h1, h2⟩ := Great.foldl_set off vs.toList 0 cells
  refine ⟨h1, fun j => ?_⟩
  rw [Array.getElem?_toList, h2 j, Nat.add_zero]
  by_cases hc : off ≤ j ∧ j < off + vs.toList.length
  · rw [if_pos hc, if_pos ⟨hc.1, hc.2, by simp at hc; omega⟩]
  · rw [if_neg hc, if_neg (fun h => hc ⟨h.1, h.2.1⟩), Array.getElem?_toList]
end

section
variable {c : Ctx} {s s' : St} {a : Act} {w : World} {M : Mem} {B : Nat → Nat} {o : Oper}

/-- Parts that are laid into cells. -/
theorem fill_run (h : SR c s a w M B) (place : Nat → Option (Nat × Nat)) : ∀ {ps : List (Nat × Operand)} {l : List (Nat × Nat × SX)} {zero r : List AV} {cells : Array Value},
    mapO (fun p => match place p.1, cX c.h p.2 with | some q, some x => some (q.1, q.2, x) | _, _ => none) ps = some l → aop.fill s zero l = some r →
    VRs w (XX c.Y M s.boxes B) (some M) cells.toList zero → (∀ x ∈ zero, x.one = true) →
    ∃ out, Instr.fill place cells (ps.map fun (p : Nat × Operand) => (p.1, a.eval p.2)) = some out ∧ VRs w (XX c.Y M s.boxes B) (some M) out.toList r ∧ (∀ x ∈ r, x.one = true) ∧ r.length = zero.length
  | [], _, zero, r, cells, hm, hf, hz, h1 => by
    cases hm
    simp only [aop.fill, Option.some.injEq] at hf
    subst hf
    exact ⟨cells, rfl, hz, h1, rfl⟩
  | p :: ps, _, zero, r, cells, hm, hf, hz, h1 => by
    simp only [mapO] at hm
    split at hm
    · rename_i q hq
      split at hm
      · rename_i l hl
        cases hm
        split at hq
        · rename_i pl x hpl hx
          cases hq
          simp only [aop.fill] at hf
          split at hf
          · rename_i av hav
            split at hf
            · rename_i hc
              obtain ⟨hc1, hc2, hc3⟩ := hc
              have hv := (h.val hx hav).cells
              have hvs : (a.eval p.2).cells.size = pl.2 := by have := hv.1; simp at this; omega
              have hzs : cells.size = zero.length := by have := hz.1; simpa using this
              have hfit : pl.1 + (a.eval p.2).cells.size ≤ cells.size := by omega
              obtain ⟨e1, e2⟩ := fill_one hfit
              have hsp := hz.splice hv (by omega) (by simpa using e1) e2
              obtain ⟨out, g1, g2, g3, g4⟩ := fill_run h place hl hf hsp (splice_one h1 ((h.val hx hav).plain_one hc2))
              refine ⟨out, ?_, g2, g3, by rw [g4, splice_length (by omega)]⟩
              simp only [List.map_cons, Instr.fill, hpl]
              rw [if_neg]
              · exact g1
              · simp [hvs]; omega
            · cases hf
          · cases hf
        · cases hq
      · cases hm
    · cases hm

theorem map_toList_pairs (ps : Array (Nat × Operand)) (ρ : Operand → Value) : (ps.map fun (i, x) => (i, ρ x)).toList = ps.toList.map fun (p : Nat × Operand) => (p.1, ρ p.2) := by
  rw [Array.toList_map]

theorem built_ok {P : Program} {t : TypeId} {pl : Nat → Option (Nat × Nat)} {z : AV} {parts : List (Nat × Value)} (hp : placeOf P t = some pl) (hz : zeroOf P t = some z) :
    ∃ zv, (∀ w X m, VR w X m zv z) ∧ (∀ x ∈ z.cells, x.one = true) ∧ ∀ out, Instr.fill pl zv.cells parts = some out → P.built t parts = some out := by
  obtain ⟨i, zv, hi, hzv, hvr, _, hone⟩ := zero_parts hz
  refine ⟨zv, hvr, hone, fun out ho => ?_⟩
  unfold placeOf at hp
  unfold Program.built
  split at hp
  · rename_i fs hu
    split at hp
    · rename_i l hl
      cases hp
      simp only [hi, hu, hzv, hl]
      rw [← ho]
      congr 1
      funext k
      simp
    · cases hp
  · rename_i n e hu
    split at hp
    · rename_i ie hie
      cases hp
      simp only [hi, hu, hzv, hie]
      exact ho
    · cases hp
  · cases hp

theorem vs_build {t : TypeId} {ps : Array (Nat × Operand)} {l : List (Nat × Nat × SX)} {z : List AV} (ho : o.op = .build t ps) (hz : zeroOf c.P t = some (.agg z)) (hp : places c.P c.h t ps.toList = some l) :
    VSound c o (.build z l) := by
  refine VSound.pure fun s s1 v a w M B h hs => ?_
  have hrun : execOp a.eval o = (do pure (.value (← Instr.build t (ps.map fun (i, x) => (i, a.eval x))))) := by unfold execOp; rw [ho]
  simp only [aop, Option.map_eq_some_iff, Prod.mk.injEq] at hs
  obtain ⟨r, hr, rfl, rfl⟩ := hs
  refine ⟨rfl, ?_⟩
  unfold places at hp
  split at hp
  · rename_i pl hpl
    obtain ⟨zv, hvr, hone, hbuilt⟩ := built_ok (parts := ps.toList.map fun (p : Nat × Operand) => (p.1, a.eval p.2)) hpl hz
    obtain ⟨out, h1, h2, h3, h4⟩ := fill_run h pl hp hr (hvr w (XX c.Y M s.boxes B) (some M)).cells hone
    refine ⟨.agg out, ?_, .agg out r (by have := h2.1; simpa using this) h3 fun k v x e1 e2 => h2.2 k v x (by simpa using e1) e2⟩
    rw [hrun]
    refine runV (run_build w t _ out ?_)
    rw [map_toList_pairs]
    exact hbuilt out h1
  · cases hp

/-- Elements that are laid into a row, in the abstract: cell by cell it is `fill`. -/
theorem fillE_fill {sz : Nat} : ∀ {l : List (Nat × SX)} {es r : List AV}, (∀ e ∈ es, e.cells.length = sz) → aop.fillE s sz es l = some r →
    aop.fill s (flat es) (l.map fun p => (p.1 * sz, sz, p.2)) = some (flat r) ∧ r.length = es.length ∧ ∀ e ∈ r, e.cells.length = sz
  | [], es, r, h1, h2 => by
    simp only [aop.fillE, Option.some.injEq] at h2
    subst h2
    exact ⟨rfl, rfl, h1⟩
  | p :: l, es, r, h1, h2 => by
    simp only [aop.fillE] at h2
    split at h2
    · rename_i v hv
      split at h2
      · rename_i hc
        have hvl := hc.2.2
        have h1' : ∀ e ∈ es.set p.1 v, e.cells.length = sz := fun e he => by
          rcases List.mem_or_eq_of_mem_set he with h | h
          · exact h1 e h
          · rw [h]; exact hvl
        obtain ⟨g1, g2, g3⟩ := fillE_fill h1' h2
        refine ⟨?_, by simpa using g2, g3⟩
        simp only [List.map_cons, aop.fill, hv]
        have hfl := flat_length h1
        have hle : p.1 * sz + sz ≤ (flat es).length := by
          rw [hfl, ← Nat.succ_mul]
          exact Nat.mul_le_mul_right _ hc.1
        rw [if_pos ⟨hvl, hc.2.1, hle⟩]
        rw [flat_set h1 hc.1 hvl] at g1
        unfold splice
        rw [hvl]
        exact g1
      · cases h2
    · cases h2

theorem mapO_pairs {h : Hints} {sz : Nat} : ∀ {ps : List (Nat × Operand)} {l : List (Nat × SX)}, mapO (fun p => (cX h p.2).map fun x => (p.1, x)) ps = some l →
    mapO (fun p => match (fun i => (some (i * sz, sz) : Option (Nat × Nat))) p.1, cX h p.2 with | some q, some x => some (q.1, q.2, x) | _, _ => none) ps = some (l.map fun p => (p.1 * sz, sz, p.2))
  | [], _, h => by cases h; rfl
  | p :: ps, _, h => by
    simp only [mapO] at h
    split at h
    · rename_i q hq
      split at h
      · rename_i l hl
        cases h
        simp only [Option.map_eq_some_iff] at hq
        obtain ⟨x, hx, rfl⟩ := hq
        have := mapO_pairs (sz := sz) hl
        simp only [mapO, hx, List.map_cons]
        simp only at this
        rw [this]
      · cases h
    · cases h

theorem vs_buildSlice {t e : TypeId} {n sz : Nat} {ps : Array (Nat × Operand)} {l : List (Nat × SX)} {z : AV} (ho : o.op = .buildSlice t n ps) (ht : c.P.underlying t = some (.slice e)) (hsz : szOf c.P e = some sz)
    (hz : zeroOf c.P e = some z) (h0 : 0 < sz) (hzs : z.cells.length = sz) (hsmall : n * sz ≤ 16777216) (hn : n = 0 → ps = #[]) (hp : mapO (fun p => (cX c.h p.2).map fun x => (p.1, x)) ps.toList = some l) : VSound c o (.buildSlice sz z n l) := by
  intro s s1 v a w M B h hs
  have hrun : execOp a.eval o = (do pure (.value (← Instr.buildSlice t n (ps.map fun (i, x) => (i, a.eval x))))) := by unfold execOp; rw [ho]
  obtain ⟨i, zv, hi, hzv, hvr, hcs, hone⟩ := zero_parts hz
  obtain ⟨i', hi', his⟩ := szOf_ok hsz
  rw [hi] at hi'
  cases hi'
  simp only [aop] at hs
  rw [hrun]
  split at hs
  · rename_i hn0
    subst hn0
    obtain rfl := hn rfl
    simp only [Option.some.injEq, Prod.mk.injEq] at hs
    obtain ⟨rfl, rfl⟩ := hs
    have key := h.junk (.cells #[] e) w rfl rfl rfl rfl
    have hmk : (Instr.buildSlice t 0 #[]).run c.P w = .ok (.slice (some ⟨w.heap.size, 0, none⟩) 0 0) (w.alloc (.cells #[] e)) := by
      simp [Instr.buildSlice, run_underlying ht, sizeOf, typeInfo, hi, Instr.fill, newRow, Array.range_zero']
    rw [Array.map_empty]
    exact ⟨_, _, M, runV hmk, key.1, .emp _, key.2, Nat.le_refl _⟩
  · rename_i hn0
    split at hs
    · rename_i es hes
      simp only [Option.some.injEq, Prod.mk.injEq] at hs
      obtain ⟨rfl, rfl⟩ := hs
      have hrs : ∀ x ∈ List.replicate n z, x.cells.length = sz := fun x hx => by rw [List.eq_of_mem_replicate hx]; exact hzs
      have hro : ∀ x ∈ flat (List.replicate n z), x.one = true := fun x hx => by
        obtain ⟨y, hy, hx⟩ := mem_flat.1 hx
        rw [List.eq_of_mem_replicate hy] at hx
        exact hone x hx
      obtain ⟨g1, g2, g3⟩ := fillE_fill hrs hes
      have hz0 := zeros_get (m := some M) (hvr w (XX c.Y M s.boxes B) (some M)).cells hzs h0 n
      obtain ⟨out, f1, f2, f3, f4⟩ := fill_run h (fun i => some (i * sz, sz)) (mapO_pairs (sz := sz) hp) g1 hz0 hro
      have hkp : ¬ n * sz = 0 := Nat.ne_of_gt (Nat.mul_pos (by omega) h0)
      have hmk := run_buildSlice (P := c.P) w t e n (ps.map fun (i, x) => (i, a.eval x)) out i zv ht hi hzv (by rw [his]; omega) (by rw [his]; exact hkp)
        (by rw [map_toList_pairs, his]; exact f1)
      have hln : es.length = n := by simpa using g2
      have hfl : (flat es).length = n * sz := by rw [flat_length g3, hln]
      have hos : out.size = n * sz := by have := f2.1; simp at this; omega
      have hnr := h.newRow (sz := sz) (es := es) (C := out) (T := e) (w1 := w) rfl rfl rfl rfl f2.take_self g3 f3
      refine ⟨_, _, _, runV hmk, hnr.1, new_ref h.heap hln.symm (Nat.le_refl _) ?_, hnr.2.1, Nat.le_refl _⟩
      have := hnr.2.2
      rwa [hos] at this
    · cases hs
end
end Go.AI

/- Parts of slices and texts: sound. -/
set_option linter.unusedVariables false
set_option linter.unusedSimpArgs false
namespace Go.AI
open Go

theorem szOk_all {sz : Nat} {es : List AV} (h : szOk sz es = true) : ∀ e ∈ es, e.cells.length = sz := fun e he => by
  have := List.all_eq_true.1 h e he
  simpa using this

section
variable {P : Program} {w : World} {X : Nat → Prop} {m : Option Mem}

def sb (x : Option Value) (dflt most : Nat) (code : BoundsCode) : Sem Nat :=
  match x with
  | some v => Instr.sliceBound v most code
  | none => pure dflt

/-- A bound, as the model and the interpreter take it. -/
theorem bound_run {x : Option AV} {vx : Option Value} {dflt most n : Nat} (code : BoundsCode) (h : bound x dflt most = some n) (hv : (∀ v, x = some v → ∃ u, vx = some u ∧ VR w X m u v) ∧ (x = none → vx = none))
    {most' : Nat} (hm : most ≤ most') : (sb vx dflt most' code).run P w = .ok n w ∧ (x = none → n = dflt) ∧ (x ≠ none → n ≤ most) := by
  obtain ⟨hv, hn⟩ := hv
  cases x with
  | none =>
    simp only [bound, Option.some.injEq] at h
    subst h
    obtain rfl := hn rfl
    exact ⟨rfl, fun _ => rfl, fun h => absurd rfl h⟩
  | some v =>
    obtain ⟨u, rfl, hu⟩ := hv v rfl
    clear hv hn
    cases v <;> simp only [bound] at h <;> (try (cases h; done))
    split at h
    · rename_i k i hc
      simp only [Option.some.injEq] at h
      subst h
      cases hu
      have hc2 : i ≤ (most' : Int) := by omega
      refine ⟨?_, fun h => (by cases h), fun _ => (by omega)⟩
      simp [sb, Instr.sliceBound, asIntOf, hc.1, hc2]
    · cases h

theorem sliceBounds_run {isSlice : Bool} {len cap : Nat} {lo hi mx : Option Value} {l h mm : Nat}
    (h1 : ∀ code, (sb mx cap cap code).run P w = .ok mm w) (h2 : ∀ code, (sb hi len mm code).run P w = .ok h w) (h3 : ∀ code, (sb lo 0 h code).run P w = .ok l w)
    (hh : mx.isSome = true → hi.isSome = true) : (Instr.sliceBounds isSlice len cap lo hi mx).run P w = .ok (l, h, mm) w := by
  unfold sb at h1 h2 h3
  cases mx with
  | none =>
    cases hi with
    | none => cases lo <;> simp at h1 h2 h3 <;> simp [Instr.sliceBounds, *]
    | some v => cases lo <;> simp at h1 h2 h3 <;> simp [Instr.sliceBounds, *]
  | some u =>
    cases hi with
    | none => simp at hh
    | some v => cases lo <;> simp at h1 h2 h3 <;> simp [Instr.sliceBounds, *]
end

section
variable {c : Ctx} {s s' : St} {a : Act} {w : World} {M : Mem} {B : Nat → Nat} {o : Oper}

theorem SR.valO (h : SR c s a w M B) {x : Option Operand} {sx : Option SX} {av : Option AV} (hx : cXO c.h x = some sx) (hv : s.evalO sx = some av) :
    (∀ v, av = some v → ∃ u, x.map a.eval = some u ∧ VR w (XX c.Y M s.boxes B) (some M) u v) ∧ (av = none → x.map a.eval = none) := by
  cases x with
  | none =>
    simp only [cXO, Option.some.injEq] at hx
    subst hx
    simp only [St.evalO, Option.some.injEq] at hv
    subst hv
    refine ⟨fun v e => ?_, fun _ => rfl⟩
    cases e
  | some x =>
    simp only [cXO, Option.map_eq_some_iff] at hx
    obtain ⟨y, hy, rfl⟩ := hx
    simp only [St.evalO, Option.map_eq_some_iff] at hv
    obtain ⟨z, hz, rfl⟩ := hv
    refine ⟨fun v e => ?_, fun e => ?_⟩
    · cases e; exact ⟨_, rfl, h.val hy hz⟩
    · cases e

theorem vs_sliceS {t : TypeId} {x : Operand} {lo hi : Option Operand} {sx : SX} {slo shi : Option SX} (ho : o.op = .slice t x lo hi none) (ht : c.P.underlying t = some .string)
    (hx : cX c.h x = some sx) (hlo : cXO c.h lo = some slo) (hhi : cXO c.h hi = some shi) : VSound c o (.sliceS sx slo shi) := by
  refine VSound.pure fun s s1 v a w M B h hs => ?_
  have hrun : execOp a.eval o = (do pure (.value (← Instr.sliceAt t (a.eval x) (lo.map a.eval) (hi.map a.eval) none))) := by unfold execOp; rw [ho]; rfl
  simp only [aop] at hs
  split at hs
  · rename_i v0 l0 h0 e1 e2 e3
    simp only [Option.map_eq_some_iff, Prod.mk.injEq] at hs
    obtain ⟨r, hr, rfl, rfl⟩ := hs
    have hb := h.val hx e1
    have hl1 := h.valO hlo e2
    have hh1 := h.valO hhi e3
    generalize a.eval x = vx at hb hrun
    generalize lo.map a.eval = vlo at hl1 hrun
    generalize hi.map a.eval = vhi at hh1 hrun
    refine ⟨rfl, ?_⟩
    unfold sliceStr at hr
    split at hr
    · rename_i l
      split at hr
      · rename_i hh hbh
        split at hr
        · rename_i ll hbl
          cases hr
          cases hb
          rename_i str
          have hsz : str.data.toList.length = str.size := by rw [Array.length_toList]; rfl
          have r1 := fun code => (bound_run (P := c.P) (w := w) code hbh hh1 (Nat.le_refl _)).1
          have r2 := fun code => (bound_run (P := c.P) (w := w) code hbl hl1 (Nat.le_refl _)).1
          have hsb : (Instr.sliceBounds false str.size str.size vlo vhi none).run c.P w = .ok (ll, hh, str.size) w :=
            sliceBounds_run (fun _ => rfl) (by rw [hsz] at r1; exact r1) r2 (by simp)
          refine ⟨.string (str.extract ll hh), ?_, ?_⟩
          · rw [hrun]
            refine runV ?_
            simp [Instr.sliceAt, run_underlying ht, Instr.slice, hsb]
          · have e := Lib.extract_data str ll hh
            have := VR.str (w := w) (X := XX c.Y M s.boxes B) (m := some M) (str.extract ll hh)
            rw [e] at this
            rwa [List.drop_take]
        · cases hr
      · cases hr
    · cases hr
  · cases hs

theorem vs_slice {t e : TypeId} {x : Operand} {lo hi mx : Option Operand} {sx : SX} {slo shi smx : Option SX} {sz : Nat} (ho : o.op = .slice t x lo hi mx) (ht : c.P.underlying t = some (.slice e)) (hsz : szOf c.P e = some sz)
    (hx : cX c.h x = some sx) (hlo : cXO c.h lo = some slo) (hhi : cXO c.h hi = some shi) (hmx : cXO c.h mx = some smx) (hm : mx.isSome = true → hi.isSome = true) : VSound c o (.slice sz sx slo shi smx) := by
  refine VSound.pure fun s s1 v a w M B h hs => ?_
  have hrun : execOp a.eval o = (do pure (.value (← Instr.sliceAt t (a.eval x) (lo.map a.eval) (hi.map a.eval) (mx.map a.eval)))) := by unfold execOp; rw [ho]
  simp only [aop] at hs
  split at hs
  · rename_i v0 l0 h0 m0 e1 e2 e3 e4
    split at hs
    · rename_i hok
      simp only [Option.map_eq_some_iff, Prod.mk.injEq] at hs
      obtain ⟨r, hr, rfl, rfl⟩ := hs
      have hb := h.val hx e1
      have hl1 := h.valO hlo e2
      have hh1 := h.valO hhi e3
      have hm1 := h.valO hmx e4
      have hm' : (mx.map a.eval).isSome = true → (hi.map a.eval).isSome = true := by simpa using hm
      have hmn : m0 = none ↔ mx.map a.eval = none := ⟨hm1.2, fun e => by
        cases m0 with
        | none => rfl
        | some v => obtain ⟨u, hu, _⟩ := hm1.1 v rfl; rw [e] at hu; cases hu⟩
      generalize a.eval x = vx at hb hrun
      generalize lo.map a.eval = vlo at hl1 hrun
      generalize hi.map a.eval = vhi at hh1 hrun hm'
      generalize mx.map a.eval = vmx at hm1 hrun hm' hmn
      obtain ⟨z, hz, hzs⟩ := szOf_ok hsz
      -- the model's result
      have key : ∀ (p : Option Addr) (len cap ll hh mm : Nat), (Instr.sliceBounds true len cap vlo vhi vmx).run c.P w = .ok (ll, hh, mm) w →
          (Instr.sliceAt t (.slice p len cap) vlo vhi vmx).run c.P w = .ok (.slice (if mm = ll then p else p.map (·.add (ll * sz))) (hh - ll) (mm - ll)) w := fun p len cap ll hh mm hsb => by
        simp [Instr.sliceAt, run_underlying ht, Instr.slice, hsb, sizeOf, typeInfo, hz, hzs]
      -- the bounds, where the interpreter takes no more than `most`
      have bnds : ∀ (len cap m' h' l' : Nat), len ≤ cap → bound m0 len len = some m' → bound h0 len m' = some h' → bound l0 0 h' = some l' →
          (Instr.sliceBounds true len cap vlo vhi vmx).run c.P w = .ok (l', h', if m0 = none then cap else m') w ∧ l' ≤ h' ∧ h' ≤ m' ∧ m' ≤ len := by
        intro len cap m' h' l' hlc b1 b2 b3
        have r1 : ∀ code, (sb vmx cap cap code).run c.P w = .ok (if m0 = none then cap else m') w := fun code => by
          cases m0 with
          | none => obtain rfl := hmn.1 rfl; rfl
          | some q =>
            have := (bound_run (P := c.P) (w := w) code b1 hm1 hlc).1
            have hne : vmx ≠ none := fun e => by have := hmn.2 e; cases this
            cases vmx with
            | none => exact absurd rfl hne
            | some u => rw [if_neg (by simp)]; exact this
        have q1 := (bound_run (P := c.P) (w := w) .slice3Acap b1 hm1 (Nat.le_refl _)).2
        have hml : m' ≤ len := by
          by_cases e : m0 = none
          · rw [q1.1 e]; exact Nat.le_refl _
          · exact q1.2 e
        have hmm : m' ≤ (if m0 = none then cap else m') := by split <;> omega
        have r2 := fun code => bound_run (P := c.P) (w := w) code b2 hh1 hmm
        have q2 := (r2 .sliceB).2
        have hhm : h' ≤ m' := by
          by_cases e : h0 = none
          · rw [q2.1 e]
            have : m0 = none := by
              cases hm0 : vmx with
              | none => exact hmn.2 hm0
              | some u => have := hm' (by rw [hm0]; rfl); rw [hh1.2 e] at this; cases this
            rw [q1.1 this]; exact Nat.le_refl _
          · exact q2.2 e
        have r3 := fun code => bound_run (P := c.P) (w := w) code b3 hl1 (Nat.le_refl _)
        have hlh : l' ≤ h' := by
          by_cases e : l0 = none
          · rw [(r3 .sliceB).2.1 e]; omega
          · exact (r3 .sliceB).2.2 e
        exact ⟨sliceBounds_run r1 (fun code => (r2 code).1) (fun code => (r3 code).1) hm', hlh, hhm, hml⟩
      refine ⟨rfl, ?_⟩
      cases v0 <;> simp only [sliceOp] at hr <;> (try (cases hr; done))
      case nilsl =>
        split at hr
        · rename_i m' b1
          split at hr
          · rename_i h' b2
            split at hr
            · rename_i l' b3
              cases hr
              obtain ⟨k1, k2, k3, k4⟩ := bnds 0 0 m' h' l' (Nat.le_refl _) b1 b2 b3
              have k5 := key none 0 0 l' h' _ k1
              have e1 : l' = 0 := by omega
              have e2 : h' = 0 := by omega
              have e3 : (if m0 = none then 0 else m') = 0 := by split <;> omega
              cases hb
              rw [e1, e2, e3] at k5
              have k6 : (Instr.sliceAt t (.slice none 0 0) vlo vhi vmx).run c.P w = .ok (.slice none 0 0) w := by simpa using k5
              exact ⟨.slice none 0 0, by rw [hrun]; exact runV k6, .nilsl⟩
            · cases hr
          · cases hr
        · cases hr
      case emp =>
        split at hr
        · rename_i m' b1
          split at hr
          · rename_i h' b2
            split at hr
            · rename_i l' b3
              cases hr
              obtain ⟨k1, k2, k3, k4⟩ := bnds 0 0 m' h' l' (Nat.le_refl _) b1 b2 b3
              cases hb
              rename_i p
              have k5 := key p 0 0 l' h' _ k1
              have e1 : l' = 0 := by omega
              have e2 : h' = 0 := by omega
              have e3 : (if m0 = none then 0 else m') = 0 := by split <;> omega
              rw [e1, e2, e3] at k5
              have k6 : (Instr.sliceAt t (.slice p 0 0) vlo vhi vmx).run c.P w = .ok (.slice p 0 0) w := by simpa using k5
              exact ⟨.slice p 0 0, by rw [hrun]; exact runV k6, .emp _⟩
            · cases hr
          · cases hr
        · cases hr
      case vsl es =>
        have hall := szOk_all hok
        split at hr
        · rename_i m' b1
          split at hr
          · rename_i h' b2
            split at hr
            · rename_i l' b3
              cases hb
              · rename_i p cap
                obtain ⟨k1, k2, k3, k4⟩ := bnds 0 cap m' h' l' (Nat.zero_le _) b1 b2 b3
                have k5 := key p 0 cap l' h' _ k1
                have e1 : l' = 0 := by omega
                have e2 : h' = 0 := by omega
                subst e1 e2
                split at hr
                · rename_i hc
                  cases hr
                  simp only [Bool.and_eq_true, beq_iff_eq, Option.isSome_iff_ne_none] at hc
                  rw [if_neg hc.1, hc.2] at k5
                  refine ⟨_, by rw [hrun]; exact runV k5, ?_⟩
                  simp only [Nat.sub_self]
                  exact .emp _
                · cases hr
                  refine ⟨_, by rw [hrun]; exact runV k5, ?_⟩
                  simp only [List.take_nil, List.drop_nil, Nat.sub_zero]
                  exact .vslE _ _
              · rename_i q p cap z' vals hX hc hrg hcap hl hall' h1 hv
                obtain ⟨k1, k2, k3, k4⟩ := bnds es.length cap m' h' l' hcap b1 b2 b3
                have k5 := key (some ⟨q, p, none⟩) es.length cap l' h' _ k1
                split at hr
                · rename_i hc
                  cases hr
                  simp only [Bool.and_eq_true, beq_iff_eq, Option.isSome_iff_ne_none] at hc
                  rw [if_neg hc.1, hc.2] at k5
                  have : h' = l' := by omega
                  subst this
                  refine ⟨_, by rw [hrun]; exact runV k5, ?_⟩
                  simp only [Nat.sub_self]
                  exact .emp _
                · cases hr
                  refine ⟨_, by rw [hrun]; exact runV k5, ?_⟩
                  by_cases hz : (if m0 = none then cap else m') = l'
                  · have : h' = l' := by
                      have : m' ≤ (if m0 = none then cap else m') := by split <;> omega
                      omega
                    subst this
                    rw [if_pos hz]
                    have e : (es.take h').drop h' = [] := by simp
                    rw [e, Nat.sub_self]
                    exact .vslE _ _
                  · rw [if_neg hz]
                    simp only [Option.map_some, Addr.add_mid]
                    have hvs := VRs_sub (w := w) (m := none) ⟨hl, hv⟩ (l' * sz) ((h' - l') * sz)
                    rw [flat_drop l' hall, flat_take (h' - l') (fun e he => hall e (List.mem_of_mem_drop he)), ← List.drop_take] at hvs
                    have hln : h' - l' = ((es.take h').drop l').length := by simp; omega
                    have hmem : ∀ x ∈ (es.take h').drop l', x ∈ es := fun x hx => List.mem_of_mem_take (List.mem_of_mem_drop hx)
                    have hmm : m' ≤ (if m0 = none then cap else m') := by split <;> omega
                    rw [hln]
                    refine .vsl q _ _ sz _ _ (by rw [← hln]; omega) hX hc (rangeAt_sub hrg (l' * sz) ((h' - l') * sz)) hvs.1 (fun x hx => hall x (hmem x hx)) (fun x hx => ?_) hvs.2
                    obtain ⟨y, hy, hx⟩ := mem_flat.1 hx
                    exact h1 x (mem_flat.2 ⟨y, hmem y hy, hx⟩)
            · cases hr
          · cases hr
        · cases hr
      case ref b g off len =>
        have hok' : ∃ es, s.heap.row b g = some (sz, es) := by
          simp only [sliceOk] at hok
          split at hok
          · rename_i z' es he
            have : z' = sz := by simpa using hok
            subst this
            exact ⟨es, he⟩
          · cases hok
        obtain ⟨es, hrow⟩ := hok'
        rw [← h.heap] at hrow
        have hget := row_get hrow
        split at hr
        · rename_i m' b1
          split at hr
          · rename_i h' b2
            split at hr
            · rename_i l' b3
              cases hb
              rename_i p cap hlt hg hh
              obtain ⟨g1, g2, g3⟩ := hh sz es hget
              obtain ⟨k1, k2, k3, k4⟩ := bnds len cap m' h' l' g1 b1 b2 b3
              have k5 := key (some p) len cap l' h' _ k1
              split at hr
              · rename_i hm0
                split at hr
                · rename_i hml
                  cases hr
                  simp only [beq_iff_eq] at hml
                  simp only [Option.isSome_iff_ne_none] at hm0
                  rw [if_neg hm0, hml] at k5
                  have : h' = l' := by omega
                  subst this
                  refine ⟨_, by rw [hrun]; exact runV k5, ?_⟩
                  simp only [Nat.sub_self]
                  exact .emp _
                · cases hr
              · rename_i hm0
                cases hr
                have hm0' : m0 = none := by
                  cases m0 with
                  | none => rfl
                  | some q => simp at hm0
                rw [if_pos hm0'] at k5
                refine ⟨_, by rw [hrun]; exact runV k5, ?_⟩
                have e : (if cap = l' then some p else (some p).map (·.add (l' * sz))) = some (if cap = l' then p else p.add (l' * sz)) := by split <;> rfl
                rw [e]
                refine .ref _ b g _ _ _ hlt hg fun z' es' hz' => ?_
                rw [hget] at hz'
                cases hz'
                refine ⟨by omega, by omega, ?_⟩
                by_cases hc : cap = l'
                · left; omega
                · right
                  rw [if_neg hc]
                  rcases g3 with g3 | ⟨g3, g4⟩
                  · omega
                  · have e1 : (M.β b).2 + (off + l') * sz = (M.β b).2 + off * sz + l' * sz := by rw [Nat.add_mul, Nat.add_assoc]
                    rw [g3, Addr.add_mid, e1]
                    refine ⟨rfl, there_sub g4 (l' * sz) ((cap - l') * sz) ?_⟩
                    rw [← Nat.add_mul]
                    exact Nat.mul_le_mul_right _ (by omega)
            · cases hr
          · cases hr
        · cases hr
    · cases hs
  · cases hs

end
end Go.AI

