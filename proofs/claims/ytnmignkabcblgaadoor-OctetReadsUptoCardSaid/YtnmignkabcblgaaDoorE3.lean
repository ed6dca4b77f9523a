/- Part of a claim: what each operation of the model's code does to abstract values and the abstract heap. Nothing of a program stands here. -/
import Derived.Test.YtnmignkabcblgaaDoorE2
set_option linter.unusedSimpArgs false
set_option linter.unusedVariables false
namespace Go.Proofs.YtnmignkabcblgaaDoor.E
open Go Go.RowKit

/-- What is used of a type. -/
structure TI where
  und : TypeDesc
  size : Nat
  bytes : Nat
  zero : Value
  eqg : Bool
  stood : Bool

abbrev Tab := TypeId → Option TI

def absC0 : Value → AV
  | .bool b => .bool b
  | .int k n => .int k n
  | .float k b => .float k b
  | .complex k a b => .cplx k a b
  | .string s => .str s.data.toList
  | .pointer none => .nilptr
  | .pointer (some a) => .optr a
  | .slice none 0 0 => .nilslice
  | .slice (some a) l c => .oslice a l c
  | .nilFunc => .nilfunc
  | .nilIface => .nilIface
  | v => .other v

def absC : Value → AV
  | .agg cs => .agg (cs.toList.map absC0)
  | .tuple cs => .tup (cs.toList.map absC0)
  | v => absC0 v

def opv (env : List AV) : Operand → AV
  | .tmp t => env.getD t (.tup [])
  | .const v => absC v
  | .global g => .optr ⟨g, 0, none⟩
  | .func f => .func f

def cellsOf : AV → List AV
  | .agg l => l
  | v => [v]

def isAggT : TypeDesc → Bool
  | .struct _ => true
  | .array _ _ => true
  | _ => false

/-- A NaN of each kind. -/
def aNaN : FloatKind → Nat
  | .f32 => 0x7fc00001
  | .f64 => 0x7ff8000000000001

def fArith (op : BinOp) (k : FloatKind) (a b : Nat) : Option Nat :=
  match op with
  | .add => some ((k.format.add a b).getD (aNaN k))
  | .sub => some ((k.format.sub a b).getD (aNaN k))
  | .mul => some ((k.format.mul a b).getD (aNaN k))
  | .quo => some ((k.format.div a b).getD (aNaN k))
  | _ => none

def ordB (op : BinOp) (c : Option Ordering) : Option Bool :=
  match op with
  | .eql => some (c == some .eq)
  | .neq => some (c != some .eq)
  | .lss => some (c == some .lt)
  | .leq => some (c == some .lt || c == some .eq)
  | .gtr => some (c == some .gt)
  | .geq => some (c == some .gt || c == some .eq)
  | _ => none

def intOp (op : BinOp) (k : IntKind) (x y : Int) : Option AV :=
  match op with
  | .add => some (.int k (k.wrap (x + y)))
  | .sub => some (.int k (k.wrap (x - y)))
  | .mul => some (.int k (k.wrap (x * y)))
  | .quo => if y = 0 then none else some (.int k (k.wrap (x.tdiv y)))
  | .rem => if y = 0 then none else some (.int k (x.tmod y))
  | .and => some (.int k (k.wrap (BitVec.ofInt k.bits x &&& BitVec.ofInt k.bits y).toNat))
  | .or => some (.int k (k.wrap (BitVec.ofInt k.bits x ||| BitVec.ofInt k.bits y).toNat))
  | .xor => some (.int k (k.wrap (BitVec.ofInt k.bits x ^^^ BitVec.ofInt k.bits y).toNat))
  | .andNot => some (.int k (k.wrap (BitVec.ofInt k.bits x &&& ~~~ BitVec.ofInt k.bits y).toNat))
  | .eql => some (.bool (x == y))
  | .neq => some (.bool (x != y))
  | .lss => some (.bool (x < y))
  | .leq => some (.bool (x ≤ y))
  | .gtr => some (.bool (x > y))
  | .geq => some (.bool (x ≥ y))
  | _ => none

def shiftOp (op : BinOp) (k : IntKind) (x y : Int) : Option AV :=
  if y < 0 then none else
  match op with
  | .shl => some (.int k (k.wrap (x * 2 ^ (min y.toNat k.bits))))
  | .shr => some (.int k (x.fdiv (2 ^ (min y.toNat k.bits))))
  | _ => none

def strOp (op : BinOp) (x y : List UInt8) : Option AV :=
  match op with
  | .add => if x.length + y.length ≤ 9223372036854775807 then some (.str (x ++ y)) else none
  | .eql => some (.bool (x == y))
  | .neq => some (.bool !(x == y))
  | .lss => some (.bool (Op.bytesLess x y))
  | .leq => some (.bool (Op.bytesLess x y || x == y))
  | .gtr => some (.bool !(Op.bytesLess x y || x == y))
  | .geq => some (.bool !(Op.bytesLess x y))
  | _ => none

def cplxOp (op : BinOp) (a b c d : Nat) : Option AV :=
  match op with
  | .add => do return .cplx .f64 (← fArith .add .f64 a c) (← fArith .add .f64 b d)
  | .sub => do return .cplx .f64 (← fArith .sub .f64 a c) (← fArith .sub .f64 b d)
  | .mul => do
    let ac ← fArith .mul .f64 a c
    let bd ← fArith .mul .f64 b d
    let ad ← fArith .mul .f64 a d
    let bc ← fArith .mul .f64 b c
    return .cplx .f64 (← fArith .sub .f64 ac bd) (← fArith .add .f64 ad bc)
  | .eql => some (.bool (FloatKind.f64.format.order a c == some .eq && FloatKind.f64.format.order b d == some .eq))
  | .neq => some (.bool !(FloatKind.f64.format.order a c == some .eq && FloatKind.f64.format.order b d == some .eq))
  | _ => none

/-- The cells of a part of a struct or an array. -/
def partA (T : Tab) (t : TypeId) (cs : List AV) (off : Nat) : Option AV :=
  match T t with
  | none => none
  | some i => if isAggT i.und then (if off + i.size ≤ cs.length then some (.agg ((cs.drop off).take i.size)) else none) else cs[off]?

mutual
def eqA (T : Tab) : Nat → TypeId → AV → AV → Option Bool
  | 0, _, _, _ => none
  | n + 1, t, x, y =>
    match T t with
    | none => none
    | some i =>
      match i.und, x, y with
      | .bool, .bool a, .bool b => some (a == b)
      | .int _, .int k a, .int k' b => if k = k' then some (a == b) else none
      | .float _, .float k a, .float k' b => if k = k' then some (k.format.order a b == some .eq) else none
      | .complex _, .cplx k a b, .cplx k' c d => if k = k' then some (k.format.order a c == some .eq && k.format.order b d == some .eq) else none
      | .string, .str a, .str b => some (a == b)
      | .pointer _, .nilptr, .nilptr => some true
      | .pointer _, .nilptr, .ptr _ _ _ => some false
      | .pointer _, .ptr _ _ _, .nilptr => some false
      | .pointer _, .nilptr, .optr _ => some false
      | .pointer _, .optr _, .nilptr => some false
      | .pointer e, .ptr b1 e1 o1, .ptr b2 e2 o2 =>
        match T e with
        | some j => if j.size ≠ 0 ∧ b1 = b2 ∧ e1 = e2 then some (o1 == o2) else none
        | none => none
      | .interface _, .nilIface, .nilIface => some true
      | .interface _, .nilIface, .iface _ _ => some false
      | .interface _, .iface _ _, .nilIface => some false
      | .slice _, .nilslice, .nilslice => some true
      | .slice _, .nilslice, .slice _ _ _ _ _ _ => some false
      | .slice _, .slice _ _ _ _ _ _, .nilslice => some false
      | .slice _, .nilslice, .oslice _ _ _ => some false
      | .slice _, .oslice _ _ _, .nilslice => some false
      | .struct fs, .agg xs, .agg ys => if i.stood then none else eqFs T n fs.toList xs ys
      | _, _, _ => none
def eqFs (T : Tab) : Nat → List Field → List AV → List AV → Option Bool
  | _, [], _, _ => some true
  | 0, _, _, _ => none
  | n + 1, f :: fs, xs, ys =>
    if f.name = "_" then none else
    match partA T f.type xs f.offset, partA T f.type ys f.offset with
    | some a, some b =>
      match eqA T n f.type a b with
      | some true => eqFs T n fs xs ys
      | some false => some false
      | none => none
    | _, _ => none
end

def isFlatScalar : AV → Bool
  | .bool _ | .int _ _ | .float _ _ | .cplx _ _ _ | .str _ | .nilptr | .ptr _ _ _ | .optr _ | .nilslice | .slice _ _ _ _ _ _ | .oslice _ _ _ => true
  | _ => false

def isConstA : Operand → Bool
  | .const _ => true
  | _ => false

def eqGuardA (T : Tab) (t : TypeId) (xo yo : Operand) (x y : AV) : Bool :=
  match x, y with
  | .nilIface, .nilIface => isConstA xo || isConstA yo
  | .agg _, .agg _ => (match T t with | some i => !i.eqg | none => false)
  | _, _ => true

def binA (T : Tab) (op : BinOp) (t : TypeId) (xo yo : Operand) (x y : AV) : Option AV :=
  match x, y with
  | .int k a, .int k' b =>
    match op with
    | .shl => shiftOp .shl k a b
    | .shr => shiftOp .shr k a b
    | _ => if k = k' then intOp op k a b else none
  | .float k a, .float k' b =>
    if k = k' then
      match fArith op k a b with
      | some r => some (.float k r)
      | none => (ordB op (k.format.order a b)).map .bool
    else none
  | .cplx k a b, .cplx k' c d => if k = .f64 ∧ k' = .f64 then cplxOp op a b c d else none
  | .str a, .str b => strOp op a b
  | x, y =>
    if eqGuardA T t xo yo x y = true then
      match op with
      | .eql => (eqA T 64 t x y).map .bool
      | .neq => (eqA T 64 t x y).map fun b => .bool (!b)
      | _ => none
    else none

def negF (k : FloatKind) (b : Nat) : Nat := Op.negFloat k b

def unA (op : UnOp) (x : AV) : Option AV :=
  match op, x with
  | .neg, .int k n => some (.int k (k.wrap (0 - n)))
  | .xor, .int k n => some (.int k (k.wrap (BitVec.ofInt k.bits (if k.signed then -1 else k.max) ^^^ BitVec.ofInt k.bits n).toNat))
  | .neg, .float k b => if isNaN k b then none else some (.float k (negF k b))
  | .neg, .cplx k a b => if isNaN k a || isNaN k b then none else some (.cplx k (negF k a) (negF k b))
  | .not, .bool b => some (.bool !b)
  | _, _ => none

/-- The cells behind a place. -/
def readN (M : Addr → Option AV) (H : Heap) (p : AV) (n : Nat) : Option (List AV) :=
  match p with
  | .ptr b e off =>
    match H[b]? with
    | some (.c cells _ ep sep) =>
      if e = ep then (if off + n ≤ cells.length then some ((cells.drop off).take n) else none)
      else if sep ≤ e ∧ n = 1 then (cells[off]?).map fun v => [v]
      else none
    | _ => none
  | .optr a => (List.range n).mapM fun i => M (a.add i)
  | _ => none

/-- The cells of a slice's elements. -/
def sliceCells (M : Addr → Option AV) (H : Heap) (s : AV) (sz : Nat) : Option (List AV) :=
  match s with
  | .nilslice => some []
  | .slice b e off sz' len _ =>
    if sz' = sz then
      (if len = 0 then some [] else
      match H[b]? with
      | some (.c cells _ _ sep) => if sep ≤ e ∧ off + len * sz ≤ cells.length then some ((cells.drop off).take (len * sz)) else none
      | _ => none)
    else none
  | .oslice a len _ => (List.range (len * sz)).mapM fun i => M (a.add i)
  | .str s => if sz = 1 then some (s.map fun b => .int .u8 b.toNat) else none
  | _ => none

def lenA : AV → Option Nat
  | .nilslice => some 0
  | .slice _ _ _ _ len _ => some len
  | .oslice _ len _ => some len
  | .str s => some s.length
  | _ => none

def loadA (T : Tab) (M : Addr → Option AV) (H : Heap) (t : TypeId) (p : AV) : Option AV :=
  match T t with
  | none => none
  | some i =>
    if isAggT i.und then (readN M H p i.size).map .agg
    else match readN M H p 1 with
      | some [v] => some v
      | _ => none

def storeA (T : Tab) (H : Heap) (t : TypeId) (p v : AV) : Option Heap :=
  match T t, p with
  | some i, .ptr b e off =>
    match H[b]? with
    | some (.c cells elem ep _) =>
      if e = ep ∧ (cellsOf v).length = i.size ∧ off + (cellsOf v).length ≤ cells.length ∧ (cellsOf v).all isCell = true then
        some (H.set b (.c (setAll cells off (cellsOf v)) elem ep ep))
      else none
    | _ => none
  | _, _ => none

def newA (H : Heap) (elem : TypeId) (cells : List AV) : Option (AV × Heap) :=
  if cells.length ≠ 0 ∧ cells.all isCell = true then some (.ptr H.length 0 0, H ++ [.c cells elem 0 0]) else none

def fillA (place : Nat → Option (Nat × Nat)) (cells : List AV) : List (Nat × AV) → Option (List AV)
  | [] => some cells
  | (i, v) :: rest =>
    match place i with
    | none => none
    | some (off, size) =>
      if (cellsOf v).length = size ∧ off + size ≤ cells.length ∧ (cellsOf v).all isCell = true then fillA place (setAll cells off (cellsOf v)) rest else none

/-- n times the cells of a zero. -/
def zerosA (zs : List AV) (n : Nat) : List AV :=
  match zs with
  | [z] => List.replicate n z
  | _ => (List.range (n * zs.length)).map fun i => zs.getD (i % zs.length) (.tup [])

def buildA (T : Tab) (t : TypeId) (parts : List (Nat × AV)) : Option AV :=
  match T t with
  | none => none
  | some i =>
    match i.und with
    | .struct fs =>
      match fs.toList.mapM fun f => (T f.type).map fun j => (f.offset, j.size) with
      | none => none
      | some places => (fillA (fun k => places[k]?) (cellsOf (absC i.zero)) parts).map .agg
    | .array _ e =>
      match T e with
      | none => none
      | some j => (fillA (fun k => some (k * j.size, j.size)) (cellsOf (absC i.zero)) parts).map .agg
    | _ => none

def buildSliceA (T : Tab) (H : Heap) (t : TypeId) (len : Nat) (parts : List (Nat × AV)) : Option (AV × Heap) :=
  match T t with
  | none => none
  | some i =>
    match i.und with
    | .slice e =>
      match T e with
      | none => none
      | some j =>
        if len * j.size ≤ 16777216 then
          match fillA (fun k => some (k * j.size, j.size)) (zerosA (cellsOf (absC j.zero)) len) parts with
          | some cells => if cells.all isCell = true ∧ cells.length = len * j.size ∧ (cellsOf (absC j.zero)).length = j.size ∧ j.size ≠ 0 then some (.slice H.length 0 0 j.size len (some len), H ++ [.c cells e 0 0]) else none
          | none => none
        else none
    | _ => none

def makeSliceA (T : Tab) (H : Heap) (t : TypeId) (len cap : AV) : Option (AV × Heap) :=
  match T t, len, cap with
  | some i, .int _ l, .int _ c =>
    match i.und with
    | .slice e =>
      match T e with
      | none => none
      | some j =>
        if 0 ≤ l ∧ l ≤ c ∧ c ≤ 9223372036854775807 ∧ (j.bytes : Int) * c ≤ 281474976710656 ∧ j.size ≠ 0 ∧ (cellsOf (absC j.zero)).length = j.size ∧ (cellsOf (absC j.zero)).all isCell = true then
          some (.slice H.length 0 0 j.size l.toNat (some c.toNat), H ++ [.c (zerosA (cellsOf (absC j.zero)) c.toNat) e 0 0])
        else none
    | _ => none
  | _, _, _ => none

/-- A bound of a slice expression: d where none stands, else at most top. -/
def bndA (x : Option AV) (d top : Nat) : Option Nat :=
  match x with
  | none => some d
  | some (.int _ i) => if 0 ≤ i ∧ i ≤ top then some i.toNat else none
  | _ => none

/-- The bounds of a slice expression: low, high, max. -/
def boundsA (len cap : Nat) (lo hi mx : Option AV) : Option (Nat × Nat × Nat) :=
  match bndA mx cap cap with
  | none => none
  | some m =>
    if mx.isSome = true ∧ hi.isNone = true then none else
    match bndA hi len m with
    | none => none
    | some h =>
      match bndA lo 0 h with
      | none => none
      | some l => some (l, h, m)

def sliceA (T : Tab) (H : Heap) (t : TypeId) (x : AV) (lo hi mx : Option AV) : Option AV :=
  match T t with
  | none => none
  | some i =>
    match i.und, x with
    | .string, .str s => if mx.isSome then none else (boundsA s.length s.length lo hi none).map fun (l, h, _) => .str ((s.take h).drop l)
    | .slice e, .nilslice =>
      match T e, boundsA 0 0 lo hi mx with
      | some _, some (l, h, m) => if l = 0 ∧ h = 0 ∧ m = 0 then some .nilslice else none
      | _, _ => none
    | .slice e, .slice b ep off sz len (some cap) =>
      match T e with
      | some j => if j.size = sz then
        (match boundsA len cap lo hi mx with
         | some (l, h, m) => if h ≤ len then some (.slice b ep (off + l * sz) sz (h - l) (some (m - l))) else none
         | none => none)
        else none
      | none => none
    | .slice e, .slice b ep off sz len none =>
      match T e with
      | some j => if j.size = sz then (boundsA len len lo hi mx).map fun (l, h, m) => .slice b ep (off + l * sz) sz (h - l) (if mx.isSome then some (m - l) else none) else none
      | none => none
    | .slice e, .oslice a len cap =>
      match T e with
      | some j => (boundsA len cap lo hi mx).map fun (l, h, m) => .oslice (if m = l then a else a.add (l * j.size)) (h - l) (m - l)
      | none => none
    | .array n e, .ptr b ep off =>
      match T e with
      | some j =>
        match boundsA n n lo hi mx with
        | some (l, h, m) =>
          match H[b]? with
          | some (.c cells _ ep' _) => if ep = ep' ∧ off + n * j.size ≤ cells.length then some (.slice b ep (off + l * j.size) j.size (h - l) (some (m - l))) else none
          | _ => none
        | none => none
      | none => none
    | _, _ => none

/-- Does a place lie in the block's present epoch? -/
def ptrOK (H : Heap) (b e off : Nat) : Bool :=
  match H[b]? with
  | some (.c cells _ ep _) => decide (e = ep) && decide (off < cells.length)
  | _ => false

def fieldAddrA (T : Tab) (H : Heap) (s : TypeId) (p : AV) (f : Nat) : Option AV :=
  match T s with
  | none => none
  | some i =>
    match i.und with
    | .struct fs =>
      match fs[f]? with
      | none => none
      | some fd =>
        match T fd.type with
        | none => none
        | some j => if j.size = 0 then none else
          match p with
          | .ptr b e off => if ptrOK H b e (off + fd.offset) then some (.ptr b e (off + fd.offset)) else none
          | .optr a => some (.optr (a.add fd.offset))
          | _ => none
    | _ => none

def fieldA (T : Tab) (s : TypeId) (x : AV) (f : Nat) : Option AV :=
  match T s, x with
  | some i, .agg cs =>
    match i.und with
    | .struct fs => match fs[f]? with
      | some fd => partA T fd.type cs fd.offset
      | none => none
    | _ => none
  | _, _ => none

def indexAddrA (T : Tab) (H : Heap) (t : TypeId) (x ix : AV) : Option AV :=
  match T t, ix with
  | some i, .int _ n =>
    match i.und with
    | .array len e =>
      match T e with
      | none => none
      | some j => if j.size ≠ 0 ∧ 0 ≤ n ∧ n < len then
          match x with
          | .ptr b ep off => if ptrOK H b ep (off + n.toNat * j.size) then some (.ptr b ep (off + n.toNat * j.size)) else none
          | .optr a => some (.optr (a.add (n.toNat * j.size)))
          | _ => none
        else none
    | .slice e =>
      match T e with
      | none => none
      | some j =>
        match x with
        | .slice b ep off sz len _ => if j.size = sz ∧ sz ≠ 0 ∧ 0 ≤ n ∧ n < len then some (.ptr b ep (off + n.toNat * sz)) else none
        | .oslice a len _ => if 0 ≤ n ∧ n < len then some (.optr (a.add (n.toNat * j.size))) else none
        | _ => none
    | _ => none
  | _, _ => none

def indexA (T : Tab) (t : TypeId) (x ix : AV) : Option AV :=
  match T t, ix with
  | some i, .int _ n =>
    match i.und, x with
    | .array len e, .agg cs =>
      match T e with
      | none => none
      | some j => if 0 ≤ n ∧ n < len then partA T e cs (n.toNat * j.size) else none
    | .string, .str s => if 0 ≤ n then (s[n.toNat]?).map fun b => .int .u8 b.toNat else none
    | _, _ => none
  | _, _ => none

def extractA (x : AV) (i : Nat) : Option AV :=
  match x with
  | .tup l => l[i]?
  | _ => none

def bytesOf : List AV → Option (List UInt8)
  | [] => some []
  | .int .u8 n :: r => (bytesOf r).map fun l => UInt8.ofNat n.toNat :: l
  | _ => none

def convA (T : Tab) (M : Addr → Option AV) (H : Heap) (src dst : TypeId) (x : AV) : Option (AV × Heap) :=
  match T src, T dst with
  | some i, some j =>
    match i.und, j.und, x with
    | _, .int k, .int _ n => some (.int k (k.wrap n), H)
    | _, .float k, .int _ n => some (.float k (k.nearest n), H)
    | _, .int k, .float s b =>
      match (s.decode b).toInt .zero with
      | some n => if k.min ≤ n ∧ n ≤ k.max then some (.int k n, H) else none
      | none => none
    | _, .float k, .float s b =>
      if s = k then some (.float k b, H) else
      match s.decode b with
      | .nan _ _ => some (.float k (aNaN k), H)
      | .infinity g => some (.float k (k.encode (.infinity g)), H)
      | .number g m e => if (k.decode (k.encode (.number g m e))).isInfinity then none else some (.float k (k.encode (.number g m e)), H)
    | _, .string, .int _ n => some (.str (Utf8.encode n).data.toList, H)
    | _, .string, .str s => some (.str s, H)
    | .slice _, .slice e, .slice b ep off sz len cap =>
      match T e with
      | some ie => match ie.und with
        | .int .u8 => if src = dst then
            (match H[b]? with
             | some (.c _ _ _ sep) => if sep ≤ ep then some (.slice b ep off sz len cap, H) else none
             | _ => none)
            else none
        | _ => none
      | none => none
    | _, .slice e, .str s =>
      match T e with
      | some ie => match ie.und with
        | .int .u8 => if s.length < 9223372036854775808 then some (.slice H.length 0 0 1 s.length none, H ++ [.c (s.map fun b => .int .u8 b.toNat) e 0 0]) else none
        | _ => none
      | none => none
    | .slice e, .string, x =>
      match T e with
      | some ie => match ie.und, x with
        | .int .u8, .nilslice => some (.str [], H)
        | .int .u8, x => match sliceCells M H x 1 with
          | some cs => (bytesOf cs).map fun l => (.str l, H)
          | none => none
        | _, _ => none
      | none => none
    | _, _, _ => none
  | _, _ => none

def isIntT : TypeDesc → Bool
  | .int _ => true
  | _ => false

/-- append: 'new' the cells of what is appended, n elements. -/
def appendA (T : Tab) (M : Addr → Option AV) (H : Heap) (ts : List TypeId) (s x : AV) : Option (AV × Heap) :=
  match ts with
  | t :: t2 :: _ =>
    match T t, T t2 with
    | some i, some i2 =>
      if isIntT i2.und = true then none else
      match i.und with
      | .slice e =>
        match T e with
        | none => none
        | some j =>
          match lenA x, sliceCells M H x j.size with
          | some n, some new =>
            if j.size = 0 ∨ j.bytes = 0 ∨ (cellsOf (absC j.zero)).length ≠ j.size ∨ new.all isCell ≠ true ∨ new.length ≠ n * j.size then none else
            if n = 0 then
              (match s with
               | .nilslice => some (.nilslice, H)
               | .slice b ep off sz len cap => some (.slice b ep off sz len cap, H)
               | .oslice a len cap => if len ≤ cap then some (.oslice a len cap, H) else none
               | _ => none)
            else
            match s with
            | .nilslice => if n * j.bytes ≤ 140737488355328 then some (.slice H.length 0 0 j.size n none, H ++ [.c new e 0 0]) else none
            | .slice b ep off sz len (some cap) =>
              if sz ≠ j.size then none else
              match H[b]? with
              | some (.c cells el ep' _) =>
                if len + n ≤ cap then
                  (if ep = ep' ∧ off + (len + n) * sz ≤ cells.length then some (.slice b ep off sz (len + n) (some cap), H.set b (.c (setAll cells (off + len * sz) new) el ep' ep')) else none)
                else (match sliceCells M H (.slice b ep off sz len (some cap)) j.size with
                | some old => if old.length = len * j.size ∧ old.all isCell = true ∧ (len + n) * j.bytes ≤ 140737488355328 then
                    some (.slice H.length 0 0 j.size (len + n) none, H ++ [.c (old ++ new) e 0 0]) else none
                | none => none)
              | _ => none
            | .slice b ep off sz len none =>
              if sz ≠ j.size ∨ off ≠ 0 then none else
              match H[b]? with
              | some (.c cells el ep' sep') =>
                if sep' ≤ ep ∧ el = e ∧ len * sz ≤ cells.length ∧ (len + n) * j.bytes ≤ 140737488355328 then
                  some (.slice b (ep' + 1) 0 sz (len + n) none,
                    H.set b (.c (cells.take (len * sz) ++ new) el (ep' + 1) (if ep = ep' ∧ len * sz = cells.length then sep' else ep' + 1)))
                else none
              | _ => none
            | .oslice a len cap =>
              match sliceCells M H (.oslice a len cap) j.size with
              | some old => if cap < len + n ∧ old.length = len * j.size ∧ old.all isCell = true ∧ (len + n) * j.bytes ≤ 140737488355328 then
                  some (.slice H.length 0 0 j.size (len + n) none, H ++ [.c (old ++ new) e 0 0]) else none
              | none => none
            | _ => none
          | _, _ => none
      | _ => none
    | _, _ => none
  | _ => none

def copyA (T : Tab) (M : Addr → Option AV) (H : Heap) (ts : List TypeId) (d x : AV) : Option (AV × Heap) :=
  match ts with
  | t :: _ =>
    match T t with
    | some i =>
      match i.und with
      | .slice e =>
        match T e with
        | none => none
        | some j =>
          match lenA d, lenA x, sliceCells M H x j.size with
          | some m, some n, some new =>
            if j.size = 0 ∨ new.all isCell ≠ true ∨ new.length ≠ n * j.size then none else
            if min n m = 0 then (match d with | .nilslice | .slice _ _ _ _ _ _ => some (.int .i64 0, H) | _ => none) else
            match d with
            | .slice b ep off sz len _ =>
              if sz ≠ j.size then none else
              match H[b]? with
              | some (.c cells el ep' _) =>
                if ep = ep' ∧ off + len * sz ≤ cells.length then
                  some (.int .i64 (min n m : Nat), H.set b (.c (setAll cells off (new.take (min n m * sz))) el ep' ep'))
                else none
              | _ => none
            | _ => none
          | _, _, _ => none
      | _ => none
    | none => none
  | _ => none

def min2A (x y : AV) : Option AV :=
  match x, y with
  | .int k a, .int k' b => if k = k' then some (.int k (if b < a then b else a)) else none
  | _, _ => none
def max2A (x y : AV) : Option AV :=
  match x, y with
  | .int k a, .int k' b => if k = k' then some (.int k (if b > a then b else a)) else none
  | _, _ => none

def lenB (T : Tab) (ts : List TypeId) (x : AV) : Option AV :=
  match ts with
  | t :: _ =>
    match T t with
    | some i =>
      match i.und, x with
      | .array n _, _ => some (.int .i64 n)
      | .string, .str s => some (.int .i64 s.length)
      | .slice _, x => match x with
        | .nilslice => some (.int .i64 0)
        | .slice _ _ _ _ len _ => some (.int .i64 len)
        | .oslice _ len _ => some (.int .i64 len)
        | _ => none
      | _, _ => none
    | none => none
  | _ => none

def capB (T : Tab) (ts : List TypeId) (x : AV) : Option AV :=
  match ts with
  | t :: _ =>
    match T t with
    | some i =>
      match i.und, x with
      | .slice _, .nilslice => some (.int .i64 0)
      | .slice _, .slice _ _ _ _ _ (some c) => some (.int .i64 c)
      | .slice _, .oslice _ _ c => some (.int .i64 c)
      | _, _ => none
    | none => none
  | _ => none

def biA (T : Tab) (M : Addr → Option AV) (b : Builtin) (ts : List TypeId) (args : List AV) (H : Heap) : Option (AV × Heap) :=
  match b, args with
  | .append, [s, x] => appendA T M H ts s x
  | .copy, [d, x] => copyA T M H ts d x
  | .len, [x] => (lenB T ts x).map fun v => (v, H)
  | .cap, [x] => (capB T ts x).map fun v => (v, H)
  | .min, x :: r => (r.foldlM min2A x).map fun v => (v, H)
  | .max, x :: r => (r.foldlM max2A x).map fun v => (v, H)
  | .real, [.cplx k a _] => some (.float k a, H)
  | .imag, [.cplx k _ b] => some (.float k b, H)
  | .complex, [.float k a, .float k' b] => if k = k' then some (.cplx k a b, H) else none
  | _, _ => none

def rangeA (T : Tab) (H : Heap) (t : TypeId) (x : AV) : Option (AV × Heap) :=
  match T t, x with
  | some i, .str s => match i.und with
    | .string => some (.ptr H.length 0 0, H ++ [.it s 0])
    | _ => none
  | _, _ => none

def decodeA (s : List UInt8) (i : Nat) : Nat × Nat := Utf8.decode ⟨⟨s⟩⟩ i

def nextA (H : Heap) (p : AV) : Option (AV × Heap) :=
  match p with
  | .ptr b 0 0 =>
    match H[b]? with
    | some (.it s pos) =>
      if pos < s.length then
        some (.tup [.bool true, .int .i64 pos, .int .i32 (decodeA s pos).1], H.set b (.it s (pos + (decodeA s pos).2)))
      else some (.tup [.bool false], H)
    | _ => none
  | _ => none

/-- One operation, but for calls of functions. -/
def evOp (T : Tab) (M : Addr → Option AV) (o : Op) (ρ : Operand → AV) (H : Heap) : Option (AV × Heap) :=
  match o with
  | .move x => some (ρ x, H)
  | .assign x => some (ρ x, H)
  | .pick c a b => match ρ c with
    | .bool true => some (ρ a, H)
    | .bool false => some (ρ b, H)
    | _ => none
  | .alloc t => match T t with
    | some i => newA H t (cellsOf (absC i.zero))
    | none => none
  | .box t x => newA H t (cellsOf (ρ x))
  | .build t parts => (buildA T t (parts.toList.map fun p => (p.1, ρ p.2))).map fun v => (v, H)
  | .buildSlice t len parts => buildSliceA T H t len (parts.toList.map fun p => (p.1, ρ p.2))
  | .load t p => (loadA T M H t (ρ p)).map fun v => (v, H)
  | .store t p x => (storeA T H t (ρ p) (ρ x)).map fun H' => (.tup [], H')
  | .nilCheck x => match ρ x with
    | .ptr b e o => some (.ptr b e o, H)
    | .optr a => some (.optr a, H)
    | _ => none
  | .binOp op t x y _ => (binA T op t x y (ρ x) (ρ y)).map fun v => (v, H)
  | .unOp op _ x => (unA op (ρ x)).map fun v => (v, H)
  | .convert s d x => convA T M H s d (ρ x)
  | .makeInterface t x => match T t with
    | some i => match i.und with
      | .interface _ => none
      | _ => some (.iface t (ρ x), H)
    | none => none
  | .makeSlice t l c => makeSliceA T H t (ρ l) (ρ c)
  | .slice t x lo hi mx => (sliceA T H t (ρ x) (lo.map ρ) (hi.map ρ) (mx.map ρ)).map fun v => (v, H)
  | .fieldAddr s x f => (fieldAddrA T H s (ρ x) f).map fun v => (v, H)
  | .field s x f => (fieldA T s (ρ x) f).map fun v => (v, H)
  | .indexAddr t x i => (indexAddrA T H t (ρ x) (ρ i)).map fun v => (v, H)
  | .index t x i => (indexA T t (ρ x) (ρ i)).map fun v => (v, H)
  | .extract x i => (extractA (ρ x) i).map fun v => (v, H)
  | .range t x => rangeA T H t (ρ x)
  | .next it isString => if isString then nextA H (ρ it) else none
  | .call { callee := .builtin b, args, argTypes } => biA T M b argTypes.toList (args.toList.map ρ) H
  | _ => none

end Go.Proofs.YtnmignkabcblgaaDoor.E
