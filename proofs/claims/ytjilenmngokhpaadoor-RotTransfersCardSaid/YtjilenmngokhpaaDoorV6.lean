import Derived.Test.YtjilenmngokhpaaDoorV5
/- What Go's operations do on abstract values. -/
namespace Go.V
open Go

/-! Numbers -/

def AV.num : AV → Option Int
  | .u8 x => some x.toNat
  | .u16 x => some x.toNat
  | .u32 x => some x.toNat
  | .u64 x => some x.toNat
  | .int x => some x
  | _ => none

/-- by how much is shifted -/
def AV.cnt : AV → Option (Prop × Nat)
  | .u8 x => some (True, x.toNat)
  | .u16 x => some (True, x.toNat)
  | .u32 x => some (True, x.toNat)
  | .u64 x => some (True, x.toNat)
  | .int x => some (0 ≤ x, x.toNat)
  | _ => none

def bvOp (op : BinOp) {k : Nat} (x y : BitVec k) : Option (Prop × BitVec k) :=
  match op with
  | .add => some (True, x + y)
  | .sub => some (True, x - y)
  | .mul => some (True, x * y)
  | .and => some (True, x &&& y)
  | .or => some (True, x ||| y)
  | .xor => some (True, x ^^^ y)
  | .andNot => some (True, x &&& ~~~y)
  | .quo => some (y ≠ 0, x / y)
  | .rem => some (y ≠ 0, x % y)
  | _ => none

def bvCmp (op : BinOp) {k : Nat} (x y : BitVec k) : Option Bool :=
  match op with
  | .eql => some (decide (x = y))
  | .neq => some (!decide (x = y))
  | .lss => some (decide (x < y))
  | .leq => some (decide (x ≤ y))
  | .gtr => some (decide (y < x))
  | .geq => some (decide (y ≤ x))
  | _ => none

def bvBin (op : BinOp) {k : Nat} (mk : BitVec k → AV) (x y : BitVec k) : Option (Prop × AV) :=
  match bvOp op x y with
  | some (p, z) => some (p, mk z)
  | none => match bvCmp op x y with
    | some b => some (True, .bool b)
    | none => none

def bvSh (op : BinOp) {k : Nat} (mk : BitVec k → AV) (x : BitVec k) (c : AV) : Option (Prop × AV) :=
  match c.cnt with
  | none => none
  | some (p, n) => match op with
    | .shl => some (p, mk (x <<< n))
    | .shr => some (p, mk (x >>> n))
    | _ => none

def intBin (op : BinOp) (x y : Int) : Option (Prop × AV) :=
  match op with
  | .add => some (InR (x + y), .int (x + y))
  | .sub => some (InR (x - y), .int (x - y))
  | .mul => some (InR (x * y), .int (x * y))
  | .quo => some (y ≠ 0 ∧ InR (x.tdiv y), .int (x.tdiv y))
  | .rem => some (y ≠ 0 ∧ InR (x.tmod y), .int (x.tmod y))
  | .and => some (True, .int (BitVec.ofInt 64 x &&& BitVec.ofInt 64 y).toInt)
  | .or => some (True, .int (BitVec.ofInt 64 x ||| BitVec.ofInt 64 y).toInt)
  | .xor => some (True, .int (BitVec.ofInt 64 x ^^^ BitVec.ofInt 64 y).toInt)
  | .eql => some (True, .bool (decide (x = y)))
  | .neq => some (True, .bool (!decide (x = y)))
  | .lss => some (True, .bool (decide (x < y)))
  | .leq => some (True, .bool (decide (x ≤ y)))
  | .gtr => some (True, .bool (decide (y < x)))
  | .geq => some (True, .bool (decide (y ≤ x)))
  | _ => none

def intSh (op : BinOp) (x : Int) (c : AV) : Option (Prop × AV) :=
  match c.cnt with
  | none => none
  | some (p, n) => match op with
    | .shl => some (p ∧ InR (x * 2 ^ min n 64), .int (x * 2 ^ min n 64))
    | .shr => some (p ∧ InR (x.fdiv (2 ^ min n 64)), .int (x.fdiv (2 ^ min n 64)))
    | _ => none

def isSh : BinOp → Bool
  | .shl | .shr => true
  | _ => false

open Classical in
/-- 'x op y' -/
noncomputable def binAV (op : BinOp) (x y : AV) : Option (Prop × AV) :=
  match x with
  | .u8 a => if isSh op then bvSh op .u8 a y else match y with | .u8 b => bvBin op .u8 a b | _ => none
  | .u16 a => if isSh op then bvSh op .u16 a y else match y with | .u16 b => bvBin op .u16 a b | _ => none
  | .u32 a => if isSh op then bvSh op .u32 a y else match y with | .u32 b => bvBin op .u32 a b | _ => none
  | .u64 a => if isSh op then bvSh op .u64 a y else match y with | .u64 b => bvBin op .u64 a b | _ => none
  | .int a => if isSh op then intSh op a y else match y with | .int b => intBin op a b | _ => none
  | .str a => match y with
    | .str b => match op with
      | .add => some (a.length + b.length ≤ maxLen, .str (a ++ b))
      | .eql => some (True, .bool (decide (a = b)))
      | .neq => some (True, .bool (!decide (a = b)))
      | _ => none
    | _ => none
  | _ => none

def unAV (op : UnOp) (x : AV) : Option (Prop × AV) :=
  match op, x with
  | .not, .bool b => some (True, .bool (!b))
  | .neg, .u8 x => some (True, .u8 (-x))
  | .neg, .u16 x => some (True, .u16 (-x))
  | .neg, .u32 x => some (True, .u32 (-x))
  | .neg, .u64 x => some (True, .u64 (-x))
  | .neg, .int x => some (InR (-x), .int (-x))
  | .xor, .u8 x => some (True, .u8 (~~~x))
  | .xor, .u16 x => some (True, .u16 (~~~x))
  | .xor, .u32 x => some (True, .u32 (~~~x))
  | .xor, .u64 x => some (True, .u64 (~~~x))
  | _, _ => none

/-- a number as one of another kind -/
def cvAV (k : IntKind) (x : AV) : Option AV :=
  match k, x with
  | .u8, .u8 x => some (.u8 x)
  | .u8, .u16 x => some (.u8 (x.setWidth 8))
  | .u8, .u32 x => some (.u8 (x.setWidth 8))
  | .u8, .u64 x => some (.u8 (x.setWidth 8))
  | .u8, .int x => some (.u8 (BitVec.ofInt 8 x))
  | .u16, .u8 x => some (.u16 (x.setWidth 16))
  | .u16, .u16 x => some (.u16 x)
  | .u16, .u32 x => some (.u16 (x.setWidth 16))
  | .u16, .u64 x => some (.u16 (x.setWidth 16))
  | .u16, .int x => some (.u16 (BitVec.ofInt 16 x))
  | .u32, .u8 x => some (.u32 (x.setWidth 32))
  | .u32, .u16 x => some (.u32 (x.setWidth 32))
  | .u32, .u32 x => some (.u32 x)
  | .u32, .u64 x => some (.u32 (x.setWidth 32))
  | .u32, .int x => some (.u32 (BitVec.ofInt 32 x))
  | .u64, .u8 x => some (.u64 (x.setWidth 64))
  | .u64, .u16 x => some (.u64 (x.setWidth 64))
  | .u64, .u32 x => some (.u64 (x.setWidth 64))
  | .u64, .u64 x => some (.u64 x)
  | .u64, .int x => some (.u64 (BitVec.ofInt 64 x))
  | .i64, .u8 x => some (.int x.toNat)
  | .i64, .u16 x => some (.int x.toNat)
  | .i64, .u32 x => some (.int x.toNat)
  | .i64, .u64 x => some (.int x.toInt)
  | .i64, .int x => some (.int x)
  | _, _ => none

/-- the bounds of a slice expression, given or not -/
def bnds (lo hi : Bool) (n : Nat) (r : List AV) : Option (Int × Int) :=
  match lo, hi, r with
  | false, false, [] => some (0, n)
  | true, false, [a] => a.num.map fun (i : Int) => (i, (n : Int))
  | false, true, [b] => b.num.map fun (j : Int) => (0, j)
  | true, true, [a, b] => match a.num, b.num with
    | some i, some j => some (i, j)
    | _, _ => none
  | _, _, _ => none

/-! The quiet operations -/

inductive Q where
  | mv
  | nilc
  | pick
  | bin (op : BinOp)
  | eqB (neg : Bool)
  | eqP (neg : Bool)
  | eqA (neg : Bool) (n : Nat) (k : IntKind)
  | un (op : UnOp)
  | cv (k : IntKind)
  | cs
  | ext (i : Nat)
  | fld (l : List Shape) (f : Nat)
  | idx (n : Nat) (e : Shape)
  | idxS
  | iaA (n : Nat) (e : Shape)
  | iaS (e : Shape)
  | fa (l : List Shape) (f : Nat)
  | ld (s : Shape)
  | lenS
  | len
  | lenA (n : Nat)
  | slS (lo hi : Bool)
  | slV (e : Shape) (lo hi : Bool)
  | slA (n : Nat) (e : Shape) (lo hi : Bool)
  | mkf (f : FuncId)
  | b2s

def bytesOf : List AV → Option (List (BitVec 8))
  | [] => some []
  | .u8 x :: l => (bytesOf l).map (x :: ·)
  | _ => none

def setAll : List AV → List Nat → List AV → Option (List AV)
  | ps, [], [] => some ps
  | ps, i :: ix, v :: vs => if i < ps.length then setAll (ps.set i v) ix vs else none
  | _, _, _ => none

def partsOf : AV → List AV
  | .agg ps => ps
  | _ => []

/-- the shape of what a pointer leads to -/
def psh : AV → Option Shape
  | .ptr _ _ _ s => some s
  | .rp s _ => some s
  | _ => none

def subS : Shape → Nat → Option Shape
  | .arr n e, i => if i < n then some e else none
  | .st l, i => l[i]?
  | .leaf, _ => none

/-- the values have the shapes of the places -/
def HasAt (s : Shape) : List Nat → List AV → Prop
  | [], [] => True
  | i :: ix, v :: vs => (match subS s i with | some t => HasSh t v | none => False) ∧ HasAt s ix vs
  | _, _ => False

def AV.isKind (k : IntKind) (x : AV) : Bool :=
  match k, x with
  | .u8, .u8 _ | .u16, .u16 _ | .u32, .u32 _ | .u64, .u64 _ | .i64, .int _ => true
  | _, _ => false

open Classical in
/-- What a quiet operation comes to: what must hold, and its value. -/
noncomputable def qev (H : Heap) (q : Q) (args : List AV) : Option (Prop × AV) :=
  match q, args with
  | .mv, [a] => some (True, a)
  | .nilc, [.ptr b v pa s] => some (True, .ptr b v pa s)
  | .nilc, [.rp s a] => some (True, .rp s a)
  | .pick, [.bool c, a, b] => some (True, if c then a else b)
  | .bin op, [x, y] => binAV op x y
  | .eqB neg, [.bool a, .bool b] => some (True, .bool (if neg then !(a == b) else a == b))
  | .eqP neg, [.nilp, .nilp] => some (True, .bool (!neg))
  | .eqP neg, [.ptr _ _ _ _, .nilp] => some (True, .bool neg)
  | .eqP neg, [.rp _ _, .nilp] => some (True, .bool neg)
  | .eqA neg n k, [.agg xs, .agg ys] => some (xs.length = n ∧ ys.length = n ∧ (∀ x ∈ xs, x.isKind k = true) ∧ (∀ y ∈ ys, y.isKind k = true), .bool (if neg then !decide (xs = ys) else decide (xs = ys)))
  | .un op, [x] => unAV op x
  | .cv k, [x] => (cvAV k x).map fun y => (True, y)
  | .cs, [.str l] => some (True, .str l)
  | .ext i, [.tup ps] => ps[i]?.map fun p => (True, p)
  | .fld l f, [.agg ps] => ps[f]?.map fun p => (HasShs l ps, p)
  | .idx n e, [.agg ps, i] => i.num.map fun (k : Int) => (0 ≤ k ∧ k < n ∧ HasSh (.arr n e) (.agg ps), ps.getD k.toNat .un)
  | .idxS, [.str l, i] => i.num.map fun (n : Int) => (0 ≤ n ∧ n < l.length, .u8 (l.getD n.toNat 0))
  | .iaA n e, [.ptr b v pa (.arr m e'), i] => i.num.map fun (k : Int) => (0 ≤ k ∧ k < n ∧ m = n ∧ e' = e, .ptr b v (pa ++ [k.toNat]) e)
  | .iaA n e, [.rp (.arr m e') a, i] => i.num.map fun (k : Int) => (0 ≤ k ∧ k < n ∧ m = n ∧ e' = e, .rp e ((partsOf a).getD k.toNat .un))
  | .iaS e, [.ro e' xs, i] => i.num.map fun (k : Int) => (0 ≤ k ∧ k < xs.length ∧ e' = e, .rp e (xs.getD k.toNat .un))
  | .iaS e, [.own b v pa off n e', i] => i.num.map fun (k : Int) => (0 ≤ k ∧ k < n ∧ e' = e, .ptr b v (pa ++ [off + k.toNat]) e)
  | .fa l f, [.ptr b v pa (.st l')] => l[f]?.map fun s => (l' = l, .ptr b v (pa ++ [f]) s)
  | .fa l f, [.rp (.st l') a] => l[f]?.map fun s => (l' = l, .rp s ((partsOf a).getD f .un))
  | .ld s, [p] => (ldP H p).map fun a => (psh p = some s, a)
  | .lenS, [.str l] => some (True, .int l.length)
  | .len, [a] => (slen a).map fun (n : Nat) => (True, .int (n : Int))
  | .lenA n, [_] => some (n ≤ maxLen, .int n)
  | .slS lo hi, .str l :: r => (bnds lo hi l.length r).map fun (ij : Int × Int) => (0 ≤ ij.1 ∧ ij.1 ≤ ij.2 ∧ ij.2 ≤ l.length, .str ((l.drop ij.1.toNat).take (ij.2.toNat - ij.1.toNat)))
  | .slV e lo hi, .ro e' xs :: r => (bnds lo hi xs.length r).map fun (ij : Int × Int) => (0 ≤ ij.1 ∧ ij.1 ≤ ij.2 ∧ ij.2 ≤ xs.length ∧ e' = e, .ro e ((xs.drop ij.1.toNat).take (ij.2.toNat - ij.1.toNat)))
  | .slV e lo hi, .own b v pa off n e' :: r => (bnds lo hi n r).map fun (ij : Int × Int) => (0 ≤ ij.1 ∧ ij.1 ≤ ij.2 ∧ ij.2 ≤ n ∧ e' = e, .own b v pa (off + ij.1.toNat) (ij.2.toNat - ij.1.toNat) e)
  | .slV _ lo hi, .nils :: r => (bnds lo hi 0 r).map fun (ij : Int × Int) => (ij.1 = 0 ∧ ij.2 = 0, .nils)
  | .slA n e lo hi, .ptr b v pa (.arr m e') :: r => (bnds lo hi n r).map fun (ij : Int × Int) => (0 ≤ ij.1 ∧ ij.1 ≤ ij.2 ∧ ij.2 ≤ n ∧ m = n ∧ e' = e ∧ n ≤ maxLen ∧ 0 < pa.length, .own b v pa ij.1.toNat (ij.2.toNat - ij.1.toNat) e)
  | .mkf f, caps => some (∀ c ∈ caps, c.isCell = true, .fn f caps)
  | .b2s, [a] => match rd H a with
    | some xs => (bytesOf xs).map fun l => (True, .str l)
    | none => none
  | _, _ => none

end Go.V
