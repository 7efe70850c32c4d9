/- Abstract values, rows, operations and their steps: plain definitions, no program in sight. -/
import Derived.Below
import Derived.Calls
import Derived.Orders
namespace Go.Abs

/-- What is known of a value. -/
inductive AV where
  | sc (v : Value)
  | any
  | im (sz : Nat) (d : AV) (es : List AV)
  | ip (sz : Nat) (d : AV) (es : List AV) (i off : Nat)
  | sl (b len : Nat)
  | pt (b len i off : Nat)
  | zc
  | agg (cs : List AV)
  | tup (vs : List AV)
  | fn (f : Fn) (first caps : List AV)
  | ifc (t : TypeId) (v : AV)
  | mp (b : Nat)
  | ab
  | sv (b len lo n : Nat)
  deriving Inhabited

/-- A row of memory of the call's own: the elements that it holds. -/
inductive Blk where
  | row (e : TypeId) (sz : Nat) (d : AV) (es : List AV)
  deriving Inhabited

abbrev Fr := List (Nat × AV)
abbrev Hp := List (Nat × Option Blk)

def getF : Fr → Nat → AV
  | [], _ => .any
  | (d, v) :: r, t => if t = d then v else getF r t
def getH : Hp → Nat → Option Blk
  | [], _ => none
  | (d, v) :: r, b => if b = d then v else getH r b
def putF (fr : Fr) (d : Option Nat) (v : AV) : Fr :=
  match d with
  | some d => (d, v) :: fr
  | none => fr
def putH (H : Hp) : Option (Nat × Blk) → Hp
  | some (b, k) => (b, some k) :: H
  | none => H

inductive Opd where
  | t (n : Nat)
  | c (v : Value)
  | f (n : FuncId)
  deriving Inhabited

def ev (fr : Fr) : Opd → AV
  | .t n => getF fr n
  | .c v => .sc v
  | .f n => .fn (.func n) [] []

def evP (fr : Fr) : List (Nat × Nat × Opd) → List (Nat × Nat × AV)
  | [] => []
  | (i, j, x) :: r => (i, j, ev fr x) :: evP fr r
def evQ (fr : Fr) : List (Nat × Opd) → List (Nat × AV)
  | [] => []
  | (i, x) :: r => (i, ev fr x) :: evQ fr r
def evL (fr : Fr) : List Opd → List AV
  | [] => []
  | x :: r => ev fr x :: evL fr r

/-- The kind of a cell that is compared. -/
inductive LK where
  | i
  | b
  | s
  deriving Inhabited

inductive LOp where
  | mv (x : Opd)
  | pick (c a b : Opd)
  | alloc (e : TypeId) (sz : Nat) (ag : Bool) (z : List Value)
  | box (e : TypeId) (sz : Nat) (ag : Bool) (x : Opd)
  | bld (z : List Value) (parts : List (Nat × Nat × Opd))
  | bsl (e : TypeId) (sz : Nat) (ag : Bool) (z : List Value) (n : Nat) (parts : List (Nat × Opd))
  | ld (ag : Bool) (k : Nat) (x : Opd)
  | st (ag : Bool) (k : Nat) (x y : Opd)
  | nck (x : Opd)
  | bin (op : BinOp) (x y : Opd)
  | eqb (neg : Bool) (x y : Opd)
  | eqstr (neg : Bool) (x y : Opd)
  | un (op : UnOp) (x : Opd)
  | cvt (k : IntKind) (x : Opd)
  | fa (off : Nat) (x : Opd)
  | ia (k : Nat) (n : Option Nat) (x i : Opd)
  | fld (off k : Nat) (ag : Bool) (x : Opd)
  | ix (k : Nat) (ag : Bool) (n : Nat) (x i : Opd)
  | mks (e : TypeId) (sz bytes : Nat) (ag : Bool) (z : List Value) (l c : Opd)
  | ext (i : Nat) (x : Opd)
  | mkf (f : Fn) (first caps : List Opd)
  | mki (t : TypeId) (x : Opd)
  | len (x : Opd)
  | lens (x : Opd)
  | ixs (x i : Opd)
  | app (e : TypeId) (sz bytes : Nat) (ag : Bool) (z : List Value) (s x : Opd)
  | nilp (neg : Bool) (x : Opd)
  | nils (neg : Bool) (x : Opd)
  | eqs (neg : Bool) (ks : List LK) (x y : Opd)
  | slc (sz : Nat) (x : Opd) (lo hi : Option Opd)
  | cpy (sz : Nat) (x y : Opd)
  | call (f : Opd) (args : List Opd)
  deriving Inhabited

/-- A value of one cell. -/
def one : AV → Bool
  | .sc u => u.oneCell'
  | .any => false
  | .agg _ => false
  | .tup _ => false
  | _ => true

def allOne : List AV → Bool
  | [] => true
  | a :: r => one a && allOne r

/-- The cells of a value that is stored. -/
def cellsOf : AV → Option (List AV)
  | .agg cs => if allOne cs then some cs else none
  | x => if one x then some [x] else none

def isAg : AV → Bool
  | .agg _ => true
  | _ => false

def zav (ag : Bool) (z : List Value) : AV :=
  if ag then .agg (z.map .sc) else match z with
    | [v] => .sc v
    | _ => .any

/-- A value fits a variable of so many cells. -/
def fits (ag : Bool) (sz : Nat) (x : AV) : Bool :=
  match x with
  | .agg cs => ag && cs.length == sz && allOne cs
  | x => !ag && sz == 1 && one x

def pickA (t : Bool) (a b : AV) : AV :=
  match a, b with
  | .sc (.bool p), .sc (.bool q) => .sc (.bool (if t then p else q))
  | a, b => if t then a else b

def spl (cells : List AV) (off : Nat) (vs : List AV) : List AV := cells.take off ++ vs ++ cells.drop (off + vs.length)

def fillA (cells : List AV) : List (Nat × Nat × AV) → Option (List AV)
  | [] => some cells
  | (off, sz, x) :: rest =>
    match cellsOf x with
    | some cs => if cs.length = sz ∧ off + sz ≤ cells.length then fillA (spl cells off cs) rest else none
    | none => none

/-- A load of k cells at 'off' of an element of sz cells. -/
def ldE (ag : Bool) (k : Nat) (e : AV) (sz off : Nat) : Option AV :=
  if ag then
    if off = 0 ∧ k = sz then (match e with | .agg cs => some (.agg cs) | _ => none)
    else match e with
      | .agg cs => if off + k ≤ cs.length then some (.agg ((cs.drop off).take k)) else none
      | _ => none
  else match e with
    | .agg cs => some (cs.getD off .any)
    | .any => some .any
    | e => if one e then some e else none

/-- A store into an element. -/
def stE (ag : Bool) (k : Nat) (e y : AV) (sz off : Nat) : Option AV :=
  match ag, e, y with
  | true, .agg cells, .agg ys => if ys.length = k ∧ allOne ys = true then
      (if off = 0 ∧ k = sz then some (.agg ys) else if off + k ≤ cells.length then some (.agg (spl cells off ys)) else none) else none
  | true, _, _ => none
  | false, .agg cells, y => if one y then some (.agg (cells.set off y)) else none
  | false, _, y => if one y ∧ sz = 1 then some y else none

def lenA (H : Hp) : AV → Option Nat
  | .im _ _ es => some es.length
  | .sl b len => match getH H b with
    | some (.row _ _ _ es) => if es.length = len then some len else none
    | none => none
  | .sc (.slice none 0 0) => some 0
  | .zc => some 0
  | .sv _ _ _ n => some n
  | _ => none

/-- The element behind an address: its size, itself, and the cell. -/
def lookA (H : Hp) : AV → Option (Nat × AV × Nat)
  | .ip sz d es i off => some (sz, es.getD i d, off)
  | .pt b len i off => match getH H b with
    | some (.row _ sz d es) => if es.length = len then some (sz, es.getD i d, off) else none
    | none => none
  | _ => none

def intA : AV → Option Int
  | .sc (.int _ n) => some n
  | _ => none

def iaA (H : Hp) (k : Nat) (n : Option Nat) (x i : AV) : Option AV :=
  match i with
  | .sc (.int _ j) =>
    match n with
    | none => match x with
      | .im sz d es => if k = sz ∧ 0 ≤ j ∧ j < es.length then some (.ip sz d es j.toNat 0) else none
      | .sl b len => match getH H b with
        | some (.row _ sz _ es) => if es.length = len ∧ k = sz ∧ 0 ≤ j ∧ j < len then some (.pt b len j.toNat 0) else none
        | none => none
      | .sv b len lo m => match getH H b with
        | some (.row _ sz _ es) => if es.length = len ∧ k = sz ∧ 0 ≤ j ∧ j < m then some (.pt b len (lo + j.toNat) 0) else none
        | none => none
      | _ => none
    | some m => match x with
      | .ip sz d es i off => if off + m * k ≤ sz ∧ 0 ≤ j ∧ j < m then some (.ip sz d es i (off + j.toNat * k)) else none
      | .pt b len i off => match getH H b with
        | some (.row _ sz _ es) => if es.length = len ∧ off + m * k ≤ sz ∧ 0 ≤ j ∧ j < m then some (.pt b len i (off + j.toNat * k)) else none
        | none => none
      | _ => none
  | _ => none

def binA (op : BinOp) (x y : AV) : Option AV :=
  match op, x, y with
  | .add, .sc (.int k a), .sc (.int k' b) => if k = k' then some (.sc (.int k (k.wrap (a + b)))) else none
  | .sub, .sc (.int k a), .sc (.int k' b) => if k = k' then some (.sc (.int k (k.wrap (a - b)))) else none
  | .mul, .sc (.int k a), .sc (.int k' b) => if k = k' then some (.sc (.int k (k.wrap (a * b)))) else none
  | .eql, .sc (.int k a), .sc (.int k' b) => if k = k' then some (.sc (.bool (decide (a = b)))) else none
  | .neq, .sc (.int k a), .sc (.int k' b) => if k = k' then some (.sc (.bool (decide (a ≠ b)))) else none
  | .lss, .sc (.int k a), .sc (.int k' b) => if k = k' then some (.sc (.bool (decide (a < b)))) else none
  | .leq, .sc (.int k a), .sc (.int k' b) => if k = k' then some (.sc (.bool (decide (a ≤ b)))) else none
  | .gtr, .sc (.int k a), .sc (.int k' b) => if k = k' then some (.sc (.bool (decide (b < a)))) else none
  | .geq, .sc (.int k a), .sc (.int k' b) => if k = k' then some (.sc (.bool (decide (b ≤ a)))) else none
  | .quo, .sc (.int k a), .sc (.int k' b) => if k = k' ∧ b ≠ 0 then some (.sc (.int k (k.wrap (a.tdiv b)))) else none
  | .rem, .sc (.int k a), .sc (.int k' b) => if k = k' ∧ b ≠ 0 then some (.sc (.int k (a.tmod b))) else none
  | .and, .sc (.int k a), .sc (.int k' b) => if k = k' then some (.sc (.int k (k.wrap (BitVec.ofInt k.bits a &&& BitVec.ofInt k.bits b).toNat))) else none
  | .or, .sc (.int k a), .sc (.int k' b) => if k = k' then some (.sc (.int k (k.wrap (BitVec.ofInt k.bits a ||| BitVec.ofInt k.bits b).toNat))) else none
  | .xor, .sc (.int k a), .sc (.int k' b) => if k = k' then some (.sc (.int k (k.wrap (BitVec.ofInt k.bits a ^^^ BitVec.ofInt k.bits b).toNat))) else none
  | .andNot, .sc (.int k a), .sc (.int k' b) => if k = k' then some (.sc (.int k (k.wrap (BitVec.ofInt k.bits a &&& ~~~(BitVec.ofInt k.bits b)).toNat))) else none
  | .shl, .sc (.int k a), .sc (.int _ b) => if 0 ≤ b then some (.sc (.int k (k.wrap (a * 2 ^ (min b.toNat k.bits))))) else none
  | .shr, .sc (.int k a), .sc (.int _ b) => if 0 ≤ b then some (.sc (.int k (a.fdiv (2 ^ (min b.toNat k.bits))))) else none
  | _, _, _ => none

def unA (op : UnOp) (x : AV) : Option AV :=
  match op, x with
  | .not, .sc (.bool b) => some (.sc (.bool !b))
  | .neg, .sc (.int k n) => some (.sc (.int k (k.wrap (0 - n))))
  | _, _ => none

/-- The elements of a slice that is read, with their size. -/
def elemsA (H : Hp) : AV → Option (List AV)
  | .im _ _ es => some es
  | .sl b len => match getH H b with
    | some (.row _ _ _ es) => if es.length = len then some es else none
    | none => none
  | .sc (.slice none 0 0) => some []
  | .zc => some []
  | .sv b len lo n => match getH H b with
    | some (.row _ _ _ es) => if es.length = len then some ((es.drop lo).take n) else none
    | none => none
  | _ => none
def szA (H : Hp) (k : Nat) : AV → Bool
  | .im sz _ _ => sz == k
  | .sl b _ => match getH H b with
    | some (.row _ sz _ _) => sz == k
    | none => false
  | .sc (.slice none 0 0) => true
  | .zc => true
  | .sv b _ _ _ => match getH H b with
    | some (.row _ sz _ _) => sz == k
    | none => false
  | _ => false

/-- Is a slice nil? Nothing inside: it can't be told. -/
def nilA (H : Hp) : AV → Option (Option Bool)
  | .im _ _ es => match es with
    | [] => some none
    | _ => some (some false)
  | .sl b len => match getH H b with
    | some (.row _ _ _ es) => if es.length = len ∧ 0 < len then some (some false) else some none
    | none => some none
  | .sc (.slice none 0 0) => some (some true)
  | .zc => some none
  | .sv _ _ _ _ => some none
  | _ => none
def tellB (neg : Bool) : Option Bool → AV
  | some t => .sc (.bool (if neg then !t else t))
  | none => .ab
def leafA : LK → AV → AV → Option Bool
  | .i, .sc (.int k a), .sc (.int k' b) => if k = k' then some (decide (a = b)) else none
  | .b, .sc (.bool a), .sc (.bool b) => some (a == b)
  | .s, .sc (.string a), .sc (.string b) => some (a == b)
  | _, _, _ => none
def eqC : List LK → List AV → List AV → Option Bool
  | [], [], [] => some true
  | l :: ls, a :: as, b :: bs => match leafA l a b, eqC ls as bs with
    | some p, some q => some (p && q)
    | _, _ => none
  | _, _, _ => none
def bndA (d : Nat) : Option AV → Option Nat
  | none => some d
  | some (.sc (.int _ j)) => if 0 ≤ j then some j.toNat else none
  | _ => none
def slcA (H : Hp) (sz : Nat) (lo hi : Option AV) : AV → Option AV
  | .im s d es => match bndA 0 lo, bndA es.length hi with
    | some l, some h => if s = sz ∧ l ≤ h ∧ h ≤ es.length then some (.im s d ((es.drop l).take (h - l))) else none
    | _, _ => none
  | .sl b len => match getH H b, bndA 0 lo, bndA len hi with
    | some (.row _ s _ es), some l, some h => if es.length = len ∧ s = sz ∧ l ≤ h ∧ h ≤ len then some (.sv b len l (h - l)) else none
    | _, _, _ => none
  | .sv b len l0 n => match getH H b, bndA 0 lo, bndA n hi with
    | some (.row _ s _ es), some l, some h => if es.length = len ∧ s = sz ∧ l ≤ h ∧ h ≤ n then some (.sv b len (l0 + l) (h - l)) else none
    | _, _, _ => none
  | .sc (.slice none 0 0) => match bndA 0 lo, bndA 0 hi with
    | some l, some h => if l = 0 ∧ h = 0 then some (.sc (.slice none 0 0)) else none
    | _, _ => none
  | _ => none

def maxB : Nat := 140737488355328

def stepL (id : Nat) (fr : Fr) (H : Hp) : LOp → Option (AV × Option (Nat × Blk))
  | .mv x => some (ev fr x, none)
  | .pick c a b => match ev fr c with
    | .sc (.bool t) => some (pickA t (ev fr a) (ev fr b), none)
    | _ => none
  | .alloc e sz ag z => if z.length = sz then some (.pt id 1 0 0, some (id, .row e sz (zav ag z) [zav ag z])) else none
  | .box e sz ag x => if fits ag sz (ev fr x) then some (.pt id 1 0 0, some (id, .row e sz .any [ev fr x])) else none
  | .bld z parts => match fillA (z.map .sc) (evP fr parts) with
    | some cs => some (.agg cs, none)
    | none => none
  | .bsl e sz ag z n parts => if z.length = sz ∧ (evQ fr parts).all (fun p => decide (p.1 < n) && fits ag sz p.2) then
      some (.sl id n, some (id, .row e sz (zav ag z) ((evQ fr parts).foldl (fun l p => l.set p.1 p.2) (List.replicate n (zav ag z))))) else none
  | .ld ag k x => match lookA H (ev fr x) with
    | some (sz, e, off) => (ldE ag k e sz off).map (·, none)
    | none => none
  | .st ag k x y => match ev fr x with
    | .pt b len i off => match getH H b with
      | some (.row e sz d es) => if es.length = len then
          (match stE ag k (es.getD i d) (ev fr y) sz off with
           | some e' => some (.any, some (b, .row e sz d (es.set i e')))
           | none => none) else none
      | none => none
    | _ => none
  | .nck x => match ev fr x with
    | .pt b len i off => some (.pt b len i off, none)
    | .ip sz d es i off => some (.ip sz d es i off, none)
    | .fn (.func f) p q => some (.fn (.func f) p q, none)
    | .ifc t v => some (.ifc t v, none)
    | _ => none
  | .bin op x y => (binA op (ev fr x) (ev fr y)).map (·, none)
  | .eqb neg x y => match ev fr x, ev fr y with
    | .sc (.bool p), .sc (.bool q) => some (.sc (.bool (if neg then p != q else p == q)), none)
    | _, _ => none
  | .eqstr neg x y => match ev fr x, ev fr y with
    | .sc (.string p), .sc (.string q) => some (.sc (.bool (if neg then p != q else p == q)), none)
    | _, _ => none
  | .un op x => (unA op (ev fr x)).map (·, none)
  | .cvt k x => match ev fr x with
    | .sc (.int _ n) => some (.sc (.int k (k.wrap n)), none)
    | _ => none
  | .fa off x => match ev fr x with
    | .ip sz d es i o => if o + off < sz then some (.ip sz d es i (o + off), none) else none
    | .pt b len i o => match getH H b with
      | some (.row _ sz _ es) => if es.length = len ∧ o + off < sz then some (.pt b len i (o + off), none) else none
      | none => none
    | _ => none
  | .ia k n x i => (iaA H k n (ev fr x) (ev fr i)).map (·, none)
  | .fld off k ag x => match ev fr x with
    | .agg cs => if off + k ≤ cs.length then
        (if ag then some (.agg ((cs.drop off).take k), none) else if k = 1 then some (cs.getD off .any, none) else none) else none
    | _ => none
  | .ix k ag n x i => match ev fr x, ev fr i with
    | .agg cs, .sc (.int _ j) => if 0 ≤ j ∧ j < n ∧ n * k = cs.length then
        (if ag then some (.agg ((cs.drop (j.toNat * k)).take k), none) else if k = 1 then some (cs.getD (j.toNat * k) .any, none) else none) else none
    | _, _ => none
  | .ixs x i => match ev fr x, ev fr i with
    | .sc (.string s), .sc (.int _ j) => if 0 ≤ j ∧ j < s.size then some (.sc (.int .u8 (s.data.toList.getD j.toNat 0).toNat), none) else none
    | _, _ => none
  | .lens x => match ev fr x with
    | .sc (.string s) => some (.sc (.int .i64 s.size), none)
    | _ => none
  | .mks e sz bytes ag z l c => match ev fr l, ev fr c with
    | .sc (.int _ n), .sc (.int _ m) => if z.length = sz ∧ 0 ≤ n ∧ n = m ∧ n * bytes ≤ 281474976710656 ∧ n ≤ 9223372036854775807 then
        some (.sl id n.toNat, some (id, .row e sz (zav ag z) (List.replicate n.toNat (zav ag z)))) else none
    | _, _ => none
  | .ext i x => match ev fr x with
    | .tup vs => if i < vs.length then some (vs.getD i .any, none) else none
    | _ => none
  | .mkf f first caps => some (.fn f (evL fr first) (evL fr caps), none)
  | .mki t x => some (.ifc t (ev fr x), none)
  | .len x => match lenA H (ev fr x) with
    | some n => some (.sc (.int .i64 (n : Int)), none)
    | none => none
  | .app e sz bytes ag z s x => match elemsA H (ev fr x) with
    | some xs => if szA H sz (ev fr x) = true ∧ z.length = sz then
        (match ev fr s with
         | .sc (.slice none 0 0) => if xs.length * bytes ≤ maxB then some (.sl id xs.length, some (id, .row e sz (zav ag z) xs)) else none
         | .sl b len => match getH H b with
           | some (.row e' sz' d es) => if es.length = len ∧ e' = e ∧ sz' = sz ∧ (len + xs.length) * bytes ≤ maxB then
               some (.sl b (len + xs.length), some (b, .row e sz d (es ++ xs))) else none
           | none => none
         | _ => none) else none
    | none => none
  | .nilp neg x => match ev fr x with
    | .pt _ _ _ _ => some (.sc (.bool neg), none)
    | .ip _ _ _ _ _ => some (.sc (.bool neg), none)
    | .sc (.pointer none) => some (.sc (.bool !neg), none)
    | _ => none
  | .nils neg x => match nilA H (ev fr x) with
    | some t => some (tellB neg t, none)
    | none => none
  | .eqs neg ks x y => match ev fr x, ev fr y with
    | .agg as, .agg bs => match eqC ks as bs with
      | some t => some (.sc (.bool (if neg then !t else t)), none)
      | none => none
    | _, _ => none
  | .slc sz x lo hi => (slcA H sz (lo.map (ev fr)) (hi.map (ev fr)) (ev fr x)).map (·, none)
  | .cpy sz x y => match ev fr x, elemsA H (ev fr y) with
    | .sl b len, some xs => match getH H b with
      | some (.row e s d es) => if es.length = len ∧ s = sz ∧ szA H sz (ev fr y) = true then
          some (.sc (.int .i64 (Nat.min xs.length len : Nat)), some (b, .row e s d (xs.take (Nat.min xs.length len) ++ es.drop (Nat.min xs.length len)))) else none
      | none => none
    | _, _ => none
  | .call _ _ => none

structure GOp where
  dst : Option Nat
  guard : Option (Nat × Bool)
  op : LOp
  deriving Inhabited

/-- A stretch of a region whose order is drawn: its operations, and the pairs of them that must not touch the same rows. -/
structure Seg where
  ops : List GOp
  ps : List (Nat × Nat)
  deriving Inhabited

inductive LC where
  | skip
  | region (ops : List GOp)
  | drawn (segs : List Seg)
  | seq (a b : LC)
  | cond (c : Opd) (thn els : LC)
  | block (id : Nat) (body : LC)
  | loop (body : LC)
  | exit (id : Nat)
  | ret
  deriving Inhabited
end Go.Abs
