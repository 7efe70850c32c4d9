import Derived.Below
import Derived.Calls
import Derived.Orders
import Derived.Laws.AppendOwn
import Derived.ProofKit
import Derived.MapKept
import Derived.Laws.BytesString
section
/- Abstract values, rows, operations and their steps: plain definitions, no program in sight. -/
set_option linter.unusedVariables false
namespace Go.cw
inductive AV where
 |sc (v:Value)
 |any
 |im (sz:Nat) (d:AV) (es:List AV)
 |ip (sz:Nat) (d:AV) (es:List AV) (i off:Nat)
 |sl (b len:Nat)
 |pt (b len i off:Nat)
 |zc
 |agg (cs:List AV)
 |dI (vs:List AV)
 |fn (f:Fn) (first caps:List AV)
 |nA (t:TypeId) (v:AV)
 |mp (b:Nat)
 |ab
 |sv (b len lo n:Nat)
 deriving Inhabited
inductive fH where
 |row (e:TypeId) (sz:Nat) (d:AV) (es:List AV)
 deriving Inhabited
abbrev Fr:=List (Nat×AV)
abbrev Hp:=List (Nat×Option fH)
def cq:Fr->Nat->AV
 |[],_=> .any
 |(d,v)::r,t=>if t=d then v else cq r t
def bt:Hp->Nat->Option fH
 |[],_=>none
 |(d,v)::r,b=>if b=d then v else bt r b
def gR (fr:Fr) (d:Option Nat) (v:AV):Fr:=
 match d with
 |some d=>(d,v)::fr
 |none=>fr
def dS (H:Hp):Option (Nat×fH)->Hp
 |some (b,k)=>(b,some k)::H
 |none=>H
inductive eO where
 |t (n:Nat)
 |c (v:Value)
 |f (n:FuncId)
 |m (name:String) (n:Nat)
 deriving Inhabited
def ev (fr:Fr):eO->AV
 | .t n=>cq fr n
 | .c v=> .sc v
 | .f n=> .fn (.func n) [] []
 | .m nm n=>match cq fr n with
  | .nA t v=> .fn (.method nm) [.nA t v] []
  |_=> .any
def SC (fr:Fr):List (Nat×Nat×eO)->List (Nat×Nat×AV)
 |[]=>[]
 |(i,j,x)::r=>(i,j,ev fr x)::SC fr r
def F1 (fr:Fr):List (Nat×eO)->List (Nat×AV)
 |[]=>[]
 |(i,x)::r=>(i,ev fr x)::F1 fr r
def vl (fr:Fr):List eO->List AV
 |[]=>[]
 |x::r=>ev fr x::vl fr r
inductive LK where
 |i
 |b
 |s
 deriving Inhabited
inductive df where
 |mv (x:eO)
 |pick (c a b:eO)
 |alloc (e:TypeId) (sz:Nat) (ag:Bool) (z:List Value)
 |box (e:TypeId) (sz:Nat) (ag:Bool) (x:eO)
 |U8 (z:List Value) (parts:List (Nat×Nat×eO))
 |R8 (e:TypeId) (sz:Nat) (ag:Bool) (z:List Value) (n:Nat) (parts:List (Nat×eO))
 |ld (ag:Bool) (k:Nat) (x:eO)
 |st (ag:Bool) (k:Nat) (x y:eO)
 |UC (x:eO)
 |bin (op:BinOp) (x y:eO)
 |VB (neg:Bool) (x y:eO)
 |wU (neg:Bool) (x y:eO)
 |HB (op:BinOp) (x y:eO)
 |TA (x:eO)
 |K8 (e:TypeId) (bytes:Nat) (d:AV) (s x:eO)
 |PU (sz:Nat) (ag:Bool) (z:List Value) (x:eO)
 |un (op:UnOp) (x:eO)
 |V0 (k:IntKind) (x:eO)
 |fa (off:Nat) (x:eO)
 |ia (k:Nat) (n:Option Nat) (x i:eO)
 |V7 (off k:Nat) (ag:Bool) (x:eO)
 |ix (k:Nat) (ag:Bool) (n:Nat) (x i:eO)
 |T9 (e:TypeId) (sz bytes:Nat) (ag:Bool) (z:List Value) (l c:eO)
 |ext (i:Nat) (x:eO)
 |VF (f:Fn) (first caps:List eO)
 |ZB (t:TypeId) (x:eO)
 |len (x:eO)
 |lens (x:eO)
 |WI (x i:eO)
 |app (e:TypeId) (sz bytes:Nat) (ag:Bool) (z:List Value) (s x:eO)
 |JD (neg:Bool) (x:eO)
 |AW (neg:Bool) (x:eO)
 |eqs (neg:Bool) (ks:List LK) (x y:eO)
 |RI (sz:Nat) (x:eO) (lo hi:Option eO)
 |VI (sz:Nat) (x h m:eO)
 |R6 (e:TypeId) (n:Nat)
 |TW (n:Nat) (x i:eO)
 |UM (n:Nat) (x i:eO)
 |bad
 |P1 (sz:Nat) (x y:eO)
 |call (f:eO) (args:List eO)
 |SQ (kt:TypeId)
 |QU (str ag:Bool) (z:List Value) (ok:Bool) (x k:eO)
 |KT (str:Bool) (x k y:eO)
 |yw (e:TypeId) (sz:Nat) (v:Value)
 |HA (sz:Nat) (v:Value)
 |DO (x:eO)
 |del (str:Bool) (x k:eO)
 |ZN (t:TypeId) (ok ag:Bool) (z:List Value) (x:eO)
 deriving Inhabited
def one:AV->Bool
 | .sc u=>u.oneCell'
 | .any=>false
 | .agg _=>false
 | .dI _=>false
 |_=>true
def jM:List AV->Bool
 |[]=>true
 |a::r=>one a&&jM r
def cellsOf:AV->Option (List AV)
 | .agg cs=>if jM cs then some cs else none
 |x=>if one x then some [x] else none
def gO (ag:Bool) (z:List Value):AV:=
 if ag then .agg (z.map .sc) else match z with
  |[v]=> .sc v
  |_=> .any
def fits (ag:Bool) (sz:Nat) (x:AV):Bool:=
 match x with
 | .agg cs=>ag&&cs.length==sz&&jM cs
 |x=> !ag&&sz==1&&one x
def qa (t:Bool) (a b:AV):AV:=
 match a,b with
 | .sc (.bool p), .sc (.bool q)=> .sc (.bool (if t then p else q))
 |a,b=>if t then a else b
def ZK (cells:List AV) (off:Nat) (vs:List AV):List AV:=cells.take off++vs++cells.drop (off+vs.length)
def sK (cells:List AV):List (Nat×Nat×AV)->Option (List AV)
 |[]=>some cells
 |(off,sz,x)::rest=>
  match cellsOf x with
  |some cs=>if cs.length=sz/\off+sz<=cells.length then sK (ZK cells off cs) rest else none
  |none=>none
def AF (ag:Bool) (k:Nat) (e:AV) (sz off:Nat):Option AV:=
 if ag then
  if off=0/\k=sz then(match e with| .agg cs=>some (.agg cs)|_=>none)
  else match e with
   | .agg cs=>if off+k<=cs.length then some (.agg ((cs.drop off).take k)) else none
   |_=>none
 else match e with
  | .agg cs=>some (cs.getD off .any)
  | .any=>some .any
  |e=>if one e then some e else none
def UP (ag:Bool) (k:Nat) (e y:AV) (sz off:Nat):Option AV:=
 match ag,e,y with
 |true, .agg cells, .agg ys=>if ys.length=k/\jM ys=true then
  (if off=0/\k=sz then some (.agg ys) else if off+k<=cells.length then some (.agg (ZK cells off ys)) else none) else none
 |true,_,_=>none
 |false, .agg cells,y=>if one y then some (.agg (cells.set off y)) else none
 |false,_,y=>if one y/\sz=1 then some y else none
def u9 (H:Hp):AV->Option Nat
 | .im _ _ es=>some es.length
 | .sl b len=>match bt H b with
  |some (.row _ _ _ es)=>if es.length=len then some len else none
  |none=>none
 | .sc (.slice none 0 0)=>some 0
 | .zc=>some 0
 | .sv _ _ _ n=>some n
 |_=>none
def k9 (H:Hp):AV->Option (Nat×AV×Nat)
 | .ip sz d es i off=>some (sz,es.getD i d,off)
 | .pt b len i off=>match bt H b with
  |some (.row _ sz d es)=>if es.length=len then some (sz,es.getD i d,off) else none
  |none=>none
 |_=>none
def KS (H:Hp) (k:Nat) (n:Option Nat) (x i:AV):Option AV:=
 match i with
 | .sc (.int _ j)=>
  match n with
  |none=>match x with
   | .im sz d es=>if k=sz/\0<=j/\j<es.length then some (.ip sz d es j.toNat 0) else none
   | .sl b len=>match bt H b with
    |some (.row _ sz _ es)=>if es.length=len/\k=sz/\0<=j/\j<len then some (.pt b len j.toNat 0) else none
    |none=>none
   | .sv b len lo m=>match bt H b with
    |some (.row _ sz _ es)=>if es.length=len/\k=sz/\0<=j/\j<m then some (.pt b len (lo+j.toNat) 0) else none
    |none=>none
   |_=>none
  |some m=>match x with
   | .ip sz d es i off=>if off+m * k<=sz/\0<=j/\j<m then some (.ip sz d es i (off+j.toNat * k)) else none
   | .pt b len i off=>match bt H b with
    |some (.row _ sz _ es)=>if es.length=len/\off+m * k<=sz/\0<=j/\j<m then some (.pt b len i (off+j.toNat * k)) else none
    |none=>none
   |_=>none
 |_=>none
def G9 (op:BinOp) (x y:AV):Option AV:=
 match op,x,y with
 | .add, .sc (.int k a), .sc (.int k' b)=>if k=k' then some (.sc (.int k (k.wrap (a+b)))) else none
 | .sub, .sc (.int k a), .sc (.int k' b)=>if k=k' then some (.sc (.int k (k.wrap (a - b)))) else none
 | .mul, .sc (.int k a), .sc (.int k' b)=>if k=k' then some (.sc (.int k (k.wrap (a * b)))) else none
 | .eql, .sc (.int k a), .sc (.int k' b)=>if k=k' then some (.sc (.bool (decide (a=b)))) else none
 | .neq, .sc (.int k a), .sc (.int k' b)=>if k=k' then some (.sc (.bool (decide (a≠b)))) else none
 | .lss, .sc (.int k a), .sc (.int k' b)=>if k=k' then some (.sc (.bool (decide (a<b)))) else none
 | .leq, .sc (.int k a), .sc (.int k' b)=>if k=k' then some (.sc (.bool (decide (a<=b)))) else none
 | .gtr, .sc (.int k a), .sc (.int k' b)=>if k=k' then some (.sc (.bool (decide (b<a)))) else none
 | .geq, .sc (.int k a), .sc (.int k' b)=>if k=k' then some (.sc (.bool (decide (b<=a)))) else none
 | .quo, .sc (.int k a), .sc (.int k' b)=>if k=k'/\b≠0 then some (.sc (.int k (k.wrap (a.tdiv b)))) else none
 | .rem, .sc (.int k a), .sc (.int k' b)=>if k=k'/\b≠0 then some (.sc (.int k (a.tmod b))) else none
 | .and, .sc (.int k a), .sc (.int k' b)=>if k=k' then some (.sc (.int k (k.wrap (BitVec.ofInt k.bits a&&& BitVec.ofInt k.bits b).toNat))) else none
 | .or, .sc (.int k a), .sc (.int k' b)=>if k=k' then some (.sc (.int k (k.wrap (BitVec.ofInt k.bits a|||BitVec.ofInt k.bits b).toNat))) else none
 | .xor, .sc (.int k a), .sc (.int k' b)=>if k=k' then some (.sc (.int k (k.wrap (BitVec.ofInt k.bits a^^^BitVec.ofInt k.bits b).toNat))) else none
 | .andNot, .sc (.int k a), .sc (.int k' b)=>if k=k' then some (.sc (.int k (k.wrap (BitVec.ofInt k.bits a&&& ~~~(BitVec.ofInt k.bits b)).toNat))) else none
 | .shl, .sc (.int k a), .sc (.int _ b)=>if 0<=b then some (.sc (.int k (k.wrap (a * 2^(min b.toNat k.bits))))) else none
 | .shr, .sc (.int k a), .sc (.int _ b)=>if 0<=b then some (.sc (.int k (a.fdiv (2^(min b.toNat k.bits))))) else none
 |_,_,_=>none
def ZP (op:UnOp) (x:AV):Option AV:=
 match op,x with
 | .not, .sc (.bool b)=>some (.sc (.bool !b))
 | .neg, .sc (.int k n)=>some (.sc (.int k (k.wrap (0 - n))))
 |_,_=>none
def ic (H:Hp):AV->Option (List AV)
 | .im _ _ es=>some es
 | .sl b len=>match bt H b with
  |some (.row _ _ _ es)=>if es.length=len then some es else none
  |none=>none
 | .sc (.slice none 0 0)=>some []
 | .zc=>some []
 | .sv b len lo n=>match bt H b with
  |some (.row _ _ _ es)=>if es.length=len then some ((es.drop lo).take n) else none
  |none=>none
 |_=>none
def BP (H:Hp) (k:Nat):AV->Bool
 | .im sz _ _=>sz==k
 | .sl b _=>match bt H b with
  |some (.row _ sz _ _)=>sz==k
  |none=>false
 | .sc (.slice none 0 0)=>true
 | .zc=>true
 | .sv b _ _ _=>match bt H b with
  |some (.row _ sz _ _)=>sz==k
  |none=>false
 |_=>false
def uo (H:Hp):AV->Option (Option Bool)
 | .im _ _ es=>match es with
  |[]=>some none
  |_=>some (some false)
 | .sl b len=>match bt H b with
  |some (.row _ _ _ es)=>if es.length=len/\0<len then some (some false) else some none
  |none=>some none
 | .sc (.slice none 0 0)=>some (some true)
 | .zc=>some none
 | .sv _ _ _ _=>some none
 |_=>none
def sd (neg:Bool):Option Bool->AV
 |some t=> .sc (.bool (if neg then !t else t))
 |none=> .ab
def SH:LK->AV->AV->Option Bool
 | .i, .sc (.int k a), .sc (.int k' b)=>if k=k' then some (decide (a=b)) else none
 | .b, .sc (.bool a), .sc (.bool b)=>some (a==b)
 | .s, .sc (.string a), .sc (.string b)=>some (a==b)
 |_,_,_=>none
def L0:List LK->List AV->List AV->Option Bool
 |[],[],[]=>some true
 |l::ls,a::as,b::bs=>match SH l a b,L0 ls as bs with
  |some p,some q=>some (p&&q)
  |_,_=>none
 |_,_,_=>none
def lB (d:Nat):Option AV->Option Nat
 |none=>some d
 |some (.sc (.int _ j))=>if 0<=j then some j.toNat else none
 |_=>none
def vJ (H:Hp) (sz:Nat) (lo hi:Option AV):AV->Option AV
 | .im s d es=>match lB 0 lo,lB es.length hi with
  |some l,some h=>if s=sz/\l<=h/\h<=es.length then some (.im s d ((es.drop l).take (h - l))) else none
  |_,_=>none
 | .sl b len=>match bt H b,lB 0 lo,lB len hi with
  |some (.row _ s _ es),some l,some h=>if es.length=len/\s=sz/\l<=h/\h<=len then some (.sv b len l (h - l)) else none
  |_,_,_=>none
 | .sv b len l0 n=>match bt H b,lB 0 lo,lB n hi with
  |some (.row _ s _ es),some l,some h=>if es.length=len/\s=sz/\l<=h/\h<=n then some (.sv b len (l0+l) (h - l)) else none
  |_,_,_=>none
 | .sc (.slice none 0 0)=>match lB 0 lo,lB 0 hi with
  |some l,some h=>if l=0/\h=0 then some (.sc (.slice none 0 0)) else none
  |_,_=>none
 |_=>none
def J3 (sz:Nat) (h m:AV) (v:AV):Option AV:=match h,m,v with
 | .sc (.int _ i), .sc (.int _ j), .im s d es=>if s=sz/\i=j/\0<=i/\i.toNat<=es.length then some (.im s d (es.take i.toNat)) else none
 |_,_,_=>none
def DG (H:Hp) (n:Nat) (x i:AV):Option AV:=match x,i with
 | .pt b len 0 0, .sc (.int _ j)=>match bt H b with
  |some (.row _ sz _ es)=>if len=n/\es.length=n/\sz=1/\0<=j/\j<n then some (.pt b n j.toNat 0) else none
  |none=>none
 |_,_=>none
def EY (H:Hp) (n:Nat) (x i:AV):Option AV:=match x,i with
 | .pt b len 0 0, .sc (.int _ j)=>match bt H b with
  |some (.row _ sz _ es)=>if len=n/\es.length=n/\sz=1/\0<=j/\j<n then some (.sv b n j.toNat (n - j.toNat)) else none
  |none=>none
 |_,_=>none
def iA:Nat:=175921860444160
def DJ:Bool->Value->Value->Option Bool
 |false, .int k a, .int k' b=>if k=k' then some (decide (a=b)) else none
 |true, .string a, .string b=>some (a==b)
 |_,_,_=>none
def uK:AV->Option (Value×AV)
 | .dI [.sc k,v]=>some (k,v)
 |_=>none
def fG (str:Bool) (k:Value):List AV->Nat->Option (Option (Nat×AV))
 |[],_=>some none
 |a::r,i=>match uK a with
  |some (k',v)=>match DJ str k k' with
   |some true=>some (some (i,v))
   |some false=>fG str k r (i+1)
   |none=>none
  |none=>none
def na (str:Bool) (k:Value) (es:List AV) (z:AV):Option (AV×Bool):=
 match fG str k es 0 with
 |some (some (_,v))=>some (v,true)
 |some none=>some (z,false)
 |none=>none
def qW (str:Bool) (k:Value) (es:List AV) (y:AV):Option (List AV):=
 match fG str k es 0 with
 |some (some (i,_))=>some (es.set i (.dI [.sc k,y]))
 |some none=>some (es++[.dI [.sc k,y]])
 |none=>none
def ZA (str:Bool) (k:Value) (es:List AV):Option (List AV):=
 match fG str k es 0 with
 |some (some (i,_))=>some (es.eraseIdx i)
 |some none=>some es
 |none=>none
def mapA (es:List AV):List AV:=[.dI es]
def og (k:Value) (v:AV):AV:= .dI [.sc k,v]
def mapOf (H:Hp):AV->Option (Nat×TypeId×AV×List AV)
 | .mp b=>match bt H b with
  |some (.row e 0 d [.dI es])=>some (b,e,d,es)
  |_=>none
 |_=>none
def kZ:Bool->Value->Bool
 |false, .int _ _=>true
 |true, .string _=>true
 |_,_=>false
def OS (op:BinOp):AV->AV->Option AV
 | .sc (.string p), .sc (.string q)=>match op with
  | .add=>if p.size+q.size<=9223372036854775807 then some (.sc (.string (p++q))) else none
  | .lss=>some (.sc (.bool (Op.bytesLess p.toList q.toList)))
  |_=>none
 |_,_=>none
def mD:List AV->Option (List Int)
 |[]=>some []
 | .sc (.int .u8 n)::r=>(mD r).map (n::·)
 |_=>none
def cW (s:ByteArray):List AV:=s.data.toList.map fun b=> .sc (.int .u8 (b.toNat:Int))
def KB (ns:List Int):ByteArray:=ns.foldl (fun r n=>r.push (UInt8.ofNat n.toNat)) ByteArray.empty
def cM (id:Nat) (fr:Fr) (H:Hp):df->Option (AV×Option (Nat×fH))
 | .mv x=>some (ev fr x,none)
 | .pick c a b=>match ev fr c with
  | .sc (.bool t)=>some (qa t (ev fr a) (ev fr b),none)
  |_=>none
 | .alloc e sz ag z=>if z.length=sz then some (.pt id 1 0 0,some (id, .row e sz (gO ag z) [gO ag z])) else none
 | .box e sz ag x=>if fits ag sz (ev fr x) then some (.pt id 1 0 0,some (id, .row e sz .any [ev fr x])) else none
 | .U8 z parts=>match sK (z.map .sc) (SC fr parts) with
  |some cs=>some (.agg cs,none)
  |none=>none
 | .R8 e sz ag z n parts=>if z.length=sz/\(F1 fr parts).all (fun p=>decide (p.1<n)&&fits ag sz p.2) then
  some (.sl id n,some (id, .row e sz (gO ag z) ((F1 fr parts).foldl (fun l p=>l.set p.1 p.2) (List.replicate n (gO ag z))))) else none
 | .ld ag k x=>match k9 H (ev fr x) with
  |some (sz,e,off)=>(AF ag k e sz off).map (·,none)
  |none=>none
 | .st ag k x y=>match ev fr x with
  | .pt b len i off=>match bt H b with
   |some (.row e sz d es)=>if es.length=len then
    (match UP ag k (es.getD i d) (ev fr y) sz off with
     |some e'=>some (.any,some (b, .row e sz d (es.set i e')))
     |none=>none) else none
   |none=>none
  |_=>none
 | .UC x=>match ev fr x with
  | .pt b len i off=>some (.pt b len i off,none)
  | .ip sz d es i off=>some (.ip sz d es i off,none)
  | .fn (.func f) p q=>some (.fn (.func f) p q,none)
  | .nA t v=>some (.nA t v,none)
  |_=>none
 | .bin op x y=>(G9 op (ev fr x) (ev fr y)).map (·,none)
 | .VB neg x y=>match ev fr x,ev fr y with
  | .sc (.bool p), .sc (.bool q)=>some (.sc (.bool (if neg then p != q else p==q)),none)
  |_,_=>none
 | .wU neg x y=>match ev fr x,ev fr y with
  | .sc (.string p), .sc (.string q)=>some (.sc (.bool (if neg then p != q else p==q)),none)
  |_,_=>none
 | .HB op x y=>(OS op (ev fr x) (ev fr y)).map (·,none)
 | .TA x=>match ic H (ev fr x) with
  |some xs=>if BP H 1 (ev fr x)=true then(mD xs).map fun ns=>(.sc (.string (KB ns)),none) else none
  |none=>none
 | .PU sz ag z x=>match ev fr x with
  | .sv b len lo n=>match bt H b with
   |some (.row e s d es)=>if es.length=len/\s=sz/\lo+n<=len then
    some (.dI [],some (b, .row e s d (es.take lo++List.replicate n (gO ag z)++es.drop (lo+n)))) else none
   |none=>none
  |_=>none
 | .K8 e bytes z s x=>match ev fr x with
  | .sc (.string q)=>(match ev fr s with
   | .sc (.slice none 0 0)=>if(cW q).length * bytes<=iA then some (.sl id (cW q).length,some (id, .row e 1 z (cW q))) else none
   | .sl b len=>match bt H b with
    |some (.row e' sz' d es)=>if es.length=len/\e'=e/\sz'=1/\(len+(cW q).length) * bytes<=iA then
     some (.sl b (len+(cW q).length),some (b, .row e 1 d (es++cW q))) else none
    |none=>none
   |_=>none)
  |_=>none
 | .un op x=>(ZP op (ev fr x)).map (·,none)
 | .V0 k x=>match ev fr x with
  | .sc (.int _ n)=>some (.sc (.int k (k.wrap n)),none)
  |_=>none
 | .fa off x=>match ev fr x with
  | .ip sz d es i o=>if o+off<sz then some (.ip sz d es i (o+off),none) else none
  | .pt b len i o=>match bt H b with
   |some (.row _ sz _ es)=>if es.length=len/\o+off<sz then some (.pt b len i (o+off),none) else none
   |none=>none
  |_=>none
 | .ia k n x i=>(KS H k n (ev fr x) (ev fr i)).map (·,none)
 | .V7 off k ag x=>match ev fr x with
  | .agg cs=>if off+k<=cs.length then
   (if ag then some (.agg ((cs.drop off).take k),none) else if k=1 then some (cs.getD off .any,none) else none) else none
  |_=>none
 | .ix k ag n x i=>match ev fr x,ev fr i with
  | .agg cs, .sc (.int _ j)=>if 0<=j/\j<n/\n * k=cs.length then
   (if ag then some (.agg ((cs.drop (j.toNat * k)).take k),none) else if k=1 then some (cs.getD (j.toNat * k) .any,none) else none) else none
  |_,_=>none
 | .WI x i=>match ev fr x,ev fr i with
  | .sc (.string s), .sc (.int _ j)=>if 0<=j/\j<s.size then some (.sc (.int .u8 (s.data.toList.getD j.toNat 0).toNat),none) else none
  |_,_=>none
 | .lens x=>match ev fr x with
  | .sc (.string s)=>some (.sc (.int .i64 s.size),none)
  |_=>none
 | .T9 e sz bytes ag z l c=>match ev fr l,ev fr c with
  | .sc (.int _ n), .sc (.int _ m)=>if z.length=sz/\0<=n/\n=m/\n * bytes<=281474976710656/\n<=9223372036854775807 then
   some (.sl id n.toNat,some (id, .row e sz (gO ag z) (List.replicate n.toNat (gO ag z)))) else none
  |_,_=>none
 | .ext i x=>match ev fr x with
  | .dI vs=>if i<vs.length then some (vs.getD i .any,none) else none
  |_=>none
 | .VF f first caps=>some (.fn f (vl fr first) (vl fr caps),none)
 | .ZB t x=>some (.nA t (ev fr x),none)
 | .len x=>match u9 H (ev fr x) with
  |some n=>some (.sc (.int .i64 (n:Int)),none)
  |none=>none
 | .app e sz bytes ag z s x=>match ic H (ev fr x) with
  |some xs=>if BP H sz (ev fr x)=true/\z.length=sz then
   (match ev fr s with
    | .sc (.slice none 0 0)=>if xs.length * bytes<=iA then some (.sl id xs.length,some (id, .row e sz (gO ag z) xs)) else none
    | .sl b len=>match bt H b with
     |some (.row e' sz' d es)=>if es.length=len/\e'=e/\sz'=sz/\(len+xs.length) * bytes<=iA then
      some (.sl b (len+xs.length),some (b, .row e sz d (es++xs))) else none
     |none=>none
    |_=>none) else none
  |none=>none
 | .JD neg x=>match ev fr x with
  | .pt _ _ _ _=>some (.sc (.bool neg),none)
  | .ip _ _ _ _ _=>some (.sc (.bool neg),none)
  | .sc (.pointer none)=>some (.sc (.bool !neg),none)
  |_=>none
 | .AW neg x=>match uo H (ev fr x) with
  |some t=>some (sd neg t,none)
  |none=>none
 | .eqs neg ks x y=>match ev fr x,ev fr y with
  | .agg as, .agg bs=>match L0 ks as bs with
   |some t=>some (.sc (.bool (if neg then !t else t)),none)
   |none=>none
  |_,_=>none
 | .RI sz x lo hi=>(vJ H sz (lo.map (ev fr)) (hi.map (ev fr)) (ev fr x)).map (·,none)
 | .R6 e n=>some (.pt id n 0 0,some (id, .row e 1 (.sc (.int .u8 0)) (List.replicate n (.sc (.int .u8 0)))))
 | .TW n x i=>(DG H n (ev fr x) (ev fr i)).map (·,none)
 | .UM n x i=>(EY H n (ev fr x) (ev fr i)).map (·,none)
 | .bad=>none
 | .VI sz x h m=>(J3 sz (ev fr h) (ev fr m) (ev fr x)).map (·,none)
 | .P1 sz x y=>match ev fr x,ic H (ev fr y) with
  | .sl b len,some xs=>match bt H b with
   |some (.row e s d es)=>if es.length=len/\s=sz/\BP H sz (ev fr y)=true then
    some (.sc (.int .i64 (Nat.min xs.length len:Nat)),some (b, .row e s d (xs.take (Nat.min xs.length len)++es.drop (Nat.min xs.length len)))) else none
   |none=>none
  |_,_=>none
 | .call _ _=>none
 | .SQ kt=>some (.mp id,some (id, .row kt 0 .any (mapA [])))
 | .QU str ag z ok x k=>match mapOf H (ev fr x),ev fr k with
  |some (_,_,_,es), .sc kv=>if kZ str kv=true then(match fG str kv es 0 with
   |some (some (_,v))=>some (if ok then .dI [v, .sc (.bool true)] else v,none)
   |some none=>some (if ok then .dI [gO ag z, .sc (.bool false)] else gO ag z,none)
   |none=>none) else none
  |_,_=>none
 | .KT str x k y=>match mapOf H (ev fr x),ev fr k with
  |some (b,e,d,es), .sc kv=>if kZ str kv=true then(match fG str kv es 0 with
   |some (some (i,_))=>some (.any,some (b, .row e 0 d (mapA (es.set i (og kv (ev fr y))))))
   |some none=>some (.any,some (b, .row e 0 d (mapA (es++[og kv (ev fr y)]))))
   |none=>none) else none
  |_,_=>none
 | .DO x=>match mapOf H (ev fr x) with
  |some (_,_,_,es)=>some (.sc (.int .i64 (es.length:Nat)),none)
  |none=>none
 | .del str x k=>match mapOf H (ev fr x),ev fr k with
  |some (b,e,d,es), .sc kv=>if kZ str kv=true then(match fG str kv es 0 with
   |some (some (i,_))=>some (.dI [],some (b, .row e 0 d (mapA (es.eraseIdx i))))
   |some none=>some (.dI [],some (b, .row e 0 d (mapA es)))
   |none=>none) else none
  |_,_=>none
 | .HA sz v=>some (.agg (List.replicate sz (.sc v)),none)
 | .yw e sz v=>some (.pt id 1 0 0,some (id, .row e sz (.agg (List.replicate sz (.sc v))) [.agg (List.replicate sz (.sc v))]))
 | .ZN t ok ag z x=>match ev fr x with
  | .nA t' v=>if t'=t then some (if ok then .dI [v, .sc (.bool true)] else v,none)
   else if ok then some (.dI [gO ag z, .sc (.bool false)],none) else none
  |_=>none
structure iY where
 dst:Option Nat
 guard:Option (Nat×Bool)
 op:df
 deriving Inhabited
structure tS where
 ops:List iY
 ps:List (Nat×Nat)
 deriving Inhabited
inductive LC where
 |skip
 |region (ops:List iY)
 |drawn (segs:List tS)
 |seq (a b:LC)
 |cond (c:eO) (thn rN:LC)
 |block (id:Nat) (body:LC)
 |loop (body:LC)
 |exit (id:Nat)
 |ret
 deriving Inhabited
end Go.cw
/- What an abstract value says of a value in a world; what stays when the world turns. -/
namespace Go.cw
open Go.RowKit
structure Cx where
 ρ:Nat->Option (Nat×Nat×Nat)
 H:Nat->Option fH
 U:Nat->Prop
 w:World
 M0:Nat->Prop
def Cx.M (c:Cx) (blk:Nat):Prop:=c.M0 blk\/∃b k o z,c.H b=some k/\c.ρ b=some (blk,o,z)
def At (w:World) (blk o sz:Nat) (v:Value):Prop:=
 v.cells.size=sz/\(∀j,j<sz->w.cell? ⟨blk,o+j,none⟩=v.cells[j]?)/\(∀(j:Nat) (u:Value),v.cells[j]?=some u->u.oneCell'=true)
mutual
def VR (c:Cx):AV->Value->Prop
 | .sc u,v=>v=u
 | .any,_=>True
 | .im sz _ es,v=>∃a cap,v= .slice a es.length cap/\es.length<=cap/\(es=[]\/∃blk o,a=some ⟨blk,o,none⟩/\0<sz/\¬c.M blk/\eA c sz es blk o)
 | .ip sz _ es i off,v=>i<es.length/\off<sz/\∃blk o,v= .pointer (some ⟨blk,o+i * sz+off,none⟩)/\¬c.M blk/\eA c sz es blk o
 | .sl b len,v=>c.U b/\∃a cap,v= .slice a len cap/\∀e sz d es,c.H b=some (.row e sz d es)->len<=es.length/\
  (es.length=len->(c.ρ b=none/\a=none/\cap=0)\/∃blk o z,c.ρ b=some (blk,o,z)/\a=some ⟨blk,o,none⟩/\len<=cap/\cap * sz<=z/\cap<=maxLen/\0<sz)
 | .pt b len i off,v=>c.U b/\i<len/\∃a,v= .pointer (some a)/\∀e sz d es,c.H b=some (.row e sz d es)->len<=es.length/\
  (es.length=len->off<sz/\∃blk o z,c.ρ b=some (blk,o,z)/\a=⟨blk,o+i * sz+off,none⟩)
 | .zc,v=>∃a,v= .slice a 0 0
 | .agg cs,v=>∃vs,v= .agg vs/\cu c cs vs.toList
 | .dI cs,v=>∃vs,v= .tuple vs/\cu c cs vs.toList
 | .fn f p q,v=>∃ps qs,v= .func f ps qs/\cu c p ps.toList/\cu c q qs.toList
 | .nA t x,v=>∃u,v= .iface t u/\VR c x u
 | .mp b,v=>c.U b/\∃r,v= .map (some r)/\∀e sz d es,c.H b=some (.row e sz d es)->1<=es.length/\(es.length=1->∃o z,c.ρ b=some (r,o,z))
 | .ab,v=>∃t,v= .bool t
 | .sv b len lo n,v=>c.U b/\lo+n<=len/\∃a cap,v= .slice a n cap/\n<=cap/\∀e sz d es,c.H b=some (.row e sz d es)->len<=es.length/\
  (es.length=len->(n=0\/∃blk o z,c.ρ b=some (blk,o,z)/\a=some ⟨blk,o+lo * sz,none⟩)/\
  ((c.ρ b=none/\a=none/\cap=0)\/∃blk o z o2,c.ρ b=some (blk,o,z)/\a=some ⟨blk,o2,none⟩/\o<=o2/\o2+cap * sz<=o+z/\cap<=maxLen/\0<sz))
def eA (c:Cx) (sz:Nat):List AV->Nat->Nat->Prop
 |[],_,_=>True
 |e::es,blk,o=>(∃v,At c.w blk o sz v/\VR c e v)/\eA c sz es blk (o+sz)
def cu (c:Cx):List AV->List Value->Prop
 |[],vs=>vs=[]
 |a::as,vs=>∃v vs',vs=v::vs'/\VR c a v/\cu c as vs'
end
theorem eC {c:Cx} {sz:Nat}:∀{es:List AV} {blk o:Nat},eA c sz es blk o->∀i,i<es.length->∃v,At c.w blk (o+i * sz) sz v/\VR c (es.getD i .any) v
 |[],_,_,_,i,hi=>absurd hi (by simp)
 |e::es,blk,o,h,i,hi=>by
  rw[eA] at h
  cases i with
  |zero=>simpa using h.1
  |succ i=>
   obtain⟨v,hv,hr⟩:=eC h.2 i (by simpa using hi)
   exact⟨v,by rw[show o+(i+1) * sz=o+sz+i * sz by rw[Nat.add_mul];omega];exact hv,by simpa using hr⟩
theorem kV {c:Cx} {sz:Nat}:∀{es:List AV} {blk o:Nat},(∀i,i<es.length->∃v,At c.w blk (o+i * sz) sz v/\VR c (es.getD i .any) v)->eA c sz es blk o
 |[],_,_,_=>by rw[eA];trivial
 |e::es,blk,o,h=>by
  rw[eA]
  refine⟨by simpa using h 0 (by simp),kV fun i hi=> ?_⟩
  obtain⟨v,hv,hr⟩:=h (i+1) (by simpa using hi)
  exact⟨v,by rw[show o+sz+i * sz=o+(i+1) * sz by rw[Nat.add_mul];omega];exact hv,by simpa using hr⟩
theorem uS {es:List AV} {i:Nat} (d:AV) (h:i<es.length):es.getD i d=es.getD i .any:=by
 simp[List.getD,List.getElem?_eq_getElem h]
structure Cx.le (c c':Cx):Prop where
 U:∀b,c.U b->c'.U b
 sz:c.w.heap.size<=c'.w.heap.size
 blk:∀b,¬c.M b->b<c.w.heap.size->c'.w.heap[b]?=c.w.heap[b]?/\¬c'.M b
 row:∀b,c.U b->∀e sz d es,c'.H b=some (.row e sz d es)->∃e0 d0 es0,c.H b=some (.row e0 sz d0 es0)/\((es0.length=es.length/\c'.ρ b=c.ρ b)\/es0.length<es.length)
theorem At.lt {w:World} {blk o sz:Nat} {v:Value} (h:At w blk o sz v) (hs:0<sz):blk<w.heap.size:=by
 obtain⟨h1,h2,_⟩:=h
 have:=h2 0 hs
 rw[Array.getElem?_eq_getElem (by omega)] at this
 exact World.block_lt_of_cell? w ⟨blk,o+0,none⟩ this
theorem At.cc {w w':World} {blk o sz:Nat} {v:Value} (h:At w blk o sz v) (hb:w'.heap[blk]?=w.heap[blk]?):At w' blk o sz v:=
 ⟨h.1,fun j hj=>by rw[<-h.2.1 j hj];exact World.cell?_of_block (a:=⟨blk,o+j,none⟩) hb,h.2.2⟩
theorem sr {c:Cx} {sz:Nat} {es:List AV} {blk o:Nat} (hs:0<sz) (hne:es≠[]) (h:eA c sz es blk o):blk<c.w.heap.size:=by
 cases es with
 |nil=>exact absurd rfl hne
 |cons e es=>
  rw[eA] at h
  obtain⟨⟨v,hv,_⟩,_⟩:=h
  exact hv.lt hs
mutual
theorem VR.cc {c c':Cx} (h:c.le c'):∀{a:AV} {v:Value},VR c a v->VR c' a v
 | .sc u,v,hv=>by rw[VR] at hv ⊢;exact hv
 | .any,_,_=>by rw[VR];trivial
 | .im sz d es,v,hv=>by
  rw[VR] at hv ⊢
  obtain⟨a,cap,rfl,hc,hr⟩:=hv
  refine⟨a,cap,rfl,hc, ?_⟩
  rcases hr with h0|⟨blk,o,rfl,hz,hm,hr⟩
  ·exact .inl h0
  ·by_cases h0:es=[]
   ·exact .inl h0
   ·obtain⟨h1,h2⟩:=h.blk blk hm (sr hz h0 hr)
    exact .inr ⟨blk,o,rfl,hz,h2,eA.cc h h1 hr⟩
 | .ip sz d es i off,v,hv=>by
  rw[VR] at hv ⊢
  obtain⟨hi,ho,blk,o,rfl,hm,hr⟩:=hv
  obtain⟨h1,h2⟩:=h.blk blk hm (sr (by omega) (by intro e;rw[e] at hi;simp at hi) hr)
  exact⟨hi,ho,blk,o,rfl,h2,eA.cc h h1 hr⟩
 | .sl b len,v,hv=>by
  rw[VR] at hv ⊢
  obtain⟨hb,a,cap,rfl,hr⟩:=hv
  refine⟨h.U _ hb,a,cap,rfl,fun e sz d es he=> ?_⟩
  obtain⟨e0,d0,es0,h0,hor⟩:=h.row b hb e sz d es he
  obtain⟨h1,h2⟩:=hr _ _ _ _ h0
  rcases hor with⟨hl,hρ⟩|hl
  ·rw[hl] at h1 h2
   rw[hρ]
   exact⟨h1,h2⟩
  ·exact⟨by omega,fun he=>by omega⟩
 | .pt b len i off,v,hv=>by
  rw[VR] at hv ⊢
  obtain⟨hb,hi,a,rfl,hr⟩:=hv
  refine⟨h.U _ hb,hi,a,rfl,fun e sz d es he=> ?_⟩
  obtain⟨e0,d0,es0,h0,hor⟩:=h.row b hb e sz d es he
  obtain⟨h1,h2⟩:=hr _ _ _ _ h0
  rcases hor with⟨hl,hρ⟩|hl
  ·rw[hl] at h1 h2
   rw[hρ]
   exact⟨h1,h2⟩
  ·exact⟨by omega,fun he=>by omega⟩
 | .zc,v,hv=>by rw[VR] at hv ⊢;exact hv
 | .agg cs,v,hv=>by
  rw[VR] at hv ⊢
  obtain⟨vs,rfl,hr⟩:=hv
  exact⟨vs,rfl,cu.cc h hr⟩
 | .dI cs,v,hv=>by
  rw[VR] at hv ⊢
  obtain⟨vs,rfl,hr⟩:=hv
  exact⟨vs,rfl,cu.cc h hr⟩
 | .fn f p q,v,hv=>by
  rw[VR] at hv ⊢
  obtain⟨ps,qs,rfl,h1,h2⟩:=hv
  exact⟨ps,qs,rfl,cu.cc h h1,cu.cc h h2⟩
 | .nA t x,v,hv=>by
  rw[VR] at hv ⊢
  obtain⟨u,rfl,h1⟩:=hv
  exact⟨u,rfl,VR.cc h h1⟩
 | .mp b,v,hv=>by
  rw[VR] at hv ⊢
  obtain⟨hb,r,rfl,hr⟩:=hv
  refine⟨h.U _ hb,r,rfl,fun e sz d es he=> ?_⟩
  obtain⟨e0,d0,es0,h0,hor⟩:=h.row b hb e sz d es he
  obtain⟨h1,h2⟩:=hr _ _ _ _ h0
  rcases hor with⟨hl,hρ⟩|hl
  ·rw[hl] at h1 h2
   rw[hρ]
   exact⟨h1,h2⟩
  ·exact⟨by omega,fun he=>by omega⟩
 | .ab,v,hv=>by rw[VR] at hv ⊢;exact hv
 | .sv b len lo n,v,hv=>by
  rw[VR] at hv ⊢
  obtain⟨hb,hi,a,cap,rfl,hc,hr⟩:=hv
  refine⟨h.U _ hb,hi,a,cap,rfl,hc,fun e sz d es he=> ?_⟩
  obtain⟨e0,d0,es0,h0,hor⟩:=h.row b hb e sz d es he
  obtain⟨h1,h2⟩:=hr _ _ _ _ h0
  rcases hor with⟨hl,hρ⟩|hl
  ·rw[hl] at h1 h2
   rw[hρ]
   exact⟨h1,h2⟩
  ·exact⟨by omega,fun he=>by omega⟩
theorem eA.cc {c c':Cx} (h:c.le c') {sz:Nat} {blk:Nat} (hb:c'.w.heap[blk]?=c.w.heap[blk]?):∀{es:List AV} {o:Nat},eA c sz es blk o->eA c' sz es blk o
 |[],_,_=>by rw[eA];trivial
 |e::es,o,hr=>by
  rw[eA] at hr ⊢
  obtain⟨⟨v,h1,h2⟩,h3⟩:=hr
  exact⟨⟨v,h1.cc hb,VR.cc h h2⟩,eA.cc h hb h3⟩
theorem cu.cc {c c':Cx} (h:c.le c'):∀{as:List AV} {vs:List Value},cu c as vs->cu c' as vs
 |[],vs,hv=>by rw[cu] at hv ⊢;exact hv
 |a::as,vs,hv=>by
  rw[cu] at hv ⊢
  obtain⟨v,vs',rfl,h1,h2⟩:=hv
  exact⟨v,vs',rfl,VR.cc h h1,cu.cc h h2⟩
end
def fU {α:Type} (f:Nat->α) (b:Nat) (v:α):Nat->α:=fun x=>if x=b then v else f x
@[simp] theorem dV {α:Type} (f:Nat->α) (b:Nat) (v:α):fU f b v b=v:=by simp[fU]
theorem eV {α:Type} (f:Nat->α) {b x:Nat} (v:α) (h:x≠b):fU f b v x=f x:=by simp[fU,h]
theorem Cx.le.refl (c:Cx):c.le c:=
 ⟨fun _ h=>h,Nat.le_refl _,fun _ h _=>⟨rfl,h⟩,fun _ _ _ _ _ _ he=>⟨_,_,_,he, .inl ⟨rfl,rfl⟩⟩⟩
theorem Cx.le.trans {a b c:Cx} (h:a.le b) (k:b.le c):a.le c:=
 ⟨fun x hx=>k.U x (h.U x hx),Nat.le_trans h.sz k.sz,fun x hx hl=>by
  obtain⟨h1,h2⟩:=h.blk x hx hl
  obtain⟨k1,k2⟩:=k.blk x h2 (Nat.lt_of_lt_of_le hl h.sz)
  exact⟨k1.trans h1,k2⟩,fun x hx e sz d es he=>by
  obtain⟨e1,d1,es1,h1,hor⟩:=k.row x (h.U x hx) e sz d es he
  obtain⟨e2,d2,es2,h2,hor2⟩:=h.row x hx _ _ _ _ h1
  refine⟨e2,d2,es2,h2, ?_⟩
  rcases hor with⟨l1,r1⟩|l1
  ·rcases hor2 with⟨l2,r2⟩|l2
   ·exact .inl ⟨l2.trans l1,r1.trans r2⟩
   ·exact .inr (by omega)
  ·rcases hor2 with⟨l2,r2⟩|l2
   ·exact .inr (by omega)
   ·exact .inr (by omega)⟩
def NQ (ms:Array MapEntry):Value:= .tuple (ms.map fun m=> .tuple #[m.key,m.val])
def mz (ms:Array MapEntry) (clk:Nat):Prop:=(∀x∈ms.toList,x.born<clk)/\(ms.toList.map (·.born)).Nodup
theorem mz.empty:mz #[] 0:=⟨fun _ h=>by simp at h,by simp⟩
theorem mz.push {ms:Array MapEntry} {clk:Nat} (h:mz ms clk) (k v:Value):mz (ms.push { key:=k,val:=v,born:=clk }) (clk+1):=by
 refine⟨fun x hx=> ?_, ?_⟩
 ·rw[Array.toList_push] at hx
  rcases List.mem_append.1 hx with hx|hx
  ·have:=h.1 x hx;omega
  ·simp only[List.mem_cons,List.not_mem_nil,or_false] at hx
   subst hx
   exact Nat.lt_succ_self _
 ·rw[Array.toList_push,List.map_append]
  refine List.nodup_append.2 ⟨h.2,by simp,fun a ha b hb=> ?_⟩
  simp only[List.map_cons,List.map_nil,List.mem_cons,List.not_mem_nil,or_false] at hb
  obtain⟨x,hx,rfl⟩:=List.mem_map.1 ha
  have:=h.1 x hx
  omega
theorem mz.modify {ms:Array MapEntry} {clk:Nat} (h:mz ms clk) (i:Nat) (k v:Value):mz (ms.modify i fun e=>{ e with key:=k,val:=v }) clk:=by
 have e:(ms.modify i fun e=>{ e with key:=k,val:=v }).toList.map (·.born)=ms.toList.map (·.born):=by
  apply List.ext_getElem?
  intro j
  rw[List.getElem?_map,List.getElem?_map,Array.getElem?_toList,Array.getElem?_toList,Array.getElem?_modify]
  split
  ·cases ms[j]?<;>rfl
  ·rfl
 refine⟨fun x hx=> ?_,by rw[e];exact h.2⟩
 have:x.born∈(ms.modify i fun e=>{ e with key:=k,val:=v }).toList.map (·.born):=List.mem_map.2 ⟨x,hx,rfl⟩
 rw[e] at this
 obtain⟨y,hy,hyx⟩:=List.mem_map.1 this
 rw[<-hyx]
 exact h.1 y hy
theorem mz.erase {ms:Array MapEntry} {clk:Nat} (h:mz ms clk) {i:Nat} (hi:i<ms.size):mz (ms.eraseIdxIfInBounds i) clk:=by
 have e:(ms.eraseIdxIfInBounds i).toList=ms.toList.eraseIdx i:=by
  unfold Array.eraseIdxIfInBounds
  rw[dif_pos hi];simp
 unfold mz
 rw[e]
 exact⟨fun x hx=>h.1 x ((List.eraseIdx_sublist _ _).subset hx),h.2.sublist ((List.eraseIdx_sublist _ _).map _)⟩
structure R1 (w0:World) (c:Cx) (b:Nat) (es:List AV):Prop where
 ok:∃r x ms clk,c.ρ b=some (r,0,0)/\w0.heap.size<=r/\c.w.heap[r]?=some (.map ms clk)/\es=[x]/\VR c x (NQ ms)/\mz ms clk
def XT:List Nat:=[242,5]
def sE (w0:World) (c:Cx) (b:Nat) (e:TypeId) (sz:Nat) (es:List AV):Prop:=
 (0<sz/\((c.ρ b=none/\es=[])\/∃blk o z,c.ρ b=some (blk,o,z)/\w0.heap.size<=blk/\(∃arr,c.w.heap[blk]?=some (.cells arr e (0,0))/\o+z<=arr.size/\(e∈XT->o=0/\(arr.size=sz\/sz=1)))/\es.length * sz<=z/\eA c sz es blk o))\/
 (sz=0/\R1 w0 c b es)
theorem sE.cc {w0:World} {c c':Cx} {b:Nat} {e:TypeId} {sz:Nat} {es:List AV} (h:sE w0 c b e sz es) (hle:c.le c') (hρ:c'.ρ b=c.ρ b)
 (hb:∀blk o z,c.ρ b=some (blk,o,z)->blk<c.w.heap.size->c'.w.heap[blk]?=c.w.heap[blk]?):sE w0 c' b e sz es:=by
 rcases h with⟨hz,h⟩|⟨hz,h⟩
 ·refine .inl ⟨hz, ?_⟩
  rcases h with⟨h0,h1⟩|⟨blk,o,z,h0,h1,⟨arr,h2,h3⟩,h4,h5⟩
  ·exact .inl ⟨hρ.trans h0,h1⟩
  ·have hlt:blk<c.w.heap.size:=(Array.getElem?_eq_some_iff.1 h2).1
   have hk:=hb blk o z h0 hlt
   exact .inr ⟨blk,o,z,hρ.trans h0,h1,⟨arr,hk.trans h2,h3⟩,h4,eA.cc hle hk h5⟩
 ·obtain⟨r,x,ms,clk,h0,h1,h2,h3,h4,h5⟩:=h
  have hlt:r<c.w.heap.size:=(Array.getElem?_eq_some_iff.1 h2).1
  exact .inr ⟨hz,r,x,ms,clk,hρ.trans h0,h1,(hb _ _ _ h0 hlt).trans h2,h3,VR.cc hle h4,h5⟩
def UT:List (Nat×List Nat):=[(0,[0,1,28,2,29,14,24,3,30,22,20,15,25,17,4,8,31,27,13,23,21,19,16,7,26,12,18,6,11,5,10,9])]
structure yg (w:World) (M:Nat->Prop):Prop where
 lt:∀b,M b->b<w.heap.size
 ZM:∀t∈UT,¬M t.1/\t.1<w.heap.size/\∀j,j<t.2.length->w.cell? ⟨t.1,j,none⟩=some (.int .u8 (t.2.getD j 0))
structure dy (w0:World) (c:Cx):Prop where
 below:Below w0.heap.size w0 c.w
 m0:yg w0 c.M0
 row:∀b e sz d es,c.H b=some (.row e sz d es)->c.U b/\sE w0 c b e sz es
 inj:∀b b' k k' blk o z o' z',c.H b=some k->c.H b'=some k'->c.ρ b=some (blk,o,z)->c.ρ b'=some (blk,o',z')->b=b'
theorem dy.BC {w0:World} {c:Cx} (h:dy w0 c) (b:Nat) (e:TypeId) (sz:Nat) (d:AV) (es:List AV) (hb:c.H b=some (.row e sz d es)) (hz:0<sz):c.U b/\0<sz/\((c.ρ b=none/\es=[])\/
 ∃blk o z,c.ρ b=some (blk,o,z)/\w0.heap.size<=blk/\(∃arr,c.w.heap[blk]?=some (.cells arr e (0,0))/\o+z<=arr.size/\(e∈XT->o=0/\(arr.size=sz\/sz=1)))/\es.length * sz<=z/\eA c sz es blk o):=by
 obtain⟨h1,⟨h2,h3⟩|⟨h2,_⟩⟩:=h.row b e sz d es hb
 ·exact⟨h1,h2,h3⟩
 ·omega
theorem dy.kO {w0:World} {c:Cx} (h:dy w0 c) (b:Nat) (e:TypeId) (sz:Nat) (d:AV) (es:List AV) (hb:c.H b=some (.row e sz d es)) (hq:c.ρ b=none\/0<sz):c.U b/\0<sz/\((c.ρ b=none/\es=[])\/
 ∃blk o z,c.ρ b=some (blk,o,z)/\w0.heap.size<=blk/\(∃arr,c.w.heap[blk]?=some (.cells arr e (0,0))/\o+z<=arr.size/\(e∈XT->o=0/\(arr.size=sz\/sz=1)))/\es.length * sz<=z/\eA c sz es blk o):=by
 obtain⟨h1,⟨h2,h3⟩|⟨h2,r,ents,ms,clk,h3,_⟩⟩:=h.row b e sz d es hb
 ·exact⟨h1,h2,h3⟩
 ·rcases hq with hq|hq
  ·rw[hq] at h3;cases h3
  ·omega
theorem vI {ρb:Option (Nat×Nat×Nat)} {a:Option Addr} {len cap sz:Nat} (h:(ρb=none/\a=none/\cap=0)\/∃blk o z,ρb=some (blk,o,z)/\a=some ⟨blk,o,none⟩/\len<=cap/\cap * sz<=z/\cap<=maxLen/\0<sz):ρb=none\/0<sz:=
 h.imp (·.1) fun⟨_,_,_,_,_,_,_,_,h⟩=>h
theorem KC {ρb:Option (Nat×Nat×Nat)} {a:Option Addr} {cap sz:Nat} (h:(ρb=none/\a=none/\cap=0)\/∃blk o z o2,ρb=some (blk,o,z)/\a=some ⟨blk,o2,none⟩/\o<=o2/\o2+cap * sz<=o+z/\cap<=maxLen/\0<sz):ρb=none\/0<sz:=
 h.imp (·.1) fun⟨_,_,_,_,_,_,_,_,_,h⟩=>h
theorem dy.ZH {w0:World} {c:Cx} (h:dy w0 c) {b:Nat} {e:TypeId} {d:AV} {es:List AV} (hb:c.H b=some (.row e 0 d es)):c.U b/\R1 w0 c b es:=by
 obtain⟨h1,⟨h2,h3⟩|⟨_,h2⟩⟩:=h.row b e 0 d es hb
 ·omega
 ·exact⟨h1,h2⟩
theorem dy.VJ {w0:World} {c:Cx} (h:dy w0 c) {b blk o z:Nat} {k:fH} (hk:c.H b=some k) (hρ:c.ρ b=some (blk,o,z)):w0.heap.size<=blk/\blk<c.w.heap.size:=by
 obtain⟨e,sz,d,es⟩:=k
 obtain⟨_,⟨_,hr⟩|⟨_,hr⟩⟩:=h.row b e sz d es hk
 ·rcases hr with⟨h0,_⟩|⟨blk',o',z',hρ',hb,⟨arr,ha,_⟩,_⟩
  ·rw[hρ] at h0;cases h0
  ·rw[hρ] at hρ'
   cases hρ'
   exact⟨hb,(Array.getElem?_eq_some_iff.1 ha).1⟩
 ·obtain⟨r,ents,ms,clk,h0,h1,h2,_⟩:=hr
  rw[hρ] at h0
  cases h0
  exact⟨h1,(Array.getElem?_eq_some_iff.1 h2).1⟩
theorem dy.Mlt {w0:World} {c:Cx} (h:dy w0 c) {b:Nat} (hb:c.M b):b<c.w.heap.size:=by
 rcases hb with hb|⟨x,k,o,z,hk,hρ⟩
 ·exact Nat.lt_of_lt_of_le (h.m0.lt b hb) h.below.size
 ·exact(h.VJ hk hρ).2
theorem dy.mL {w0:World} {c:Cx} (h:dy w0 c):yg c.w c.M0:=
 ⟨fun b hb=>Nat.lt_of_lt_of_le (h.m0.lt b hb) h.below.size,fun t ht=>by
  obtain⟨h1,h2,h3⟩:=h.m0.ZM t ht
  exact⟨h1,Nat.lt_of_lt_of_le h2 h.below.size,fun j hj=>by rw[<-h3 j hj];exact World.cell?_of_block (a:=⟨t.1,j,none⟩) (h.below.block _ h2)⟩⟩
theorem dy.fit {w0:World} {c:Cx} (h:dy w0 c):yg c.w c.M:=
 ⟨fun b hb=>h.Mlt hb,fun t ht=>by
  obtain⟨h1,h2,h3⟩:=h.mL.ZM t ht
  refine⟨fun hm=> ?_,h2,h3⟩
  rcases hm with hm|⟨x,k,o,z,hk,hρ⟩
  ·exact h1 hm
  ·have:=(h.VJ hk hρ).1
   have:=(h.m0.ZM t ht).2.1
   omega⟩
theorem dy.world {w0:World} {c:Cx} (h:dy w0 c) {w':World} (hb:Below c.w.heap.size c.w w'):dy w0 { c with w:=w' }/\c.le { c with w:=w' }:=by
 have hle:c.le { c with w:=w' }:=⟨fun _ h=>h,hb.size,fun b hm hl=>⟨hb.block b hl,hm⟩,fun _ _ _ _ _ _ he=>⟨_,_,_,he, .inl ⟨rfl,rfl⟩⟩⟩
 refine⟨⟨h.below.trans (hb.mono h.below.size),h.m0,fun b e sz d es he=> ?_,h.inj⟩,hle⟩
 obtain⟨h1,hr⟩:=h.row b e sz d es he
 exact⟨h1,hr.cc hle rfl fun blk _ _ _ hlt=>hb.block blk hlt⟩
theorem dy.used {w0:World} {c:Cx} (h:dy w0 c) {U:Nat->Prop} (hU:∀b,c.U b->U b):dy w0 { c with U:=U }/\c.le { c with U:=U }:=by
 have hle:c.le { c with U:=U }:=⟨hU,Nat.le_refl _,fun b hm _=>⟨rfl,hm⟩,fun _ _ _ _ _ _ he=>⟨_,_,_,he, .inl ⟨rfl,rfl⟩⟩⟩
 refine⟨⟨h.below,h.m0,fun b e sz d es he=> ?_,h.inj⟩,hle⟩
 obtain⟨h1,hr⟩:=h.row b e sz d es he
 exact⟨hU _ h1,hr.cc hle rfl fun _ _ _ _ _=>rfl⟩
theorem dy.ZD {w0:World} {c:Cx} (h:dy w0 c) {b:Nat} {e:TypeId} {sz:Nat} (d:AV) {es:List AV} {w':World} {blk o z:Nat}
 (hold:¬c.U b\/∃e0 d0 es0,c.H b=some (.row e0 sz d0 es0)/\((es0.length=es.length/\c.ρ b=some (blk,o,z))\/es0.length<es.length))
 (hown:c.w.heap.size<=blk\/∃k o0 z0,c.H b=some k/\c.ρ b=some (blk,o0,z0))
 (hos:w'.os=c.w.os) (htp:w'.tape=c.w.tape) (hout:w'.output=c.w.output) (hsz:c.w.heap.size<=w'.heap.size)
 (hkeep:∀k,k<c.w.heap.size->k≠blk->w'.heap[k]?=c.w.heap[k]?)
 (hnew:w0.heap.size<=blk->c.le { c with ρ:=fU c.ρ b (some (blk,o,z)),H:=fU c.H b (some (.row e sz d es)),U:=fun x=>c.U x\/x=b,w:=w' }->sE w0 { c with ρ:=fU c.ρ b (some (blk,o,z)),H:=fU c.H b (some (.row e sz d es)),U:=fun x=>c.U x\/x=b,w:=w' } b e sz es):
 dy w0 { c with ρ:=fU c.ρ b (some (blk,o,z)),H:=fU c.H b (some (.row e sz d es)),U:=fun x=>c.U x\/x=b,w:=w' }/\
 c.le { c with ρ:=fU c.ρ b (some (blk,o,z)),H:=fU c.H b (some (.row e sz d es)),U:=fun x=>c.U x\/x=b,w:=w' }:=by
 have hlow:w0.heap.size<=blk:=by
  rcases hown with hge|⟨k,o0,z0,hk,hρ⟩
  ·have:=h.below.size;omega
  ·exact(h.VJ hk hρ).1
 have hne:∀x,¬c.M x->x<c.w.heap.size->x≠blk:=by
  intro x hm hl e
  subst e
  rcases hown with e|⟨k,o0,z0,hk,hρ⟩
  ·omega
  ·exact hm (.inr ⟨b,k,o0,z0,hk,hρ⟩)
 have hother:∀x k o' z' blk',x≠b->c.H x=some k->c.ρ x=some (blk',o',z')->blk'≠blk:=by
  intro x k o' z' blk' hx hk hρ e
  subst e
  rcases hown with e|⟨k',o0,z0,hk',hρ'⟩
  ·have:=(h.VJ hk hρ).2;omega
  ·exact hx (h.inj x b k k' _ _ _ _ _ hk hk' hρ hρ')
 have hle:c.le { c with ρ:=fU c.ρ b (some (blk,o,z)),H:=fU c.H b (some (.row e sz d es)),U:=fun x=>c.U x\/x=b,w:=w' }:=by
  refine⟨fun _ h=> .inl h,hsz,fun x hm hl=>⟨hkeep x hl (hne x hm hl), ?_⟩,fun x hx e' sz' d' es' he=> ?_⟩
  ·rintro(h0|⟨y,k,o',z',hk,hρ⟩)
   ·exact hm (.inl h0)
   ·by_cases hy:y=b
    ·subst hy
     simp only[dV] at hρ
     cases hρ
     exact hne _ hm hl rfl
    ·simp only[eV _ _ hy] at hk hρ
     exact hm (.inr ⟨y,k,o',z',hk,hρ⟩)
  ·by_cases hxb:x=b
   ·subst hxb
    simp only[dV,Option.some.injEq,fH.row.injEq] at he
    obtain⟨rfl,rfl,rfl,rfl⟩:=he
    rcases hold with h0|⟨e0,d0,es0,h0,hor⟩
    ·exact absurd hx h0
    ·refine⟨e0,d0,es0,h0, ?_⟩
     rcases hor with⟨l,r⟩|l
     ·exact .inl ⟨l,by simp only[dV];exact r.symm⟩
     ·exact .inr l
   ·simp only[eV _ _ hxb] at he
    exact⟨_,_,_,he, .inl ⟨rfl,eV _ _ hxb⟩⟩
 refine⟨⟨?_,h.m0,fun x e' sz' d' es' he=> ?_, ?_⟩,hle⟩
 ·refine h.below.trans ⟨hos,htp,hout,hsz,fun k hk=>hkeep k ?_ ?_⟩
  ·have:=h.below.size;omega
  ·omega
 ·by_cases hxb:x=b
  ·subst hxb
   simp only[dV,Option.some.injEq,fH.row.injEq] at he
   obtain⟨rfl,rfl,rfl,rfl⟩:=he
   exact⟨.inr rfl,hnew hlow hle⟩
  ·simp only[eV _ _ hxb] at he
   obtain⟨h1,hr⟩:=h.row x _ _ _ _ he
   exact⟨.inl h1,hr.cc hle (eV _ _ hxb) fun blk' o' z' hρ hlt=>hkeep blk' hlt (hother x _ _ _ _ hxb he hρ)⟩
 ·intro x y k k' bl o1 z1 o2 z2 hx hy hρx hρy
  by_cases hxb:x=b
  ·by_cases hyb:y=b
   ·rw[hxb,hyb]
   ·subst hxb
    simp only[dV,eV _ _ hyb] at hρx hρy hy
    cases hρx
    exact absurd rfl (hother y _ _ _ _ hyb hy hρy)
  ·by_cases hyb:y=b
   ·subst hyb
    simp only[dV,eV _ _ hxb] at hρx hρy hx
    cases hρy
    exact absurd rfl (hother x _ _ _ _ hxb hx hρx)
   ·simp only[eV _ _ hxb,eV _ _ hyb] at hx hy hρx hρy
    exact h.inj x y k k' _ _ _ _ _ hx hy hρx hρy
theorem dy.qc {w0:World} {c:Cx} (h:dy w0 c) {b:Nat} {e:TypeId} {sz:Nat} (d:AV) {es:List AV} {w':World} {blk o z:Nat} {arr:Array Value} (hz:0<sz)
 (hold:¬c.U b\/∃e0 d0 es0,c.H b=some (.row e0 sz d0 es0)/\((es0.length=es.length/\c.ρ b=some (blk,o,z))\/es0.length<es.length))
 (hown:c.w.heap.size<=blk\/∃k o0 z0,c.H b=some k/\c.ρ b=some (blk,o0,z0))
 (hos:w'.os=c.w.os) (htp:w'.tape=c.w.tape) (hout:w'.output=c.w.output) (hsz:c.w.heap.size<=w'.heap.size)
 (hkeep:∀k,k<c.w.heap.size->k≠blk->w'.heap[k]?=c.w.heap[k]?)
 (hb:w'.heap[blk]?=some (.cells arr e (0,0))) (harr:o+z<=arr.size/\(e∈XT->o=0/\(arr.size=sz\/sz=1))) (hlen:es.length * sz<=z)
 (hel:c.le { c with ρ:=fU c.ρ b (some (blk,o,z)),H:=fU c.H b (some (.row e sz d es)),U:=fun x=>c.U x\/x=b,w:=w' }->∀i,i<es.length->∃v,At w' blk (o+i * sz) sz v/\VR { c with ρ:=fU c.ρ b (some (blk,o,z)),H:=fU c.H b (some (.row e sz d es)),U:=fun x=>c.U x\/x=b,w:=w' } (es.getD i .any) v):
 dy w0 { c with ρ:=fU c.ρ b (some (blk,o,z)),H:=fU c.H b (some (.row e sz d es)),U:=fun x=>c.U x\/x=b,w:=w' }/\
 c.le { c with ρ:=fU c.ρ b (some (blk,o,z)),H:=fU c.H b (some (.row e sz d es)),U:=fun x=>c.U x\/x=b,w:=w' }:=
 h.ZD d hold hown hos htp hout hsz hkeep fun hlow hle=> .inl ⟨hz, .inr ⟨blk,o,z,by simp only[dV],hlow,⟨arr,hb,harr⟩,hlen,kV fun i hi=>hel hle i hi⟩⟩
theorem dy.ZC {w0:World} {c:Cx} (h:dy w0 c) {b:Nat} {e:TypeId} (d:AV) {ents:List AV} {w':World} {r clk:Nat} {ms:Array MapEntry}
 (hold:¬c.U b\/∃e0 d0 es0,c.H b=some (.row e0 0 d0 es0)/\es0.length=1/\c.ρ b=some (r,0,0))
 (hown:c.w.heap.size<=r\/∃k o0 z0,c.H b=some k/\c.ρ b=some (r,o0,z0))
 (hos:w'.os=c.w.os) (htp:w'.tape=c.w.tape) (hout:w'.output=c.w.output) (hsz:c.w.heap.size<=w'.heap.size)
 (hkeep:∀k,k<c.w.heap.size->k≠r->w'.heap[k]?=c.w.heap[k]?)
 (hb:w'.heap[r]?=some (.map ms clk)) (hF:VR c (.dI ents) (NQ ms)) (hbn:mz ms clk):
 dy w0 { c with ρ:=fU c.ρ b (some (r,0,0)),H:=fU c.H b (some (.row e 0 d (mapA ents))),U:=fun x=>c.U x\/x=b,w:=w' }/\
 c.le { c with ρ:=fU c.ρ b (some (r,0,0)),H:=fU c.H b (some (.row e 0 d (mapA ents))),U:=fun x=>c.U x\/x=b,w:=w' }:=
 h.ZD d (hold.imp id fun⟨e0,d0,es0,h1,h2,h3⟩=>⟨e0,d0,es0,h1, .inl ⟨h2,h3⟩⟩) hown hos htp hout hsz hkeep fun hlow hle=>
  .inr ⟨rfl,r, .dI ents,ms,clk,by simp only[dV],hlow,hb,rfl,VR.cc hle hF,hbn⟩
theorem dy.put {w0:World} {c:Cx} (h:dy w0 c) {b:Nat} {e:TypeId} {sz:Nat} (d:AV) {es:List AV} {w':World} {blk o z:Nat} {arr:Array Value} (hz:0<sz)
 (hold:¬c.U b\/∃e0 d0 es0,c.H b=some (.row e0 sz d0 es0)/\((es0.length=es.length/\c.ρ b=some (blk,o,z))\/es0.length<es.length))
 (hown:blk=c.w.heap.size\/∃k o0 z0,c.H b=some k/\c.ρ b=some (blk,o0,z0))
 (hos:w'.os=c.w.os) (htp:w'.tape=c.w.tape) (hout:w'.output=c.w.output) (hsz:c.w.heap.size<=w'.heap.size)
 (hkeep:∀k,k<c.w.heap.size->k≠blk->w'.heap[k]?=c.w.heap[k]?)
 (hb:w'.heap[blk]?=some (.cells arr e (0,0))) (harr:o+z<=arr.size/\(e∈XT->o=0/\(arr.size=sz\/sz=1))) (hlen:es.length * sz<=z)
 (hel:∀i,i<es.length->∃v,At w' blk (o+i * sz) sz v/\VR c (es.getD i .any) v):
 dy w0 { c with ρ:=fU c.ρ b (some (blk,o,z)),H:=fU c.H b (some (.row e sz d es)),U:=fun x=>c.U x\/x=b,w:=w' }/\
 c.le { c with ρ:=fU c.ρ b (some (blk,o,z)),H:=fU c.H b (some (.row e sz d es)),U:=fun x=>c.U x\/x=b,w:=w' }:=
 h.qc d hz hold (hown.imp (fun e=>by omega) id) hos htp hout hsz hkeep hb harr hlen fun hle i hi=>by
  obtain⟨v,h1,h2⟩:=hel i hi
  exact⟨v,h1,VR.cc hle h2⟩
theorem dy.JM {w0:World} {c:Cx} (h:dy w0 c) {b:Nat} {e:TypeId} {sz:Nat} (d:AV) (hz:0<sz) (hold:¬c.U b):
 dy w0 { c with ρ:=fU c.ρ b none,H:=fU c.H b (some (.row e sz d [])),U:=fun x=>c.U x\/x=b }/\
 c.le { c with ρ:=fU c.ρ b none,H:=fU c.H b (some (.row e sz d [])),U:=fun x=>c.U x\/x=b }:=by
 have hle:c.le { c with ρ:=fU c.ρ b none,H:=fU c.H b (some (.row e sz d [])),U:=fun x=>c.U x\/x=b }:=by
  refine⟨fun _ h=> .inl h,Nat.le_refl _,fun x hm _=>⟨rfl, ?_⟩,fun x hx e' sz' d' es' he=> ?_⟩
  ·rintro(h0|⟨y,k,o',z',hk,hρ⟩)
   ·exact hm (.inl h0)
   ·by_cases hy:y=b
    ·subst hy
     simp only[dV] at hρ
     cases hρ
    ·simp only[eV _ _ hy] at hk hρ
     exact hm (.inr ⟨y,k,o',z',hk,hρ⟩)
  ·by_cases hxb:x=b
   ·subst hxb;exact absurd hx hold
   ·simp only[eV _ _ hxb] at he
    exact⟨_,_,_,he, .inl ⟨rfl,eV _ _ hxb⟩⟩
 refine⟨⟨h.below,h.m0,fun x e' sz' d' es' he=> ?_, ?_⟩,hle⟩
 ·by_cases hxb:x=b
  ·subst hxb
   simp only[dV,Option.some.injEq,fH.row.injEq] at he
   obtain⟨rfl,rfl,rfl,rfl⟩:=he
   exact⟨.inr rfl, .inl ⟨hz, .inl ⟨by simp only[dV],rfl⟩⟩⟩
  ·simp only[eV _ _ hxb] at he
   obtain⟨h1,hr⟩:=h.row x _ _ _ _ he
   exact⟨.inl h1,hr.cc hle (eV _ _ hxb) fun _ _ _ _ _=>rfl⟩
 ·intro x y k k' bl o1 z1 o2 z2 hx hy hρx hρy
  by_cases hxb:x=b
  ·subst hxb;simp only[dV] at hρx;cases hρx
  ·by_cases hyb:y=b
   ·subst hyb;simp only[dV] at hρy;cases hρy
   ·simp only[eV _ _ hxb,eV _ _ hyb] at hx hy hρx hρy
    exact h.inj x y k k' _ _ _ _ _ hx hy hρx hρy
end Go.cw
/- From the model's operations to ours: what each step does, once for all programs. First half: operations that only look. -/
namespace Go.cw
open Go.RowKit
def FR (c:Cx) (fr:Fr) (tmps:Array Value):Prop:=∀t,VR c (cq fr t) (tmps.getD t undef)
def j6 (c:Cx) (id:Nat) (ρ:Nat->Option (Nat×Nat×Nat)) (H:Nat->Option fH) (w:World):Cx:=⟨ρ,H,fun x=>c.U x\/x=id,w,c.M0⟩
def eU (P:Program) (o:Oper) (a:Act) (w0:World) (c:Cx) (id:Nat) (r:AV) (H:Nat->Option fH):Prop:=
 ∀(K:Act->World->Prop) (Q:Exit->Act->World->Prop),(∀v ρ w,dy w0 (j6 c id ρ H w)->c.le (j6 c id ρ H w)->VR (j6 c id ρ H w) r v->K (a.put o.dst v) w)->o.wp P a c.w K Q
section
variable {P:Program} {o:Oper} {a:Act} {w0:World} {c:Cx} {id:Nat} {fr:Fr}
theorem NX (h:dy w0 c):dy w0 (j6 c id c.ρ c.H c.w)/\c.le (j6 c id c.ρ c.H c.w):=h.used (U:=fun x=>c.U x\/x=id) fun _ h=> .inl h
theorem cR {r:AV} {v:Value} (h:dy w0 c) (hr:(execOp a.eval o).run P c.w= .ok (.value v) c.w) (hv:VR c r v):eU P o a w0 c id r c.H:=by
 intro K Q hK
 unfold Oper.wp
 rw[hr,Oper.upon_value]
 obtain⟨h1,h2⟩:=NX (id:=id) h
 exact hK v c.ρ c.w h1 h2 (VR.cc h2 hv)
def cQ:Operand->Option eO
 | .tmp t=>some (.t t)
 | .const v=>some (.c v)
 | .func f=>some (.f f)
 | .global _=>none
theorem gY {x:Operand} {y:eO} (hF:FR c fr a.tmps) (h:cQ x=some y):VR c (ev fr y) (a.eval x):=by
 cases x<;>simp only[cQ,Option.some.injEq,reduceCtorEq] at h
 ·subst h;exact hF _
 ·subst h;simp only[ev,Act.eval];rw[VR]
 ·subst h;simp only[ev,Act.eval];rw[VR];exact⟨#[],#[],rfl,by rw[cu],by rw[cu]⟩
def gX (P:Program) (t:TypeId):Option Bool:=
 match P.underlying t with
 |some (.struct _)=>some true
 |some (.array _ _)=>some true
 |some _=>some false
 |none=>none
def kq (P:Program) (t:TypeId):Option Nat:=(P.info? t).map (·.size)
def zT (P:Program) (t:TypeId):Option (Nat×Bool×List Value):=
 match P.info? t,gX P t with
 |some i,some ag=>match i.zero with
  |some (.agg cs)=>if ag&&cs.size==i.size&&decide (0<i.size)&&cs.all (·.oneCell') then some (i.size,true,cs.toList) else none
  |some v=>if !ag&&i.size==1&&v.oneCell' then some (1,false,[v]) else none
  |none=>none
 |_,_=>none
theorem oZ {t:TypeId} {ag:Bool} (h:gX P t=some ag) (w:World):(isAgg t).run P w= .ok ag w:=by
 unfold gX at h
 cases hu:P.underlying t with
 |none=>rw[hu] at h;simp at h
 |some d=>
  rw[hu] at h
  unfold isAgg
  simp only[Sem.run_bind,run_underlying hu,Result.andThen_ok]
  cases d<;>simp only[Option.some.injEq] at h<;>subst h<;>rfl
theorem run_sizeOf {t:TypeId} {k:Nat} (h:kq P t=some k) (w:World):(sizeOf t).run P w= .ok k w:=by
 unfold kq at h
 cases hi:P.info? t with
 |none=>rw[hi] at h;simp at h
 |some i=>rw[hi] at h;simp at h;simp[sizeOf,typeInfo,hi,h]
theorem VR.JI {x:AV} {v:Value} (h:VR c x v) (ho:one x=true):v.oneCell'=true:=by
 cases x<;>simp only[one,Bool.false_eq_true] at ho<;>rw[VR] at h
 ·subst h;exact ho
 ·obtain⟨_,_,rfl,_⟩:=h;rfl
 ·obtain⟨_,_,_,_,rfl,_⟩:=h;rfl
 ·obtain⟨_,_,_,rfl,_⟩:=h;rfl
 ·obtain⟨_,_,_,rfl,_⟩:=h;rfl
 ·obtain⟨_,rfl⟩:=h;rfl
 ·obtain⟨_,_,rfl,_⟩:=h;rfl
 ·obtain⟨_,rfl,_⟩:=h;rfl
 ·obtain⟨_,_,rfl,_⟩:=h;rfl
 ·obtain⟨_,rfl⟩:=h;rfl
 ·obtain⟨_,_,_,_,rfl,_⟩:=h;rfl
theorem cells_one {v:Value} (h:v.oneCell'=true):v.cells=#[v]:=by cases v<;>first|rfl|simp[Value.oneCell'] at h
theorem cu.length {as:List AV}:∀{vs:List Value},cu c as vs->vs.length=as.length:=by
 induction as with
 |nil=>intro vs h;rw[cu] at h;simp[h]
 |cons x as ih=>intro vs h;rw[cu] at h;obtain⟨v,vs',rfl,_,h2⟩:=h;simp[ih h2]
theorem cu.get {as:List AV}:∀{vs:List Value},cu c as vs->∀i (_:i<as.length),∃v,vs[i]?=some v/\VR c (as.getD i .any) v:=by
 induction as with
 |nil=>intro vs _ i hi;simp at hi
 |cons x as ih=>
  intro vs h i hi
  rw[cu] at h
  obtain⟨v,vs',rfl,h1,h2⟩:=h
  cases i with
  |zero=>exact⟨v,rfl,by simpa using h1⟩
  |succ i=>simpa using ih h2 i (by simpa using hi)
theorem cu.mk {as:List AV}:∀{vs:List Value},vs.length=as.length->(∀i,i<as.length->∀v,vs[i]?=some v->VR c (as.getD i .any) v)->cu c as vs:=by
 induction as with
 |nil=>intro vs hl _;rw[cu];exact List.eq_nil_of_length_eq_zero hl
 |cons x as ih=>
  intro vs hl h
  cases vs with
  |nil=>simp at hl
  |cons v vs=>
   rw[cu]
   refine⟨v,vs,rfl,by simpa using h 0 (by simp) v rfl,ih (by simpa using hl) fun i hi u hu=> ?_⟩
   simpa using h (i+1) (by simpa using hi) u (by simpa using hu)
theorem cu.drop {as:List AV} (n:Nat):∀{vs:List Value},cu c as vs->cu c (as.drop n) (vs.drop n):=by
 induction n generalizing as with
 |zero=>intro vs h;simpa using h
 |succ n ih=>
  intro vs h
  cases as with
  |nil=>rw[cu] at h;subst h;simp;rw[cu]
  |cons x as=>rw[cu] at h;obtain⟨v,vs',rfl,_,h2⟩:=h;simpa using ih h2
theorem cu.take {as:List AV} (n:Nat):∀{vs:List Value},cu c as vs->cu c (as.take n) (vs.take n):=by
 induction n generalizing as with
 |zero=>intro vs _;simp;rw[cu]
 |succ n ih=>
  intro vs h
  cases as with
  |nil=>rw[cu] at h;subst h;simp;rw[cu]
  |cons x as=>rw[cu] at h;obtain⟨v,vs',rfl,h1,h2⟩:=h;simp;rw[cu];exact⟨v,_,rfl,h1,ih h2⟩
theorem cu.append {as bs:List AV} {us:List Value} (h2:cu c bs us):∀{vs:List Value},cu c as vs->cu c (as++bs) (vs++us):=by
 induction as with
 |nil=>intro vs h;rw[cu] at h;subst h;simpa using h2
 |cons x as ih=>intro vs h;rw[cu] at h;obtain⟨v,vs',rfl,h1,h3⟩:=h;simp;rw[cu];exact⟨v,_,rfl,h1,ih h3⟩
theorem cu.sc (vs:List Value):cu c (vs.map .sc) vs:=by
 induction vs with
 |nil=>simp;rw[cu]
 |cons v vs ih=>simp;rw[cu];exact⟨v,vs,rfl,by rw[VR],ih⟩
theorem yu {as:List AV} (h:jM as=true):∀i,i<as.length->one (as.getD i .any)=true:=by
 induction as with
 |nil=>intro i hi;simp at hi
 |cons x as ih=>
  simp only[jM,Bool.and_eq_true] at h
  intro i hi
  cases i with
  |zero=>simpa using h.1
  |succ i=>simpa using ih h.2 i (by simpa using hi)
theorem cu.N0 {as:List AV} {vs:List Value} (h:cu c as vs) (ho:jM as=true):∀v∈vs,v.oneCell'=true:=by
 intro v hv
 obtain⟨i,hi,rfl⟩:=List.mem_iff_getElem.1 hv
 have hl:=h.length
 obtain⟨u,hu,hr⟩:=h.get i (by omega)
 rw[List.getElem?_eq_getElem hi] at hu
 cases hu
 exact hr.JI (yu ho i (by omega))
theorem VR.cells {x:AV} {v:Value} {cs:List AV} (h:VR c x v) (hc:cellsOf x=some cs):cu c cs v.cells.toList/\∀u∈v.cells.toList,u.oneCell'=true:=by
 by_cases ha:∃ys,x= .agg ys
 ·obtain⟨ys,rfl⟩:=ha
  simp only[cellsOf,Option.ite_none_right_eq_some,Option.some.injEq] at hc
  obtain⟨ho,rfl⟩:=hc
  rw[VR] at h
  obtain⟨vs,rfl,hr⟩:=h
  exact⟨hr,hr.N0 ho⟩
 ·have h1:one x=true/\cs=[x]:=by
   cases x<;>simp_all[cellsOf]
  obtain⟨h1,rfl⟩:=h1
  have h2:=h.JI h1
  rw[cells_one h2]
  refine⟨by rw[cu];exact⟨v,[],rfl,h,by rw[cu]⟩,by simpa using h2⟩
/-! ### loads -/
theorem vG {t:TypeId} {ag:Bool} {k:Nat} (hg:gX P t=some ag) (hk:kq P t=some k) (w:World) (blk off:Nat) (cs:List Value) (hl:cs.length=k)
 (hc:∀j,j<k->w.cell? ⟨blk,off+j,none⟩=cs[j]?) (v:Value) (hv:if ag then v= .agg cs.toArray else k=1/\cs=[v]):
 (loadVar t ⟨blk,off,none⟩).run P w= .ok v w:=by
 unfold loadVar
 simp only[Sem.run_bind,oZ hg,Result.andThen_ok]
 have hadd:∀j,(⟨blk,off,none⟩:Addr).add j=⟨blk,off+j,none⟩:=fun j=>Addr.add_lit _ _ _
 cases ag with
 |true=>
  simp only[if_true] at hv ⊢
  subst hv
  simp only[Sem.run_bind,run_sizeOf hk,Result.andThen_ok]
  rw[<-hl,run_loadCells_list w _ cs]
  ·simp
  ·intro j u hu
   rw[hadd,hc j (by have:=(List.getElem?_eq_some_iff.1 hu).1;omega),hu]
 |false=>
  simp only[Bool.false_eq_true,if_false] at hv ⊢
  obtain⟨rfl,rfl⟩:=hv
  have:=hc 0 (by omega)
  simp at this
  simp[run_load,this]
theorem uc {t:TypeId} {ag:Bool} {k:Nat} (hg:gX P t=some ag) (hk:kq P t=some k)
 {blk off:Nat} {e r:AV} {sz i:Nat} {v:Value} (hat:At c.w blk off sz v) (hv:VR c e v) (hoff:i<sz) (hr:AF ag k e sz i=some r) (hk1:ag=false->k=1):
 ∃u,(loadVar t ⟨blk,off+i,none⟩).run P c.w= .ok u c.w/\VR c r u:=by
 obtain⟨h1,h2,h3⟩:=hat
 have key:∃cs u,cs.length=k/\(∀j,j<k->c.w.cell? ⟨blk,off+i+j,none⟩=cs[j]?)/\(if ag then u=Value.agg cs.toArray else k=1/\cs=[u])/\VR c r u:=by
  cases ag with
  |true=>
   simp only[AF,if_true] at hr ⊢
   split at hr
   ·rename_i hw
    obtain⟨rfl,rfl⟩:=hw
    cases e<;>simp only[Option.some.injEq,reduceCtorEq] at hr
    subst hr
    have hv':=hv
    rw[VR] at hv'
    obtain⟨vs,rfl,hrs⟩:=hv'
    exact⟨vs.toList,_,by simpa[Value.cells] using h1,fun j hj=>by simpa[Value.cells] using h2 j hj,by simp,hv⟩
   ·cases e<;>simp only[reduceCtorEq,Option.ite_none_right_eq_some,Option.some.injEq] at hr
    obtain⟨hle,rfl⟩:=hr
    have hv':=hv
    rw[VR] at hv'
    obtain⟨vs,rfl,hrs⟩:=hv'
    have hlen:=hrs.length
    simp only[Value.cells] at h1 h2
    refine⟨(vs.toList.drop i).take k,_, ?_,fun j hj=> ?_,rfl, ?_⟩
    ·simp only[List.length_take,List.length_drop];omega
    ·rw[List.getElem?_take,if_pos hj,List.getElem?_drop,Nat.add_assoc,h2 (i+j) (by simp at hlen;omega)]
     simp
    ·rw[VR]
     exact⟨_,rfl,by simpa using(hrs.drop i).take k⟩
  |false=>
   simp only[AF,Bool.false_eq_true,if_false] at hr ⊢
   have hk1:k=1:=hk1 rfl
   subst hk1
   have hi:∃u,v.cells[i]?=some u:=⟨_,Array.getElem?_eq_getElem (by omega)⟩
   obtain⟨u,hu⟩:=hi
   refine⟨[u],u,rfl,fun j hj=> ?_,⟨rfl,rfl⟩, ?_⟩
   ·have:j=0:=by omega
    subst this
    simpa[hu] using h2 i hoff
   ·by_cases ha:∃ys,e= .agg ys
    ·obtain⟨ys,rfl⟩:=ha
     simp only[Option.some.injEq] at hr
     subst hr
     rw[VR] at hv
     obtain⟨vs,rfl,hrs⟩:=hv
     simp only[Value.cells] at hu h1
     obtain⟨u',hu',hr'⟩:=hrs.get i (by have:=hrs.length;simp at this;omega)
     have:u'=u:=by
      have h4:vs.toList[i]?=vs[i]?:=by simp
      rw[h4,hu] at hu'
      exact(Option.some.inj hu').symm
     subst this
     exact hr'
    ·by_cases hany:e= .any
     ·subst hany
      simp only[Option.some.injEq] at hr
      subst hr
      rw[VR];trivial
     ·have hone:cw.one e=true/\r=e:=by
       cases e<;>first|exact absurd rfl hany|exact absurd ⟨_,rfl⟩ ha|(simp only[Option.ite_none_right_eq_some,Option.some.injEq] at hr;exact⟨hr.1,hr.2.symm⟩)
      obtain⟨hone,rfl⟩:=hone
      have hc:=cells_one (hv.JI hone)
      rw[hc] at hu h1
      simp at h1
      have:i=0:=by omega
      subst this
      simp at hu
      subst hu
      exact hv
 obtain⟨cs,u,hl,hc,hu,hru⟩:=key
 exact⟨u,vG hg hk c.w blk (off+i) cs hl hc u hu,hru⟩
theorem IG {t:TypeId} {x:Operand} {ag:Bool} {k:Nat} (ho:o.op= .load t x) (hg:gX P t=some ag) (hk:kq P t=some k) (h:dy w0 c)
 {blk off:Nat} {e r:AV} {sz i:Nat} {v:Value} (hx:a.eval x= .pointer (some ⟨blk,off+i,none⟩)) (hat:At c.w blk off sz v) (hv:VR c e v) (hoff:i<sz) (hr:AF ag k e sz i=some r) (hk1:ag=false->k=1):
 eU P o a w0 c id r c.H:=by
 obtain⟨u,hrun,hru⟩:=uc (P:=P) hg hk hat hv hoff hr hk1
 refine cR (v:=u) h ?_ hru
 unfold execOp
 simp only[ho,Instr.loadAt,Instr.sureAddr,hx,Sem.run_bind,Sem.run_pure,Result.andThen_ok]
 rw[hrun]
 rfl
end
end Go.cw
end
