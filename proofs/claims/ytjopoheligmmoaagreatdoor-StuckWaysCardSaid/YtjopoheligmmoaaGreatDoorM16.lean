import Derived.Test.YtjopoheligmmoaaGreatDoorM9
section
/- A run by reduction alone: the code is walked by the reducer; what is to be shown stands out as questions. -/
set_option linter.unusedSimpArgs false
set_option linter.unusedVariables false
namespace Go.cw
open Go.RowKit
structure Ask (p:Prop):Prop where
 ok:p
def eI:Option Bool->Prop->Prop
 |none,p=>Ask p
 |some g,p=>Ask (g=true->p)
def Gd:Option Bool->Prop
 |none=>True
 |some g=>g=true
theorem cm {g:Option Bool} {p:Prop}:eI g p↔(Gd g->p):=by
 cases g with
 |none=>exact⟨fun h _=>h.ok,fun h=>⟨h trivial⟩⟩
 |some g=>exact⟨fun h=>h.ok,fun h=>⟨h⟩⟩
abbrev Ov:=List (Nat×Option Bool×AV)
def rR:Ov->Fr->Nat->Option Bool×AV
 |[],fr,t=>(none,cq fr t)
 |(d,c,v)::r,fr,t=>bif Nat.beq t d then(c,v) else rR r fr t
def iX (ov:Ov) (d:Option Nat) (c:Option Bool) (v:AV):Ov:=
 match d with
 |some d=>(d,c,v)::ov
 |none=>ov
def iy:Ov->Fr->Fr
 |[],fr=>fr
 |(d,none,v)::r,fr=>(d,v)::iy r fr
 |(d,some _,_)::r,fr=>(d, .any)::iy r fr
def fZ (ov:Ov) (fr:Fr):eO->Option Bool×AV
 | .t n=>rR ov fr n
 | .c v=>(none, .sc v)
 | .f n=>(none, .fn (.func n) [] [])
 | .m nm n=>match rR ov fr n with
  |(g, .nA t v)=>(g, .fn (.method nm) [.nA t v] [])
  |(g,_)=>(g, .any)
theorem sx {t d:Nat} (h:¬t=d):Nat.beq t d=false:=by
 cases hb:Nat.beq t d with
 |false=>rfl
 |true=>exact absurd (Nat.eq_of_beq_eq_true hb) h
def qu (f:Fr) (ov:Ov) (fr:Fr):Prop:=
 ∀t,match rR ov fr t with
  |(none,v)=>cq f t=v
  |(some q,v)=>(q=true->cq f t=v)/\(q=false->cq f t= .sc undef)
theorem qu.refl (fr:Fr):qu fr [] fr:=fun _=>rfl
theorem qu.put {f:Fr} {ov:Ov} {fr:Fr} (h:qu f ov fr) (d:Option Nat) (v:AV):qu (gR f d v) (iX ov d none v) fr:=by
 cases d with
 |none=>exact h
 |some d=>
  intro t
  simp only[iX,gR,rR,cq]
  by_cases ht:t=d
  ·subst ht;simp
  ·have:Nat.beq t d=false:=sx ht
   rw[this,if_neg ht];exact h t
theorem qu.qc {f:Fr} {ov:Ov} {fr:Fr} (h:qu f ov fr) (d:Option Nat) {q:Bool} {u v:AV} (h1:q=true->u=v) (h2:q=false->u= .sc undef):qu (gR f d u) (iX ov d (some q) v) fr:=by
 cases d with
 |none=>exact h
 |some d=>
  intro t
  simp only[iX,gR,rR,cq]
  by_cases ht:t=d
  ·subst ht;simpa using⟨h1,h2⟩
  ·have:Nat.beq t d=false:=sx ht
   rw[this,if_neg ht];exact h t
theorem qu.raw {f:Fr} {ov:Ov} {fr:Fr} (h:qu f ov fr) (x:eO) (hq:∀q,(fZ ov fr x).1=some q->q=true):ev f x=(fZ ov fr x).2:=by
 cases x with
 |t n=>
  have:=h n
  simp only[ev,fZ] at hq ⊢
  split at this
  ·rename_i v he;rw[this,he]
  ·rename_i q v he;rw[he] at hq ⊢;exact this.1 (hq q rfl)
 |c v=>rfl
 |f n=>rfl
 |m nm n=>
  have:=h n
  simp only[ev,fZ] at hq ⊢
  generalize rR ov fr n=x at this hq ⊢
  obtain⟨g,v⟩:=x
  have hv:cq f n=v:=by
   cases g with
   |none=>exact this
   |some q=>
    refine this.1 (hq q ?_)
    cases v<;>rfl
  rw[hv]
  cases v<;>rfl
theorem pR {fr:Fr} {t:Nat}:∀{ov:Ov},cq (iy ov fr) t= .any\/∃v,rR ov fr t=(none,v)/\cq (iy ov fr) t=v
 |[]=> .inr ⟨_,rfl,rfl⟩
 |(d,none,v)::r=>by
  simp only[iy,cq,rR]
  by_cases ht:t=d
  ·subst ht;simp
  ·have:Nat.beq t d=false:=sx ht
   rw[this,if_neg ht];exact pR
 |(d,some q,v)::r=>by
  simp only[iy,cq,rR]
  by_cases ht:t=d
  ·subst ht;simp
  ·have:Nat.beq t d=false:=sx ht
   rw[this,if_neg ht];exact pR
abbrev Raw:=eO->Option Bool×AV
def dP (g:Option Bool) (R:Raw) (x:eO) (K:AV->Prop):Prop:=
 match R x with
 |(none,v)=>K v
 |(some q,v)=>eI g (q=true)/\K v
def JH (R:Raw) (x:eO):Prop:=∀q,(R x).1=some q->q=true
theorem cS {g:Option Bool} {R:Raw} {x:eO} {K:AV->Prop} (h:dP g R x K):(Gd g->JH R x)/\K (R x).2:=by
 unfold dP at h
 split at h
 ·rename_i v he;rw[he];exact⟨fun _ q hq=>(by rw[he] at hq;cases hq),h⟩
 ·rename_i q v he
  rw[he]
  exact⟨fun hg q' hq=>(by rw[he] at hq;cases hq;exact cm.1 h.1 hg),h.2⟩
def C4 (K:List AV->Prop):Prop:=K []
def zX (g:Option Bool) (R:Raw) (x:eO) (_:List eO) (ih:(List AV->Prop)->Prop) (K:List AV->Prop):Prop:=dP g R x fun a=>ih fun as=>K (a::as)
noncomputable def lD (g:Option Bool) (R:Raw) (xs:List eO):(List AV->Prop)->Prop:=List.rec (motive:=fun _=>(List AV->Prop)->Prop) C4 (zX g R) xs
theorem ff {g:Option Bool} {R:Raw}:∀{xs:List eO} {K:List AV->Prop},lD g R xs K->(Gd g->∀x∈xs,JH R x)/\K (xs.map fun x=>(R x).2)
 |[],K,h=>⟨fun _ _ h=>(by cases h),h⟩
 |x::r,K,h=>by
  obtain⟨h1,h2⟩:=cS h
  obtain⟨h3,h4⟩:=ff h2
  refine⟨fun hg y hy=> ?_,h4⟩
  rcases List.mem_cons.1 hy with rfl|hy
  ·exact h1 hg
  ·exact h3 hg y hy
theorem mK {f:Fr} {R:Raw}:∀{xs:List eO},(∀x∈xs,ev f x=(R x).2)->vl f xs=xs.map fun x=>(R x).2
 |[],_=>rfl
 |x::r,h=>by
  simp only[vl,List.map_cons]
  rw[h x (by simp),mK fun y hy=>h y (by simp[hy])]
def gk (v:AV) (K:AV->Prop):Prop:=
 match v with
 | .sc v=>K (.sc v)
 | .any=>K .any
 | .im a b c=>K (.im a b c)
 | .ip a b c d e=>K (.ip a b c d e)
 | .sl a b=>K (.sl a b)
 | .pt a b c d=>K (.pt a b c d)
 | .zc=>K .zc
 | .agg a=>K (.agg a)
 | .dI a=>K (.dI a)
 | .fn a b c=>K (.fn a b c)
 | .nA a b=>K (.nA a b)
 | .mp a=>K (.mp a)
 | .ab=>K .ab
 | .sv a b c d=>K (.sv a b c d)
theorem fN (v:AV) (K:AV->Prop):gk v K=K v:=by cases v<;>rfl
def C7 (K:List AV->Prop):Prop:=K []
def z6 (a:AV) (_:List AV) (ih:(List AV->Prop)->Prop) (K:List AV->Prop):Prop:=ih fun r'=>K (a::r')
noncomputable def rQ (l:List AV):(List AV->Prop)->Prop:=List.rec (motive:=fun _=>(List AV->Prop)->Prop) C7 z6 l
theorem jO:∀(l:List AV) (K:List AV->Prop),rQ l K=K l
 |[],_=>rfl
 |a::r,K=>jO r fun r'=>K (a::r')
structure gx (H:Hp) (b:Nat) (K:TypeId->Nat->AV->List AV->Prop):Prop where
 ok:∃e sz d es,bt H b=some (.row e sz d es)/\K e sz d es
theorem gx.of {H:Hp} {b:Nat} {K:TypeId->Nat->AV->List AV->Prop} {e:TypeId} {sz:Nat} {d:AV} {es:List AV} (h:bt H b=some (.row e sz d es)) (k:K e sz d es):gx H b K:=⟨⟨e,sz,d,es,h,k⟩⟩
structure qt (es:List AV) (i:Nat) (d:AV) (K:AV->Prop):Prop where
 ok:K (es.getD i d)
theorem qt.of {es:List AV} {i:Nat} {d:AV} {K:AV->Prop} {e:AV} (h:es.getD i d=e) (k:K e):qt es i d K:=⟨by rw[h];exact k⟩
structure jx {α:Type} (x:Option α) (K:α->Prop):Prop where
 ok:∃a,x=some a/\K a
theorem jx.of {α:Type} {x:Option α} {K:α->Prop} {a:α} (h:x=some a) (k:K a):jx x K:=⟨⟨a,h,k⟩⟩
structure jy {α:Type} (g:Option Bool) (x:Option α) (K:α->Prop):Prop where
 ok:∃a,(Gd g->x=some a)/\K a
theorem jy.of {α:Type} {g:Option Bool} {x:Option α} {K:α->Prop} {a:α} (h:Gd g->x=some a) (k:K a):jy g x K:=⟨⟨a,h,k⟩⟩
structure sD (H:Hp) (b:Nat) (K:TypeId->AV->List AV->Prop):Prop where
 ok:∃e d es,bt H b=some (.row e 0 d (mapA es))/\K e d es
theorem sD.of {H:Hp} {b:Nat} {K:TypeId->AV->List AV->Prop} {e:TypeId} {d:AV} {es:List AV} (h:bt H b=some (.row e 0 d (mapA es))) (k:K e d es):sD H b K:=⟨⟨e,d,es,h,k⟩⟩
def G1 (H:Hp) (v:AV) (K:Nat->TypeId->AV->List AV->Prop):Prop:=
 match v with
 | .mp b=>sD H b (K b)
 |_=>False
theorem ly {H:Hp} {v:AV} {K:Nat->TypeId->AV->List AV->Prop} (h:G1 H v K):∃b e d es,mapOf H v=some (b,e,d,es)/\K b e d es:=by
 cases v<;>simp only[G1] at h
 obtain⟨e,d,es,h1,h2⟩:=h.ok
 exact⟨_,e,d,es,by simp only[mapOf,h1,mapA],h2⟩
structure vZ (g:Option Bool) (k:IntKind) (n:Int) (K:Int->Prop):Prop where
 ok:∃m,(Gd g->k.wrap n=m)/\K m
theorem vZ.of {g:Option Bool} {k:IntKind} {n:Int} {K:Int->Prop} {m:Int} (h:Gd g->k.wrap n=m) (hK:K m):vZ g k n K:=⟨⟨m,h,hK⟩⟩
section
variable (g:Option Bool) (H:Hp)
def ldW (ag:Bool) (k:Nat) (e:AV) (sz off:Nat) (K:AV->Prop):Prop:=
 match ag with
 |true=>match e with
  | .agg cs=>bif Nat.beq off 0&&Nat.beq k sz then K (.agg cs) else eI g (off+k<=cs.length)/\K (.agg ((cs.drop off).take k))
  |_=>False
 |false=>match e with
  | .agg cs=>qt cs off .any fun v=>gk v K
  | .any=>K .any
  |e=>bif one e then gk e K else False
def lookW (v:AV) (K:Nat->AV->Nat->Prop):Prop:=
 match v with
 | .ip sz d es i off=>qt es i d fun e=>K sz e off
 | .pt b len i off=>gx H b fun _ sz d es=>eI g (es.length=len)/\qt es i d fun e=>K sz e off
 |_=>False
def uI (k:Nat) (v:AV) (K:List AV->Prop):Prop:=
 match v with
 | .im sz _ es=>bif Nat.beq sz k then K es else False
 | .sl b len=>gx H b fun _ sz _ es=>eI g (es.length=len/\sz=k)/\K es
 | .sc (.slice none 0 0)=>K []
 | .zc=>K []
 | .sv b len lo n=>gx H b fun _ sz _ es=>eI g (es.length=len/\sz=k)/\K ((es.drop lo).take n)
 |_=>False
noncomputable def qj (R:Raw) (id:Nat) (op:df) (K:AV->Option (Nat×fH)->Prop):Prop:=
 match op with
 | .mv x=>dP g R x fun a=>gk a fun a=>K a none
 | .pick c a b=>dP g R c fun v=>match v with
  | .sc (.bool t)=>
   let rest:=fun(_:Unit)=>gk (qa t (R a).2 (R b).2) fun v=>K v none
   let r2:=fun(_:Unit)=>match(R b).1 with
    |none=>rest ()
    |some q=>eI g (t=false->q=true)/\rest ()
   match(R a).1 with
   |none=>r2 ()
   |some q=>eI g (t=true->q=true)/\r2 ()
  |_=>False
 | .alloc e sz ag z=>eI g (z.length=sz)/\K (.pt id 1 0 0) (some (id, .row e sz (gO ag z) [gO ag z]))
 | .box e sz ag x=>dP g R x fun v=>eI g (fits ag sz v=true)/\K (.pt id 1 0 0) (some (id, .row e sz .any [v]))
 | .U8 z parts=>lD g R (parts.map (·.2.2)) fun as=>jx (sK (z.map .sc) (List.zipWith (fun p a=>(p.1,p.2.1,a)) parts as)) fun cs=>K (.agg cs) none
 | .R8 e sz ag z n parts=>lD g R (parts.map (·.2)) fun as=>
  eI g (z.length=sz/\(List.zipWith (fun p a=>(p.1,a)) parts as).all (fun p=>decide (p.1<n)&&fits ag sz p.2)=true)/\
  K (.sl id n) (some (id, .row e sz (gO ag z) ((List.zipWith (fun p a=>(p.1,a)) parts as).foldl (fun l p=>l.set p.1 p.2) (List.replicate n (gO ag z)))))
 | .ld ag k x=>dP g R x fun v=>lookW g H v fun sz e off=>ldW g ag k e sz off fun r=>K r none
 | .st ag k x y=>dP g R x fun v=>dP g R y fun yv=>match v with
  | .pt b len i off=>gx H b fun e sz d es=>eI g (es.length=len)/\qt es i d fun iB=>jx (UP ag k iB yv sz off) fun e'=>K .any (some (b, .row e sz d (es.set i e')))
  |_=>False
 | .UC x=>dP g R x fun v=>match v with
  | .pt b len i off=>K (.pt b len i off) none
  | .ip sz d es i off=>K (.ip sz d es i off) none
  | .fn (.func f) p q=>K (.fn (.func f) p q) none
  | .nA t v=>K (.nA t v) none
  |_=>False
 | .bin op x y=>dP g R x fun a=>dP g R y fun b=>match op,a,b with
  | .add, .sc (.int k a), .sc (.int k' b)=>eI g (k=k')/\vZ g k (a+b) fun m=>K (.sc (.int k m)) none
  | .sub, .sc (.int k a), .sc (.int k' b)=>eI g (k=k')/\vZ g k (a - b) fun m=>K (.sc (.int k m)) none
  | .mul, .sc (.int k a), .sc (.int k' b)=>eI g (k=k')/\vZ g k (a * b) fun m=>K (.sc (.int k m)) none
  | .eql, .sc (.int k a), .sc (.int k' b)=>eI g (k=k')/\K (.sc (.bool (decide (a=b)))) none
  | .neq, .sc (.int k a), .sc (.int k' b)=>eI g (k=k')/\K (.sc (.bool (decide (a≠b)))) none
  | .lss, .sc (.int k a), .sc (.int k' b)=>eI g (k=k')/\K (.sc (.bool (decide (a<b)))) none
  | .leq, .sc (.int k a), .sc (.int k' b)=>eI g (k=k')/\K (.sc (.bool (decide (a<=b)))) none
  | .gtr, .sc (.int k a), .sc (.int k' b)=>eI g (k=k')/\K (.sc (.bool (decide (b<a)))) none
  | .geq, .sc (.int k a), .sc (.int k' b)=>eI g (k=k')/\K (.sc (.bool (decide (b<=a)))) none
  | .quo, .sc (.int k a), .sc (.int k' b)=>eI g (k=k'/\b≠0)/\K (.sc (.int k (k.wrap (a.tdiv b)))) none
  | .rem, .sc (.int k a), .sc (.int k' b)=>eI g (k=k'/\b≠0)/\K (.sc (.int k (a.tmod b))) none
  | .and, .sc (.int k a), .sc (.int k' b)=>eI g (k=k')/\K (.sc (.int k (k.wrap (BitVec.ofInt k.bits a&&& BitVec.ofInt k.bits b).toNat))) none
  | .or, .sc (.int k a), .sc (.int k' b)=>eI g (k=k')/\K (.sc (.int k (k.wrap (BitVec.ofInt k.bits a|||BitVec.ofInt k.bits b).toNat))) none
  | .xor, .sc (.int k a), .sc (.int k' b)=>eI g (k=k')/\K (.sc (.int k (k.wrap (BitVec.ofInt k.bits a^^^BitVec.ofInt k.bits b).toNat))) none
  | .andNot, .sc (.int k a), .sc (.int k' b)=>eI g (k=k')/\K (.sc (.int k (k.wrap (BitVec.ofInt k.bits a&&& ~~~(BitVec.ofInt k.bits b)).toNat))) none
  | .shl, .sc (.int k a), .sc (.int _ b)=>eI g (0<=b)/\K (.sc (.int k (k.wrap (a * 2^(min b.toNat k.bits))))) none
  | .shr, .sc (.int k a), .sc (.int _ b)=>eI g (0<=b)/\K (.sc (.int k (a.fdiv (2^(min b.toNat k.bits))))) none
  |_,_,_=>False
 | .VB neg x y=>dP g R x fun a=>dP g R y fun b=>match a,b with
  | .sc (.bool p), .sc (.bool q)=>(match neg with
   |true=>K (.sc (.bool (p != q))) none
   |false=>K (.sc (.bool (p==q))) none)
  |_,_=>False
 | .wU neg x y=>dP g R x fun a=>dP g R y fun b=>match a,b with
  | .sc (.string p), .sc (.string q)=>(match neg with
   |true=>K (.sc (.bool (p != q))) none
   |false=>K (.sc (.bool (p==q))) none)
  |_,_=>False
 | .HB op x y=>dP g R x fun a=>dP g R y fun b=>match a,b with
  | .sc (.string p), .sc (.string q)=>(match op with
   | .add=>eI g (p.size+q.size<=9223372036854775807)/\K (.sc (.string (p++q))) none
   | .lss=>K (.sc (.bool (Op.bytesLess p.toList q.toList))) none
   |_=>False)
  |_,_=>False
 | .PU sz ag z x=>dP g R x fun v=>match v with
  | .sv b len lo n=>gx H b fun e s d es=>eI g (es.length=len/\s=sz/\lo+n<=len)/\K (.dI []) (some (b, .row e s d (es.take lo++List.replicate n (gO ag z)++es.drop (lo+n))))
  |_=>False
 | .TA x=>dP g R x fun v=>uI g H 1 v fun xs=>jy g (mD xs) fun ns=>K (.sc (.string (KB ns))) none
 | .un op x=>dP g R x fun a=>match op,a with
  | .not, .sc (.bool b)=>K (.sc (.bool !b)) none
  | .neg, .sc (.int k n)=>vZ g k (0 - n) fun m=>K (.sc (.int k m)) none
  |_,_=>False
 | .V0 k x=>dP g R x fun a=>match a with
  | .sc (.int _ n)=>vZ g k n fun m=>K (.sc (.int k m)) none
  |_=>False
 | .fa off x=>dP g R x fun a=>match a with
  | .ip sz d es i o=>eI g (o+off<sz)/\K (.ip sz d es i (o+off)) none
  | .pt b len i o=>gx H b fun _ sz _ es=>eI g (es.length=len/\o+off<sz)/\K (.pt b len i (o+off)) none
  |_=>False
 | .ia k n x i=>dP g R x fun v=>dP g R i fun iv=>match iv with
  | .sc (.int _ j)=>
   (match n with
    |none=>match v with
     | .im sz d es=>eI g (k=sz)/\eI g (0<=j/\j<es.length)/\K (.ip sz d es j.toNat 0) none
     | .sl b len=>gx H b fun _ sz _ es=>eI g (es.length=len/\k=sz)/\eI g (0<=j/\j<len)/\K (.pt b len j.toNat 0) none
     | .sv b len lo m=>gx H b fun _ sz _ es=>eI g (es.length=len/\k=sz)/\eI g (0<=j/\j<m)/\K (.pt b len (lo+j.toNat) 0) none
     |_=>False
    |some m=>match v with
     | .ip sz d es i off=>eI g (off+m * k<=sz)/\eI g (0<=j/\j<m)/\K (.ip sz d es i (off+j.toNat * k)) none
     | .pt b len i off=>gx H b fun _ sz _ es=>eI g (es.length=len/\off+m * k<=sz)/\eI g (0<=j/\j<m)/\K (.pt b len i (off+j.toNat * k)) none
     |_=>False)
  |_=>False
 | .V7 off k ag x=>dP g R x fun v=>match v with
  | .agg cs=>(match ag with
   |true=>eI g (off+k<=cs.length)/\K (.agg ((cs.drop off).take k)) none
   |false=>eI g (off+k<=cs.length/\k=1)/\qt cs off .any fun v=>gk v fun v=>K v none)
  |_=>False
 | .ix k ag n x i=>dP g R x fun v=>dP g R i fun iv=>match v,iv with
  | .agg cs, .sc (.int _ j)=>eI g (n * k=cs.length)/\eI g (0<=j/\j<n)/\(match ag with
   |true=>K (.agg ((cs.drop (j.toNat * k)).take k)) none
   |false=>eI g (k=1)/\qt cs (j.toNat * k) .any fun v=>gk v fun v=>K v none)
  |_,_=>False
 | .WI x i=>dP g R x fun v=>dP g R i fun iv=>match v,iv with
  | .sc (.string s), .sc (.int _ j)=>eI g (0<=j/\j<s.size)/\K (.sc (.int .u8 (s.data.toList.getD j.toNat 0).toNat)) none
  |_,_=>False
 | .lens x=>dP g R x fun v=>match v with
  | .sc (.string s)=>K (.sc (.int .i64 s.size)) none
  |_=>False
 | .T9 e sz bytes ag z l c=>dP g R l fun lv=>dP g R c fun cv=>match lv,cv with
  | .sc (.int _ n), .sc (.int _ m)=>eI g (z.length=sz/\n=m)/\eI g (0<=n/\n * bytes<=281474976710656/\n<=9223372036854775807)/\
   K (.sl id n.toNat) (some (id, .row e sz (gO ag z) (List.replicate n.toNat (gO ag z))))
  |_,_=>False
 | .ext i x=>dP g R x fun v=>match v with
  | .dI vs=>eI g (i<vs.length)/\qt vs i .any fun v=>gk v fun v=>K v none
  |_=>False
 | .VF f first caps=>lD g R first fun a=>lD g R caps fun b=>K (.fn f a b) none
 | .ZB t x=>dP g R x fun v=>K (.nA t v) none
 | .len x=>dP g R x fun v=>match v with
  | .im _ _ es=>K (.sc (.int .i64 (es.length:Int))) none
  | .sl b len=>gx H b fun _ _ _ es=>eI g (es.length=len)/\K (.sc (.int .i64 (len:Int))) none
  | .sc (.slice none 0 0)=>K (.sc (.int .i64 0)) none
  | .zc=>K (.sc (.int .i64 0)) none
  | .sv _ _ _ n=>K (.sc (.int .i64 (n:Int))) none
  |_=>False
 | .app e sz bytes ag z s x=>dP g R s fun sv=>dP g R x fun xv=>uI g H sz xv fun xs=>eI g (z.length=sz)/\match sv with
  | .sc (.slice none 0 0)=>eI g (xs.length * bytes<=iA)/\K (.sl id xs.length) (some (id, .row e sz (gO ag z) xs))
  | .sl b len=>gx H b fun e' sz' d es=>eI g (es.length=len/\e'=e/\sz'=sz)/\eI g ((len+xs.length) * bytes<=iA)/\K (.sl b (len+xs.length)) (some (b, .row e sz d (es++xs)))
  |_=>False
 | .K8 e bytes z s x=>dP g R s fun sv=>dP g R x fun xv=>match xv with
  | .sc (.string q)=>(match sv with
   | .sc (.slice none 0 0)=>eI g ((cW q).length * bytes<=iA)/\K (.sl id (cW q).length) (some (id, .row e 1 z (cW q)))
   | .sl b len=>gx H b fun e' sz' d es=>eI g (es.length=len/\e'=e/\sz'=1)/\eI g ((len+(cW q).length) * bytes<=iA)/\K (.sl b (len+(cW q).length)) (some (b, .row e 1 d (es++cW q)))
   |_=>False)
  |_=>False
 | .JD neg x=>dP g R x fun v=>match v with
  | .pt _ _ _ _=>K (.sc (.bool neg)) none
  | .ip _ _ _ _ _=>K (.sc (.bool neg)) none
  | .sc (.pointer none)=>K (.sc (.bool !neg)) none
  |_=>False
 | .AW neg x=>dP g R x fun v=>jx (uo H v) fun t=>gk (sd neg t) fun v=>K v none
 | .eqs neg ks x y=>dP g R x fun a=>dP g R y fun b=>match a,b with
  | .agg as, .agg bs=>jx (L0 ks as bs) fun t=>(match neg with
   |true=>K (.sc (.bool !t)) none
   |false=>K (.sc (.bool t)) none)
  |_,_=>False
 | .R6 e n=>K (.pt id n 0 0) (some (id, .row e 1 (.sc (.int .u8 0)) (List.replicate n (.sc (.int .u8 0)))))
 | .bad=>False
 | .TW n x i=>dP g R x fun v=>dP g R i fun iv=>match v,iv with
  | .pt b len 0 0, .sc (.int _ j)=>gx H b fun _ sz _ es=>eI g (len=n/\es.length=n/\sz=1)/\eI g (0<=j/\j<n)/\K (.pt b n j.toNat 0) none
  |_,_=>False
 | .UM n x i=>dP g R x fun v=>dP g R i fun iv=>match v,iv with
  | .pt b len 0 0, .sc (.int _ j)=>gx H b fun _ sz _ es=>eI g (len=n/\es.length=n/\sz=1)/\eI g (0<=j/\j<n)/\K (.sv b n j.toNat (n - j.toNat)) none
  |_,_=>False
 | .VI sz x h m=>dP g R x fun v=>dP g R h fun a=>dP g R m fun b=>jx (J3 sz a b v) fun r=>gk r fun r=>K r none
 | .RI sz x lo hi=>dP g R x fun v=>lD g R (lo.toList++hi.toList) fun bs=>
  jx (vJ H sz (match lo with|some _=>bs[0]?|none=>none) (match hi with|some _=>(match lo with|some _=>bs[1]?|none=>bs[0]?)|none=>none) v) fun r=>gk r fun r=>K r none
 | .P1 sz x y=>dP g R x fun xv=>dP g R y fun yv=>match xv with
  | .sl b len=>uI g H sz yv fun xs=>gx H b fun e s d es=>eI g (es.length=len/\s=sz)/\
   K (.sc (.int .i64 (Nat.min xs.length len:Nat))) (some (b, .row e s d (xs.take (Nat.min xs.length len)++es.drop (Nat.min xs.length len))))
  |_=>False
 | .call _ _=>False
 | .SQ kt=>K (.mp id) (some (id, .row kt 0 .any (mapA [])))
 | .QU str ag z ok x k=>dP g R x fun v=>dP g R k fun kv=>match kv with
  | .sc kv=>G1 H v fun _ _ _ es=>eI g (kZ str kv=true)/\jy g (na str kv es (gO ag z)) fun p=>match ok with
   |true=>K (.dI [p.1, .sc (.bool p.2)]) none
   |false=>gk p.1 fun v=>K v none
  |_=>False
 | .KT str x k y=>dP g R x fun v=>dP g R k fun kv=>dP g R y fun yv=>match kv with
  | .sc kv=>G1 H v fun b e d es=>eI g (kZ str kv=true)/\jy g (qW str kv es yv) fun es'=>K .any (some (b, .row e 0 d (mapA es')))
  |_=>False
 | .DO x=>dP g R x fun v=>G1 H v fun _ _ _ es=>K (.sc (.int .i64 (es.length:Nat))) none
 | .del str x k=>dP g R x fun v=>dP g R k fun kv=>match kv with
  | .sc kv=>G1 H v fun b e d es=>eI g (kZ str kv=true)/\jy g (ZA str kv es) fun es'=>K (.dI []) (some (b, .row e 0 d (mapA es')))
  |_=>False
 | .HA sz v=>K (.agg (List.replicate sz (.sc v))) none
 | .yw e sz v=>K (.pt id 1 0 0) (some (id, .row e sz (.agg (List.replicate sz (.sc v))) [.agg (List.replicate sz (.sc v))]))
 | .ZN t ok ag z x=>dP g R x fun v=>match v with
  | .nA t' v=>(bif Nat.beq t' t then(match ok with
   |true=>K (.dI [v, .sc (.bool true)]) none
   |false=>gk v fun v=>K v none) else(match ok with
   |true=>K (.dI [gO ag z, .sc (.bool false)]) none
   |false=>False))
  |_=>False
end
theorem F0 {f:Fr} {R:Raw}:∀{ps:List (Nat×Nat×eO)},(∀x∈ps.map (·.2.2),ev f x=(R x).2)->SC f ps=List.zipWith (fun p a=>(p.1,p.2.1,a)) ps ((ps.map (·.2.2)).map fun x=>(R x).2)
 |[],_=>rfl
 |(i,j,x)::ps,h=>by
  simp only[SC,List.map_cons,List.zipWith_cons_cons]
  rw[h x (by simp),F0 fun y hy=>h y (by simp only[List.map_cons,List.mem_cons];exact .inr hy)]
theorem F2 {f:Fr} {R:Raw}:∀{ps:List (Nat×eO)},(∀x∈ps.map (·.2),ev f x=(R x).2)->F1 f ps=List.zipWith (fun p a=>(p.1,a)) ps ((ps.map (·.2)).map fun x=>(R x).2)
 |[],_=>rfl
 |(i,x)::ps,h=>by
  simp only[F1,List.map_cons,List.zipWith_cons_cons]
  rw[h x (by simp),F2 fun y hy=>h y (by simp only[List.map_cons,List.mem_cons];exact .inr hy)]
theorem IX {g:Option Bool} {ag:Bool} {k:Nat} {e:AV} {sz off:Nat} {K:AV->Prop} (h:ldW g ag k e sz off K):∃r,K r/\(Gd g->AF ag k e sz off=some r):=by
 unfold ldW at h
 cases ag with
 |true=>
  simp only at h
  cases e
  case agg cs=>
   simp only at h
   by_cases hb:off=0/\k=sz
   ·have hb':(Nat.beq off 0&&Nat.beq k sz)=true:=by
     obtain⟨rfl,rfl⟩:=hb;simp
    rw[hb'] at h
    exact⟨_,h,fun _=>by simp[AF,hb.1,hb.2]⟩
   ·have hb':(Nat.beq off 0&&Nat.beq k sz)=false:=by
     cases hc:(Nat.beq off 0&&Nat.beq k sz) with
     |false=>rfl
     |true=>
      rw[Bool.and_eq_true] at hc
      exact absurd ⟨Nat.eq_of_beq_eq_true hc.1,Nat.eq_of_beq_eq_true hc.2⟩ hb
    rw[hb'] at h
    simp only[cond_false] at h
    refine⟨_,h.2,fun hg=> ?_⟩
    have h1:=cm.1 h.1 hg
    simp only[AF,if_true]
    rw[if_neg hb,if_pos h1]
  all_goals exact h.elim
 |false=>
  have gen:∀e:AV,(bif one e then gk e K else False)->(AF false k e sz off=if one e then some e else none)->∃r,K r/\(Gd g->AF false k e sz off=some r):=by
   intro e h1 h2
   cases ho:one e with
   |true=>rw[ho,cond_true,fN] at h1;exact⟨_,h1,fun _=>by rw[h2,ho];rfl⟩
   |false=>rw[ho] at h1;exact h1.elim
  cases e
  case agg cs=>
   simp only at h
   have:=h.ok
   rw[fN] at this
   exact⟨_,this,fun _=>by simp[AF]⟩
  case any=>exact⟨_,h,fun _=>by simp[AF]⟩
  all_goals exact gen _ h rfl
theorem AL {g:Option Bool} {H:Hp} {v:AV} {K:Nat->AV->Nat->Prop} (h:lookW g H v K):∃sz e off,K sz e off/\(Gd g->k9 H v=some (sz,e,off)):=by
 unfold lookW at h
 split at h
 ·exact⟨_,_,_,h.ok,fun _=>rfl⟩
 ·obtain⟨e,sz,d,es,h1,h2,h3⟩:=h.ok
  refine⟨_,_,_,h3.ok,fun hg=> ?_⟩
  simp only[k9,h1]
  rw[if_pos (cm.1 h2 hg)]
 ·exact h.elim
theorem mJ {g:Option Bool} {H:Hp} {k:Nat} {v:AV} {K:List AV->Prop} (h:uI g H k v K):∃es,K es/\(Gd g->ic H v=some es/\BP H k v=true):=by
 unfold uI at h
 split at h
 ·rename_i sz d es
  cases hb:Nat.beq sz k with
  |true=>rw[hb] at h;exact⟨_,h,fun _=>⟨rfl,by simpa[BP] using hb⟩⟩
  |false=>rw[hb] at h;exact h.elim
 ·obtain⟨e,sz,d,es,h1,h2,h3⟩:=h.ok
  refine⟨_,h3,fun hg=> ?_⟩
  obtain⟨g1,g2⟩:=cm.1 h2 hg
  simp[ic,BP,h1,g1,g2]
 ·exact⟨_,h,fun _=>⟨rfl,rfl⟩⟩
 ·exact⟨_,h,fun _=>⟨rfl,rfl⟩⟩
 ·obtain⟨e,sz,d,es,h1,h2,h3⟩:=h.ok
  refine⟨_,h3,fun hg=> ?_⟩
  obtain⟨g1,g2⟩:=cm.1 h2 hg
  simp[ic,BP,h1,g1,g2]
 ·exact h.elim
set_option maxHeartbeats 4000000 in
theorem kn {g:Option Bool} {H:Hp} {R:Raw} {id:Nat} {op:df} {K:AV->Option (Nat×fH)->Prop} (h:qj g H R id op K):
 ∃r u,K r u/\(Gd g->(op.rd=true->∀x∈op.eT,JH R x)/\∀f,(∀x,JH R x->ev f x=(R x).2)->cM id f H op=some (r,u)):=by
 cases op
 case mv x=>
  obtain⟨h1,h2⟩:=cS h
  rw[fN] at h2
  exact⟨_,_,h2,fun hg=>⟨fun hr=>by simp[df.rd] at hr,fun f hf=>by simp only[cM,hf x (h1 hg)]⟩⟩
 case pick c a b=>
  obtain⟨h1,h2⟩:=cS h
  split at h2
  ·rename_i t ht
   simp only[fN] at h2
   have key:∀{q:Option Bool} {p:Prop} {A:Prop},(match q with|none=>A|some q=>eI g (p->q=true)/\A)->A/\(Gd g->p->∀q',q=some q'->q'=true):=by
    intro q p A h
    cases q with
    |none=>exact⟨h,fun _ _ _ hq=>by cases hq⟩
    |some q=>exact⟨h.2,fun hg hp q' hq=>by cases hq;exact cm.1 h.1 hg hp⟩
   obtain⟨h3,ha⟩:=key h2
   obtain⟨h4,hb⟩:=key h3
   refine⟨_,_,h4,fun hg=>⟨fun hr=>by simp[df.rd] at hr,fun f hf=> ?_⟩⟩
   simp only[cM,hf c (h1 hg),ht]
   congr 2
   cases t with
   |true=>rw[ux,ux,hf a (ha hg rfl)]
   |false=>rw[sW,sW,hf b (hb hg rfl)]
  ·exact h2.elim
 case alloc e sz ag z=>
  refine⟨_,_,h.2,fun hg=>⟨fun hr=>by simp[df.rd] at hr,fun f hf=> ?_⟩⟩
  simp only[cM];rw[if_pos (cm.1 h.1 hg)]
 case box e sz ag x=>
  obtain⟨h1,h2⟩:=cS h
  refine⟨_,_,h2.2,fun hg=>⟨fun hr=>by simp[df.rd] at hr,fun f hf=> ?_⟩⟩
  simp only[cM,hf x (h1 hg)];rw[if_pos (cm.1 h2.1 hg)]
 case U8 z ps=>
  obtain⟨h1,h2⟩:=ff h
  obtain⟨cs,h3,h4⟩:=h2.ok
  refine⟨_,_,h4,fun hg=>⟨fun hr=>by simp[df.rd] at hr,fun f hf=> ?_⟩⟩
  simp only[cM]
  rw[F0 (R:=R) fun x hx=>hf x (h1 hg x hx),h3]
 case R8 e sz ag z n ps=>
  obtain⟨h1,h2⟩:=ff h
  refine⟨_,_,h2.2,fun hg=>⟨fun hr=>by simp[df.rd] at hr,fun f hf=> ?_⟩⟩
  have h3:=cm.1 h2.1 hg
  simp only[cM]
  rw[F2 (R:=R) fun x hx=>hf x (h1 hg x hx),if_pos h3]
 case ld ag k x=>
  obtain⟨h1,h2⟩:=cS h
  obtain⟨sz,e,off,h3,h4⟩:=AL h2
  obtain⟨r,h5,h6⟩:=IX h3
  refine⟨_,_,h5,fun hg=>⟨fun _ y hy=>by simp[df.eT] at hy;subst hy;exact h1 hg,fun f hf=> ?_⟩⟩
  simp only[cM,hf x (h1 hg),h4 hg,h6 hg,Option.map_some]
 case st ag k x y=>
  obtain⟨h1,h2⟩:=cS h
  obtain⟨h3,h4⟩:=cS h2
  split at h4
  ·rename_i b len i off hx
   obtain⟨e,sz,d,es,g1,g2,g3⟩:=h4.ok
   obtain⟨e',g4,g5⟩:=g3.ok.ok
   refine⟨_,_,g5,fun hg=>⟨fun _ z hz=>by simp[df.eT] at hz;rcases hz with rfl|rfl;exact h1 hg;exact h3 hg,fun f hf=> ?_⟩⟩
   simp only[cM,hf x (h1 hg),hf y (h3 hg),hx,g1,g4]
   rw[if_pos (cm.1 g2 hg)]
  ·exact h4.elim
 case UC x=>
  obtain⟨h1,h2⟩:=cS h
  split at h2
  all_goals first
   |exact h2.elim
   |(rename_i hx;exact⟨_,_,h2,fun hg=>⟨fun hr=>by simp[df.rd] at hr,fun f hf=>by simp only[cM,hf x (h1 hg),hx]⟩⟩)
 case bin op x y=>
  obtain⟨h1,h2⟩:=cS h
  obtain⟨h3,h4⟩:=cS h2
  split at h4
  all_goals first
   |exact h4.elim
   |(rename_i hx hy;obtain⟨q1,q2⟩:=h4;obtain⟨m,q3,q4⟩:=q2.ok;refine⟨_,_,q4,fun hg=>⟨fun hr=>by simp[df.rd] at hr,fun f hf=> ?_⟩⟩;simp only[cM,hf x (h1 hg),hf y (h3 hg),hx,hy,G9];rw[if_pos (cm.1 q1 hg),q3 hg];rfl)
   |(rename_i hx hy;refine⟨_,_,h4.2,fun hg=>⟨fun hr=>by simp[df.rd] at hr,fun f hf=> ?_⟩⟩;simp only[cM,hf x (h1 hg),hf y (h3 hg),hx,hy,G9];rw[if_pos (cm.1 h4.1 hg)];rfl)
 case VB neg x y=>
  obtain⟨h1,h2⟩:=cS h
  obtain⟨h3,h4⟩:=cS h2
  split at h4
  ·rename_i p q hx hy
   cases neg
   all_goals exact⟨_,_,h4,fun hg=>⟨fun hr=>by simp[df.rd] at hr,fun f hf=>by simp[cM,hf x (h1 hg),hf y (h3 hg),hx,hy]⟩⟩
  ·exact h4.elim
 case wU neg x y=>
  obtain⟨h1,h2⟩:=cS h
  obtain⟨h3,h4⟩:=cS h2
  split at h4
  ·rename_i p q hx hy
   cases neg
   all_goals exact⟨_,_,h4,fun hg=>⟨fun hr=>by simp[df.rd] at hr,fun f hf=>by simp[cM,hf x (h1 hg),hf y (h3 hg),hx,hy]⟩⟩
  ·exact h4.elim
 case HB op x y=>
  obtain⟨h1,h2⟩:=cS h
  obtain⟨h3,h4⟩:=cS h2
  split at h4
  ·rename_i p q hx hy
   cases op
   case add=>exact⟨_,_,h4.2,fun hg=>⟨fun hr=>by simp[df.rd] at hr,fun f hf=>by simp only[cM,hf x (h1 hg),hf y (h3 hg),hx,hy,OS];rw[if_pos (cm.1 h4.1 hg)];rfl⟩⟩
   case lss=>exact⟨_,_,h4,fun hg=>⟨fun hr=>by simp[df.rd] at hr,fun f hf=>by simp only[cM,hf x (h1 hg),hf y (h3 hg),hx,hy,OS];rfl⟩⟩
   all_goals exact h4.elim
  ·exact h4.elim
 case PU sz ag z x=>
  obtain⟨h1,h2⟩:=cS h
  split at h2
  ·rename_i b len lo n hx
   obtain⟨e,s,d,es,q1,q2,q3⟩:=h2.ok
   exact⟨_,_,q3,fun hg=>⟨fun hr y hy=>by simp[df.eT] at hy;subst hy;exact h1 hg,fun f hf=>by
    simp only[cM,hf x (h1 hg),hx,q1];rw[if_pos (cm.1 q2 hg)]⟩⟩
  ·exact h2.elim
 case TA x=>
  obtain⟨h1,h2⟩:=cS h
  obtain⟨xs,h3,h4⟩:=mJ h2
  obtain⟨ns,h5,h6⟩:=h3.ok
  exact⟨_,_,h6,fun hg=>⟨fun hr y hy=>by simp[df.eT] at hy;subst hy;exact h1 hg,fun f hf=>by
   obtain⟨q1,q2⟩:=h4 hg
   simp only[cM,hf x (h1 hg),q1,q2,if_true,h5 hg,Option.map_some]⟩⟩
 case un op x=>
  obtain⟨h1,h2⟩:=cS h
  split at h2
  all_goals first
   |exact h2.elim
   |(rename_i hx;obtain⟨m,q3,q4⟩:=h2.ok;exact⟨_,_,q4,fun hg=>⟨fun hr=>by simp[df.rd] at hr,fun f hf=>by simp only[cM,hf x (h1 hg),hx,ZP,Option.map_some,q3 hg]⟩⟩)
   |(rename_i hx;exact⟨_,_,h2,fun hg=>⟨fun hr=>by simp[df.rd] at hr,fun f hf=>by simp only[cM,hf x (h1 hg),hx,ZP,Option.map_some]⟩⟩)
 case V0 k x=>
  obtain⟨h1,h2⟩:=cS h
  split at h2
  all_goals first
   |exact h2.elim
   |(rename_i hx;obtain⟨m,q3,q4⟩:=h2.ok;exact⟨_,_,q4,fun hg=>⟨fun hr=>by simp[df.rd] at hr,fun f hf=>by simp only[cM,hf x (h1 hg),hx,q3 hg]⟩⟩)
 case fa off x=>
  obtain⟨h1,h2⟩:=cS h
  have hr:Gd g->((df.fa off x).rd=true->∀y∈(df.fa off x).eT,JH R y):=fun hg _ y hy=>by simp[df.eT] at hy;subst hy;exact h1 hg
  split at h2
  ·rename_i hx
   refine⟨_,_,h2.2,fun hg=>⟨hr hg,fun f hf=> ?_⟩⟩
   simp only[cM,hf x (h1 hg),hx];rw[if_pos (cm.1 h2.1 hg)]
  ·rename_i hx
   obtain⟨e,sz,d,es,g1,g2,g3⟩:=h2.ok
   refine⟨_,_,g3,fun hg=>⟨hr hg,fun f hf=> ?_⟩⟩
   simp only[cM,hf x (h1 hg),hx,g1];rw[if_pos (cm.1 g2 hg)]
  ·exact h2.elim
 case ia k n x i=>
  obtain⟨h1,h2⟩:=cS h
  obtain⟨h3,h4⟩:=cS h2
  have hr:Gd g->((df.ia k n x i).rd=true->∀y∈(df.ia k n x i).eT,JH R y):=fun hg _ y hy=>by simp[df.eT] at hy;rcases hy with rfl|rfl;exact h1 hg;exact h3 hg
  split at h4
  ·rename_i kk j hi
   cases n with
   |none=>
    simp only at h4
    split at h4
    ·rename_i hx
     refine⟨_,_,h4.2.2,fun hg=>⟨hr hg,fun f hf=> ?_⟩⟩
     simp only[cM,hf x (h1 hg),hf i (h3 hg),hx,hi,KS]
     rw[if_pos ⟨cm.1 h4.1 hg,cm.1 h4.2.1 hg⟩];rfl
    ·rename_i hx
     obtain⟨e,sz,d,es,g1,g2,g3,g4⟩:=h4.ok
     refine⟨_,_,g4,fun hg=>⟨hr hg,fun f hf=> ?_⟩⟩
     obtain⟨q1,q2⟩:=cm.1 g2 hg
     simp only[cM,hf x (h1 hg),hf i (h3 hg),hx,hi,KS,g1]
     rw[if_pos ⟨q1,q2,cm.1 g3 hg⟩];rfl
    ·rename_i hx
     obtain⟨e,sz,d,es,g1,g2,g3,g4⟩:=h4.ok
     refine⟨_,_,g4,fun hg=>⟨hr hg,fun f hf=> ?_⟩⟩
     obtain⟨q1,q2⟩:=cm.1 g2 hg
     simp only[cM,hf x (h1 hg),hf i (h3 hg),hx,hi,KS,g1]
     rw[if_pos ⟨q1,q2,cm.1 g3 hg⟩];rfl
    ·exact h4.elim
   |some m=>
    simp only at h4
    split at h4
    ·rename_i hx
     refine⟨_,_,h4.2.2,fun hg=>⟨hr hg,fun f hf=> ?_⟩⟩
     simp only[cM,hf x (h1 hg),hf i (h3 hg),hx,hi,KS]
     rw[if_pos ⟨cm.1 h4.1 hg,cm.1 h4.2.1 hg⟩];rfl
    ·rename_i hx
     obtain⟨e,sz,d,es,g1,g2,g3,g4⟩:=h4.ok
     refine⟨_,_,g4,fun hg=>⟨hr hg,fun f hf=> ?_⟩⟩
     obtain⟨q1,q2⟩:=cm.1 g2 hg
     simp only[cM,hf x (h1 hg),hf i (h3 hg),hx,hi,KS,g1]
     rw[if_pos ⟨q1,q2,cm.1 g3 hg⟩];rfl
    ·exact h4.elim
  ·exact h4.elim
 case V7 off k ag x=>
  obtain⟨h1,h2⟩:=cS h
  split at h2
  ·rename_i cs hx
   cases ag with
   |true=>
    refine⟨_,_,h2.2,fun hg=>⟨fun hr=>by simp[df.rd] at hr,fun f hf=> ?_⟩⟩
    simp only[cM,hf x (h1 hg),hx,if_true];rw[if_pos (cm.1 h2.1 hg)]
   |false=>
    have h3:=h2.2.ok
    rw[fN] at h3
    refine⟨_,_,h3,fun hg=>⟨fun hr=>by simp[df.rd] at hr,fun f hf=> ?_⟩⟩
    obtain⟨q1,q2⟩:=cm.1 h2.1 hg
    simp only[cM,hf x (h1 hg),hx,Bool.false_eq_true,if_false];rw[if_pos q1,if_pos q2]
  ·exact h2.elim
 case ix k ag n x i=>
  obtain⟨h1,h2⟩:=cS h
  obtain⟨h3,h4⟩:=cS h2
  split at h4
  ·rename_i cs kk j hx hi
   obtain⟨p1,p2,p3⟩:=h4
   cases ag with
   |true=>
    refine⟨_,_,p3,fun hg=>⟨fun hr=>by simp[df.rd] at hr,fun f hf=> ?_⟩⟩
    have q2:=cm.1 p2 hg
    simp only[cM,hf x (h1 hg),hf i (h3 hg),hx,hi,if_true];rw[if_pos ⟨q2.1,q2.2,cm.1 p1 hg⟩]
   |false=>
    have h5:=p3.2.ok
    rw[fN] at h5
    refine⟨_,_,h5,fun hg=>⟨fun hr=>by simp[df.rd] at hr,fun f hf=> ?_⟩⟩
    have q2:=cm.1 p2 hg
    simp only[cM,hf x (h1 hg),hf i (h3 hg),hx,hi,Bool.false_eq_true,if_false];rw[if_pos ⟨q2.1,q2.2,cm.1 p1 hg⟩,if_pos (cm.1 p3.1 hg)]
  ·exact h4.elim
 case WI x i=>
  obtain⟨h1,h2⟩:=cS h
  obtain⟨h3,h4⟩:=cS h2
  split at h4
  ·rename_i hx hi
   refine⟨_,_,h4.2,fun hg=>⟨fun hr=>by simp[df.rd] at hr,fun f hf=> ?_⟩⟩
   simp only[cM,hf x (h1 hg),hf i (h3 hg),hx,hi];rw[if_pos (cm.1 h4.1 hg)]
  ·exact h4.elim
 case lens x=>
  obtain⟨h1,h2⟩:=cS h
  split at h2
  all_goals first
   |exact h2.elim
   |(rename_i hx;exact⟨_,_,h2,fun hg=>⟨fun hr=>by simp[df.rd] at hr,fun f hf=>by simp only[cM,hf x (h1 hg),hx]⟩⟩)
 case T9 e sz bytes ag z l c=>
  obtain⟨h1,h2⟩:=cS h
  obtain⟨h3,h4⟩:=cS h2
  split at h4
  ·rename_i hx hi
   refine⟨_,_,h4.2.2,fun hg=>⟨fun hr=>by simp[df.rd] at hr,fun f hf=> ?_⟩⟩
   obtain⟨q1,q2⟩:=cm.1 h4.1 hg
   obtain⟨q3,q4,q5⟩:=cm.1 h4.2.1 hg
   simp only[cM,hf l (h1 hg),hf c (h3 hg),hx,hi];rw[if_pos ⟨q1,q3,q2,q4,q5⟩]
  ·exact h4.elim
 case ext i x=>
  obtain⟨h1,h2⟩:=cS h
  split at h2
  ·rename_i hx
   have h3:=h2.2.ok
   rw[fN] at h3
   refine⟨_,_,h3,fun hg=>⟨fun hr=>by simp[df.rd] at hr,fun f hf=> ?_⟩⟩
   simp only[cM,hf x (h1 hg),hx];rw[if_pos (cm.1 h2.1 hg)]
  ·exact h2.elim
 case VF fn first caps=>
  obtain⟨h1,h2⟩:=ff h
  obtain⟨h3,h4⟩:=ff h2
  refine⟨_,_,h4,fun hg=>⟨fun hr=>by simp[df.rd] at hr,fun f hf=> ?_⟩⟩
  simp only[cM]
  rw[mK (R:=R) fun x hx=>hf x (h1 hg x hx),mK (R:=R) fun x hx=>hf x (h3 hg x hx)]
 case ZB t x=>
  obtain⟨h1,h2⟩:=cS h
  exact⟨_,_,h2,fun hg=>⟨fun hr=>by simp[df.rd] at hr,fun f hf=>by simp only[cM,hf x (h1 hg)]⟩⟩
 case len x=>
  obtain⟨h1,h2⟩:=cS h
  have hr:Gd g->((df.len x).rd=true->∀y∈(df.len x).eT,JH R y):=fun hg _ y hy=>by simp[df.eT] at hy;subst hy;exact h1 hg
  split at h2
  ·rename_i hx;exact⟨_,_,h2,fun hg=>⟨hr hg,fun f hf=>by simp only[cM,hf x (h1 hg),hx,u9]⟩⟩
  ·rename_i hx
   obtain⟨e,sz,d,es,g1,g2,g3⟩:=h2.ok
   refine⟨_,_,g3,fun hg=>⟨hr hg,fun f hf=> ?_⟩⟩
   simp only[cM,hf x (h1 hg),hx,u9,g1];rw[if_pos (cm.1 g2 hg)]
  ·rename_i hx;exact⟨_,_,h2,fun hg=>⟨hr hg,fun f hf=>by simp[cM,hf x (h1 hg),hx,u9]⟩⟩
  ·rename_i hx;exact⟨_,_,h2,fun hg=>⟨hr hg,fun f hf=>by simp[cM,hf x (h1 hg),hx,u9]⟩⟩
  ·rename_i hx;exact⟨_,_,h2,fun hg=>⟨hr hg,fun f hf=>by simp only[cM,hf x (h1 hg),hx,u9]⟩⟩
  ·exact h2.elim
 case app e sz bytes ag z s x=>
  obtain⟨h1,h2⟩:=cS h
  obtain⟨h3,h4⟩:=cS h2
  obtain⟨xs,⟨h5,h5'⟩,h6⟩:=mJ h4
  have hr:Gd g->((df.app e sz bytes ag z s x).rd=true->∀y∈(df.app e sz bytes ag z s x).eT,JH R y):=fun hg _ y hy=>by simp[df.eT] at hy;rcases hy with rfl|rfl;exact h1 hg;exact h3 hg
  split at h5'
  ·rename_i hx
   refine⟨_,_,h5'.2,fun hg=>⟨hr hg,fun f hf=> ?_⟩⟩
   obtain⟨q1,q2⟩:=h6 hg
   simp only[cM,hf s (h1 hg),hf x (h3 hg),hx,q1];rw[if_pos ⟨q2,cm.1 h5 hg⟩,if_pos (cm.1 h5'.1 hg)]
  ·rename_i hx
   obtain⟨e',sz',d,es,g1,g2,g3,g4⟩:=h5'.ok
   refine⟨_,_,g4,fun hg=>⟨hr hg,fun f hf=> ?_⟩⟩
   obtain⟨q1,q2⟩:=h6 hg
   obtain⟨q3,q4,q5⟩:=cm.1 g2 hg
   simp only[cM,hf s (h1 hg),hf x (h3 hg),hx,q1,g1];rw[if_pos ⟨q2,cm.1 h5 hg⟩,if_pos ⟨q3,q4,q5,cm.1 g3 hg⟩]
  ·exact h5'.elim
 case K8 e bytes z s x=>
  obtain⟨h1,h2⟩:=cS h
  obtain⟨h3,h4⟩:=cS h2
  have hr:Gd g->((df.K8 e bytes z s x).rd=true->∀y∈(df.K8 e bytes z s x).eT,JH R y):=fun hg _ y hy=>by simp[df.eT] at hy;rcases hy with rfl|rfl;exact h1 hg;exact h3 hg
  split at h4
  ·rename_i q hq
   split at h4
   ·rename_i hx
    refine⟨_,_,h4.2,fun hg=>⟨hr hg,fun f hf=> ?_⟩⟩
    simp only[cM,hf s (h1 hg),hf x (h3 hg),hx,hq];rw[if_pos (cm.1 h4.1 hg)]
   ·rename_i hx
    obtain⟨e',sz',d,es,g1,g2,g3,g4⟩:=h4.ok
    refine⟨_,_,g4,fun hg=>⟨hr hg,fun f hf=> ?_⟩⟩
    obtain⟨q3,q4,q5⟩:=cm.1 g2 hg
    simp only[cM,hf s (h1 hg),hf x (h3 hg),hx,hq,g1];rw[if_pos ⟨q3,q4,q5,cm.1 g3 hg⟩]
   ·exact h4.elim
  ·exact h4.elim
 case JD neg x=>
  obtain⟨h1,h2⟩:=cS h
  split at h2
  all_goals first
   |exact h2.elim
   |(rename_i hx;exact⟨_,_,h2,fun hg=>⟨fun hr=>by simp[df.rd] at hr,fun f hf=>by simp only[cM,hf x (h1 hg),hx]⟩⟩)
 case AW neg x=>
  obtain⟨h1,h2⟩:=cS h
  obtain⟨t,h3,h4⟩:=h2.ok
  rw[fN] at h4
  refine⟨_,_,h4,fun hg=>⟨fun _ y hy=>by simp[df.eT] at hy;subst hy;exact h1 hg,fun f hf=> ?_⟩⟩
  simp only[cM,hf x (h1 hg),h3]
 case eqs neg ks x y=>
  obtain⟨h1,h2⟩:=cS h
  obtain⟨h3,h4⟩:=cS h2
  split at h4
  ·rename_i hx hy
   obtain⟨t,g1,g2⟩:=h4.ok
   cases neg
   all_goals exact⟨_,_,g2,fun hg=>⟨fun hr=>by simp[df.rd] at hr,fun f hf=>by simp[cM,hf x (h1 hg),hf y (h3 hg),hx,hy,g1]⟩⟩
  ·exact h4.elim
 case RI sz x lo hi=>
  obtain⟨h1,h2⟩:=cS h
  obtain⟨h3,h4⟩:=ff h2
  obtain⟨r,g1,g2⟩:=h4.ok
  rw[fN] at g2
  refine⟨_,_,g2,fun hg=>⟨fun _ y hy=> ?_,fun f hf=> ?_⟩⟩
  ·simp only[df.eT,List.mem_append,List.mem_singleton] at hy
   rcases hy with(rfl|hy)|hy
   ·exact h1 hg
   ·exact h3 hg y (by simp only[List.mem_append];exact .inl hy)
   ·exact h3 hg y (by simp only[List.mem_append];exact .inr hy)
  ·simp only[cM,hf x (h1 hg)]
   have e1:∀y∈lo.toList++hi.toList,ev f y=(R y).2:=fun y hy=>hf y (h3 hg y hy)
   cases lo<;>cases hi<;>simp_all
 case TW n x i=>
  obtain⟨h1,h2⟩:=cS h
  obtain⟨h3,h4⟩:=cS h2
  split at h4
  ·rename_i b len kk j hx hi
   obtain⟨e,sz,d,es,g1,g2,g3,g4⟩:=h4.ok
   refine⟨_,_,g4,fun hg=>⟨fun _ y hy=>by simp[df.eT] at hy;rcases hy with rfl|rfl;exact h1 hg;exact h3 hg,fun f hf=> ?_⟩⟩
   obtain⟨q1,q2,q3⟩:=cm.1 g2 hg
   obtain⟨q4,q5⟩:=cm.1 g3 hg
   simp only[cM,hf x (h1 hg),hf i (h3 hg),hx,hi,DG,g1]
   rw[if_pos ⟨q1,q2,q3,q4,q5⟩];rfl
  ·exact h4.elim
 case UM n x i=>
  obtain⟨h1,h2⟩:=cS h
  obtain⟨h3,h4⟩:=cS h2
  split at h4
  ·rename_i b len kk j hx hi
   obtain⟨e,sz,d,es,g1,g2,g3,g4⟩:=h4.ok
   refine⟨_,_,g4,fun hg=>⟨fun _ y hy=>by simp[df.eT] at hy;rcases hy with rfl|rfl;exact h1 hg;exact h3 hg,fun f hf=> ?_⟩⟩
   obtain⟨q1,q2,q3⟩:=cm.1 g2 hg
   obtain⟨q4,q5⟩:=cm.1 g3 hg
   simp only[cM,hf x (h1 hg),hf i (h3 hg),hx,hi,EY,g1]
   rw[if_pos ⟨q1,q2,q3,q4,q5⟩];rfl
  ·exact h4.elim
 case bad=>exact h.elim
 case R6 e n=>exact⟨_,_,h,fun hg=>⟨fun hr=>by simp[df.rd] at hr,fun f hf=>rfl⟩⟩
 case VI sz x a b=>
  obtain⟨h1,h2⟩:=cS h
  obtain⟨h3,h4⟩:=cS h2
  obtain⟨h5,h6⟩:=cS h4
  obtain⟨r,g1,g2⟩:=h6.ok
  rw[fN] at g2
  refine⟨_,_,g2,fun hg=>⟨fun _ y hy=> ?_,fun f hf=> ?_⟩⟩
  ·simp only[df.eT,List.mem_cons,List.not_mem_nil,or_false] at hy
   rcases hy with rfl|rfl|rfl
   ·exact h1 hg
   ·exact h3 hg
   ·exact h5 hg
  ·simp only[cM,hf x (h1 hg),hf a (h3 hg),hf b (h5 hg),g1]
   rfl
 case P1 sz x y=>
  obtain⟨h1,h2⟩:=cS h
  obtain⟨h3,h4⟩:=cS h2
  split at h4
  ·rename_i b len hx
   obtain⟨xs,h5,h6⟩:=mJ h4
   obtain⟨e,s,d,es,g1,g2,g3⟩:=h5.ok
   refine⟨_,_,g3,fun hg=>⟨fun _ z hz=>by simp[df.eT] at hz;rcases hz with rfl|rfl;exact h1 hg;exact h3 hg,fun f hf=> ?_⟩⟩
   obtain⟨q1,q2⟩:=h6 hg
   obtain⟨q3,q4⟩:=cm.1 g2 hg
   simp only[cM,hf x (h1 hg),hf y (h3 hg),hx,q1,g1];rw[if_pos ⟨q3,q4,q2⟩]
  ·exact h4.elim
 case call f as=>exact h.elim
 case SQ kt=>exact⟨_,_,h,fun hg=>⟨fun hr=>by simp[df.rd] at hr,fun f hf=>rfl⟩⟩
 case HA sz v=>exact⟨_,_,h,fun hg=>⟨fun hr=>by simp[df.rd] at hr,fun f hf=>rfl⟩⟩
 case yw e sz v=>exact⟨_,_,h,fun hg=>⟨fun hr=>by simp[df.rd] at hr,fun f hf=>rfl⟩⟩
 case DO x=>
  obtain⟨h1,h2⟩:=cS h
  obtain⟨b,e,d,es,h3,h4⟩:=ly h2
  exact⟨_,_,h4,fun hg=>⟨fun _ y hy=>by simp[df.eT] at hy;subst hy;exact h1 hg,fun f hf=>by simp only[cM,hf x (h1 hg),h3]⟩⟩
 case QU str ag z ok x k=>
  obtain⟨h1,h2⟩:=cS h
  obtain⟨h3,h4⟩:=cS h2
  have hr:Gd g->((df.QU str ag z ok x k).rd=true->∀y∈(df.QU str ag z ok x k).eT,JH R y):=fun hg _ y hy=>by simp[df.eT] at hy;rcases hy with rfl|rfl;exact h1 hg;exact h3 hg
  split at h4
  ·rename_i kv hk
   obtain⟨b,e,d,es,h5,h6,h7⟩:=ly h4
   obtain⟨p,h8,h9⟩:=h7.ok
   cases ok with
   |true=>
    refine⟨_,_,h9,fun hg=>⟨hr hg,fun f hf=> ?_⟩⟩
    have h10:=h8 hg
    unfold na at h10
    simp only[cM,hf x (h1 hg),hf k (h3 hg),h5,hk]
    rw[if_pos (cm.1 h6 hg)]
    split at h10<;>simp only[Option.some.injEq,reduceCtorEq] at h10
    ·subst h10;simp_all
    ·subst h10;simp_all
   |false=>
    simp only[fN] at h9
    refine⟨_,_,h9,fun hg=>⟨hr hg,fun f hf=> ?_⟩⟩
    have h10:=h8 hg
    unfold na at h10
    simp only[cM,hf x (h1 hg),hf k (h3 hg),h5,hk]
    rw[if_pos (cm.1 h6 hg)]
    split at h10<;>simp only[Option.some.injEq,reduceCtorEq] at h10
    ·subst h10;simp_all
    ·subst h10;simp_all
  ·exact h4.elim
 case KT str x k y=>
  obtain⟨h1,h2⟩:=cS h
  obtain⟨h3,h4⟩:=cS h2
  obtain⟨h3',h4'⟩:=cS h4
  have hr:Gd g->((df.KT str x k y).rd=true->∀w∈(df.KT str x k y).eT,JH R w):=fun hg _ w hy=>by simp[df.eT] at hy;rcases hy with rfl|rfl|rfl;exact h1 hg;exact h3 hg;exact h3' hg
  split at h4'
  ·rename_i kv hk
   obtain⟨b,e,d,es,h5,h6,h7⟩:=ly h4'
   obtain⟨p,h8,h9⟩:=h7.ok
   refine⟨_,_,h9,fun hg=>⟨hr hg,fun f hf=> ?_⟩⟩
   have h10:=h8 hg
   unfold qW at h10
   simp only[cM,hf x (h1 hg),hf k (h3 hg),hf y (h3' hg),h5,hk]
   rw[if_pos (cm.1 h6 hg)]
   split at h10<;>simp only[Option.some.injEq,reduceCtorEq] at h10
   ·subst h10;simp_all[og]
   ·subst h10;simp_all[og]
  ·exact h4'.elim
 case del str x k=>
  obtain⟨h1,h2⟩:=cS h
  obtain⟨h3,h4⟩:=cS h2
  have hr:Gd g->((df.del str x k).rd=true->∀y∈(df.del str x k).eT,JH R y):=fun hg _ y hy=>by simp[df.eT] at hy;rcases hy with rfl|rfl;exact h1 hg;exact h3 hg
  split at h4
  ·rename_i kv hk
   obtain⟨b,e,d,es,h5,h6,h7⟩:=ly h4
   obtain⟨p,h8,h9⟩:=h7.ok
   refine⟨_,_,h9,fun hg=>⟨hr hg,fun f hf=> ?_⟩⟩
   have h10:=h8 hg
   unfold ZA at h10
   simp only[cM,hf x (h1 hg),hf k (h3 hg),h5,hk]
   rw[if_pos (cm.1 h6 hg)]
   split at h10<;>simp only[Option.some.injEq,reduceCtorEq] at h10
   ·subst h10;simp_all
   ·subst h10;simp_all
  ·exact h4.elim
 case ZN t ok ag z x=>
  obtain⟨h1,h2⟩:=cS h
  split at h2
  ·rename_i t' v hx
   cases hb:Nat.beq t' t with
   |true=>
    rw[hb] at h2
    have e:=Nat.eq_of_beq_eq_true hb
    cases ok with
    |true=>
     simp only[cond_true] at h2
     exact⟨_,_,h2,fun hg=>⟨fun hr=>by simp[df.rd] at hr,fun f hf=>by simp only[cM,hf x (h1 hg),hx];rw[if_pos e];rfl⟩⟩
    |false=>
     simp only[cond_true,fN] at h2
     exact⟨_,_,h2,fun hg=>⟨fun hr=>by simp[df.rd] at hr,fun f hf=>by simp only[cM,hf x (h1 hg),hx];rw[if_pos e];rfl⟩⟩
   |false=>
    rw[hb] at h2
    have e:¬t'=t:=fun e=>by rw[e] at hb;simp at hb
    cases ok with
    |true=>
     simp only[cond_false] at h2
     exact⟨_,_,h2,fun hg=>⟨fun hr=>by simp[df.rd] at hr,fun f hf=>by simp only[cM,hf x (h1 hg),hx];rw[if_neg e];rfl⟩⟩
    |false=>exact h2.elim
  ·exact h2.elim
end Go.cw
/- Code as a whole, run by reduction alone; it is so. -/
namespace Go.cw
open Go.RowKit
structure fj (t:Bool) (A B:Prop):Prop where
 ok:(t=true->A)/\(t=false->B)
theorem fj.lt {A B:Prop} (h:A):fj true A B:=⟨⟨fun _=>h,fun h=>(by cases h)⟩⟩
theorem fj.lf {A B:Prop} (h:B):fj false A B:=⟨⟨fun h=>(by cases h),fun _=>h⟩⟩
theorem fj.of {t:Bool} {A B:Prop} (h1:t=true->A) (h2:t=false->B):fj t A B:=⟨⟨h1,h2⟩⟩
structure eu (t want:Bool) (A B J:Prop):Prop where
 ok:((t=want->A)/\(t≠want->B))\/J
theorem eu.tt {A B J:Prop} (h:A):eu true true A B J:=⟨.inl ⟨fun _=>h,fun h=>absurd rfl h⟩⟩
theorem eu.join {t want:Bool} {A B J:Prop} (h:J):eu t want A B J:=⟨.inr h⟩
theorem eu.split {t want:Bool} {A B J:Prop} (h1:t=want->A) (h2:t= !want->B):eu t want A B J:=⟨.inl ⟨h1,fun h=>h2 (by cases t<;>cases want<;>simp_all)⟩⟩
structure iR (P:Program) (f:FuncId) (args:List AV) (H:Hp) (nx:Nat) (K:AV->Hp->Nat->Prop):Prop where
 ok:cU P f args H nx K
structure oo (P:Program) (g:Bool) (f:FuncId) (args:List AV) (H:Hp) (nx:Nat) (K:AV->Prop):Prop where
 ok:∃r,(g=true->∀(K':AV->Hp->Nat->Prop),K' r H (nx+1)->cU P f args H nx K')/\K r
structure kU (P:Program) (id:Nat) (f:FuncId) (args:List AV) (H:Hp) (K:AV->Option (Nat×fH)->List Nat->Prop):Prop where
 ok:∃r u S,pk P id (.fn (.func f) [] []) args H r u S/\K r u S
structure VL (P:Program) (t:TypeId) (v:AV) (nm:String) (args:List AV) (H:Hp) (nx:Nat) (K:AV->Hp->Nat->Prop):Prop where
 ok:wC P t v nm args H nx K
structure wB (P:Program) (g:Bool) (id:Nat) (f:FuncId) (args:List AV) (H:Hp) (K:AV->List Nat->Prop):Prop where
 ok:∃r S,(g=true->pk P id (.fn (.func f) [] []) args H r none S)/\K r S
theorem Pure.TE {P:Program} {f:FuncId} {args:List AV} {R:AV->Prop} {H:Hp} {nx:Nat} {K:AV->Hp->Nat->Prop} (h:Pure P f args R) (hf:c8 0 args) (hK:∀r,R r->K r H (nx+1)):cU P f args H nx K:=by
 have:=h.dN (H:=H) (nx:=nx) (K:=fun r H' n=>∃n',n<=n'/\K r H' n') hf fun r hr=>⟨_,Nat.le_succ _,hK r hr⟩
 refine⟨this.1,fun w0 c vs a1 a2 a3 a4=>(this.2 w0 c vs a1 a2 a3 a4).mono ?_⟩
 rintro e w' ⟨v,r,H',nx',ρ,U,he,⟨n',hn,hR⟩,hU,hrest⟩
 exact⟨v,r,H',n',ρ,U,he,hR,fun b hb=>Nat.lt_of_lt_of_le (hU b hb) hn,hrest⟩
theorem iR.pure {P:Program} {f:FuncId} {args:List AV} {R:AV->Prop} {H:Hp} {nx:Nat} {K:AV->Hp->Nat->Prop} (h:Pure P f args R) (hf:c8 0 args) (hK:∀r,R r->K r H nx):iR P f args H nx K:=⟨h.dN hf hK⟩
theorem iR.PA {P:Program} {f:FuncId} {args:List AV} {r:AV} {H:Hp} {nx:Nat} {K:AV->Hp->Nat->Prop} (h:Pure P f args (fun x=>x=r)) (hf:c8 0 args) (hK:K r H nx):iR P f args H nx K:=⟨h.dN hf fun x hx=>by rw[hx];exact hK⟩
theorem iR.of {P:Program} {f:FuncId} {args:List AV} {H:Hp} {nx:Nat} {R K:AV->Hp->Nat->Prop} (h:cU P f args H nx R) (hK:∀r H' nx',R r H' nx'->K r H' nx'):iR P f args H nx K:=⟨h.mono hK⟩
theorem oo.PA {P:Program} {g:Bool} {f:FuncId} {args:List AV} {r:AV} {H:Hp} {nx:Nat} {K:AV->Prop} (h:g=true->Pure P f args (fun x=>x=r)) (hf:c8 0 args) (hK:K r):oo P g f args H nx K:=
 ⟨⟨r,fun hg K' hK'=>(h hg).TE hf fun x hx=>by rw[hx];exact hK',hK⟩⟩
theorem kU.PA {P:Program} {id:Nat} {f:FuncId} {args:List AV} {H:Hp} {r:AV} {K:AV->Option (Nat×fH)->List Nat->Prop} (h:Pure P f args (fun x=>x=r)) (hf:c8 0 args) (hK:K r none []):kU P id f args H K:=
 ⟨⟨r,none,[],Pure.SS (by simpa using hf) (by simpa using h),hK⟩⟩
theorem wB.PA {P:Program} {g:Bool} {id:Nat} {f:FuncId} {args:List AV} {H:Hp} {r:AV} {K:AV->List Nat->Prop} (h:g=true->Pure P f args (fun x=>x=r)) (hf:c8 0 args) (hK:K r []):wB P g id f args H K:=
 ⟨⟨r,[],fun hg=>Pure.SS (by simpa using hf) (by simpa using h hg),hK⟩⟩
theorem kU.fresh {P:Program} {id:Nat} {f:FuncId} {args:List AV} {H:Hp} {r:AV} {u:Option (Nat×fH)} (S:List Nat) {K:AV->Option (Nat×fH)->List Nat->Prop}
 (h:∀H1,(∀b∈S,bt H1 b=bt H b)->lO P f args H1 id (fun r' H'=>r'=r/\H'=dS H1 u)) (hu:∀b q,u=some (b,q)->b=id) (hK:K r u S):kU P id f args H K:=
 ⟨⟨r,u,S,⟨by simpa using h,hu⟩,hK⟩⟩
section
variable (P:Program)
noncomputable def yn (nx:Nat) (R:Raw) (H:Hp) (op:df) (K:AV->Hp->Nat->Prop):Prop:=
 match op with
 | .call f args=>dP none R f fun fv=>lD none R args fun as=>match fv with
  | .fn (.func g) first caps=>rQ (first++as++caps) fun as=>iR P g as H nx K
  | .fn (.method nm) [.nA t v] []=>rQ as fun as=>VL P t v nm as H nx K
  |_=>False
 |op=>qj none H R nx op fun r u=>K r (dS H u) (nx+1)
noncomputable def nE (nx:Nat) (g:Bool) (R:Raw) (H:Hp) (op:df) (K:AV->Prop):Prop:=
 match op with
 | .call f args=>dP (some g) R f fun fv=>lD (some g) R args fun as=>match fv with
  | .fn (.func q) first caps=>rQ (first++as++caps) fun as=>oo P g q as H nx K
  |_=>False
 |op=>qj (some g) H R nx op fun r u=>match u with
  |none=>K r
  |some _=>False
abbrev FL:=Nat->Ov->Fr->Hp->(Ov->Hp->Nat->Prop)->Prop
def yo (nx:Nat) (ov:Ov) (_:Fr) (H:Hp) (K:Ov->Hp->Nat->Prop):Prop:=K ov H nx
noncomputable def qy (g:iY) (_:List iY) (ih:FL) (nx:Nat) (ov:Ov) (fr:Fr) (H:Hp) (K:Ov->Hp->Nat->Prop):Prop:=match g.guard with
 |none=>yn P nx (fZ ov fr) H g.op fun r H' nx'=>ih nx' (iX ov g.dst none r) fr H' K
 |some (d,want)=>match rR ov fr d with
  |(none, .sc (.bool t))=>eu t want (yn P nx (fZ ov fr) H g.op fun r H' nx'=>ih nx' (iX ov g.dst none r) fr H' K) (ih (nx+1) (iX ov g.dst none (.sc undef)) fr H K)
   (match want with
    |true=>nE P nx t (fZ ov fr) H g.op fun r=>ih (nx+1) (iX ov g.dst (some t) r) fr H K
    |false=>nE P nx (!t) (fZ ov fr) H g.op fun r=>ih (nx+1) (iX ov g.dst (some !t) r) fr H K)
  |(some q, .sc (.bool t))=>(match want with
   |true=>nE P nx (q&&t) (fZ ov fr) H g.op fun r=>ih (nx+1) (iX ov g.dst (some (q&&t)) r) fr H K
   |false=>nE P nx (q&& !t) (fZ ov fr) H g.op fun r=>ih (nx+1) (iX ov g.dst (some (q&& !t)) r) fr H K)
  |(none, .sc (.tuple _))=>ih (nx+1) (iX ov g.dst none (.sc undef)) fr H K
  |_=>False
noncomputable def G4 (nx:Nat) (gs:List iY) (ov:Ov) (fr:Fr) (H:Hp) (K:Ov->Hp->Nat->Prop):Prop:=List.rec (motive:=fun _=>FL) yo (qy P) gs nx ov fr H K
def IQ (R:Raw) (op:df):List Nat:=if op.rd then op.eT.flatMap (fun x=>iO (R x).2) else[]
noncomputable def pF (id:Nat) (R:Raw) (H:Hp) (op:df) (K:AV->Option (Nat×fH)->List Nat->Prop):Prop:=
 match op with
 | .call f args=>dP none R f fun fv=>lD none R args fun as=>match fv with
  | .fn (.func g) first caps=>rQ (first++as++caps) fun as=>kU P id g as H K
  |_=>False
 |op=>qj none H R id op fun r u=>K r u (IQ R op)
noncomputable def j3 (id:Nat) (g:Bool) (R:Raw) (H:Hp) (op:df) (K:AV->List Nat->Prop):Prop:=
 match op with
 | .call f args=>dP (some g) R f fun fv=>lD (some g) R args fun as=>match fv with
  | .fn (.func q) first caps=>rQ (first++as++caps) fun as=>wB P g id q as H K
  |_=>False
 |op=>qj (some g) H R id op fun r u=>match u with
  |none=>K r (IQ R op)
  |some _=>False
abbrev ZX:=Nat->Ov->Fr->Hp->Tr->(Ov->Hp->Tr->Prop)->Prop
def KZ (_:Nat) (ov:Ov) (_:Fr) (H:Hp) (tr:Tr) (K:Ov->Hp->Tr->Prop):Prop:=K ov H tr
noncomputable def pn (g:iY) (_:List iY) (ih:ZX) (id:Nat) (ov:Ov) (fr:Fr) (H:Hp) (tr:Tr) (K:Ov->Hp->Tr->Prop):Prop:=match g.guard with
 |none=>pF P id (fZ ov fr) H g.op fun r u S=>ih (id+1) (iX ov g.dst none r) fr (dS H u) (tr++[(S,u.map (·.1))]) K
 |some (d,want)=>match rR ov fr d with
  |(none, .sc (.bool t))=>eu t want (pF P id (fZ ov fr) H g.op fun r u S=>ih (id+1) (iX ov g.dst none r) fr (dS H u) (tr++[(S,u.map (·.1))]) K) (ih (id+1) (iX ov g.dst none (.sc undef)) fr H (tr++[([],none)]) K)
   (match want with
    |true=>j3 P id t (fZ ov fr) H g.op fun r S=>ih (id+1) (iX ov g.dst (some t) r) fr H (tr++[(S,none)]) K
    |false=>j3 P id (!t) (fZ ov fr) H g.op fun r S=>ih (id+1) (iX ov g.dst (some !t) r) fr H (tr++[(S,none)]) K)
  |(some q, .sc (.bool t))=>(match want with
   |true=>j3 P id (q&&t) (fZ ov fr) H g.op fun r S=>ih (id+1) (iX ov g.dst (some (q&&t)) r) fr H (tr++[(S,none)]) K
   |false=>j3 P id (q&& !t) (fZ ov fr) H g.op fun r S=>ih (id+1) (iX ov g.dst (some (q&& !t)) r) fr H (tr++[(S,none)]) K)
  |(none, .sc (.tuple _))=>ih (id+1) (iX ov g.dst none (.sc undef)) fr H (tr++[([],none)]) K
  |_=>False
noncomputable def WD (id:Nat) (gs:List iY) (ov:Ov) (fr:Fr) (H:Hp) (tr:Tr) (K:Ov->Hp->Tr->Prop):Prop:=List.rec (motive:=fun _=>ZX) KZ (pn P) gs id ov fr H tr K
noncomputable def UE (S:List Nat):(List Nat->Prop)->Prop:=List.rec (motive:=fun _=>(List Nat->Prop)->Prop) (fun K=>K []) (fun b _ ih K=>ih fun S'=>K (b::S')) S
theorem ur:∀(S:List Nat) (K:List Nat->Prop),UE S K=K S
 |[],_=>rfl
 |b::S,K=>ur S fun S'=>K (b::S')
def uW (u:Option (Nat×fH)) (K:Option Nat->Prop):Prop:=match u with
 |none=>K none
 |some (b,_)=>K (some b)
theorem ZO (u:Option (Nat×fH)) (K:Option Nat->Prop):uW u K=K (u.map (·.1)):=by
 cases u<;>rfl
noncomputable def xV (g:iY) (_:List iY) (ih:ZX) (id:Nat) (ov:Ov) (fr:Fr) (H:Hp) (tr:Tr) (K:Ov->Hp->Tr->Prop):Prop:=match g.guard with
 |none=>pF P id (fZ ov fr) H g.op fun r u S=>UE S fun S=>uW u fun x=>ih (id+1) (iX ov g.dst none r) fr (dS H u) ((S,x)::tr) K
 |some (d,want)=>match rR ov fr d with
  |(none, .sc (.bool t))=>eu t want (pF P id (fZ ov fr) H g.op fun r u S=>UE S fun S=>uW u fun x=>ih (id+1) (iX ov g.dst none r) fr (dS H u) ((S,x)::tr) K) (ih (id+1) (iX ov g.dst none (.sc undef)) fr H (([],none)::tr) K)
   (match want with
    |true=>j3 P id t (fZ ov fr) H g.op fun r S=>UE S fun S=>ih (id+1) (iX ov g.dst (some t) r) fr H ((S,none)::tr) K
    |false=>j3 P id (!t) (fZ ov fr) H g.op fun r S=>UE S fun S=>ih (id+1) (iX ov g.dst (some !t) r) fr H ((S,none)::tr) K)
  |(some q, .sc (.bool t))=>(match want with
   |true=>j3 P id (q&&t) (fZ ov fr) H g.op fun r S=>UE S fun S=>ih (id+1) (iX ov g.dst (some (q&&t)) r) fr H ((S,none)::tr) K
   |false=>j3 P id (q&& !t) (fZ ov fr) H g.op fun r S=>UE S fun S=>ih (id+1) (iX ov g.dst (some (q&& !t)) r) fr H ((S,none)::tr) K)
  |(none, .sc (.tuple _))=>ih (id+1) (iX ov g.dst none (.sc undef)) fr H (([],none)::tr) K
  |_=>False
noncomputable def WE (id:Nat) (gs:List iY) (ov:Ov) (fr:Fr) (H:Hp) (tr:Tr) (K:Ov->Hp->Tr->Prop):Prop:=List.rec (motive:=fun _=>ZX) KZ (xV P) gs id ov fr H tr K
theorem ym:∀(gs:List iY) (id:Nat) (ov:Ov) (fr:Fr) (H:Hp) (tr:Tr) (K:Ov->Hp->Tr->Prop),WE P id gs ov fr H tr K=WD P id gs ov fr H tr.reverse fun ov H t=>K ov H t.reverse
 |[],id,ov,fr,H,tr,K=>by
  show K ov H tr=K ov H tr.reverse.reverse
  rw[List.reverse_reverse]
 |g::gs,id,ov,fr,H,tr,K=>by
  have ih:=ym gs
  show xV P g gs (fun id ov fr H tr K=>WE P id gs ov fr H tr K) id ov fr H tr K=pn P g gs (fun id ov fr H tr K=>WD P id gs ov fr H tr K) id ov fr H tr.reverse fun ov H t=>K ov H t.reverse
  simp only[xV,pn,ur,ZO,ih,List.reverse_cons]
noncomputable def PG (s:tS) (_:List tS) (ih:FL) (nx:Nat) (ov:Ov) (fr:Fr) (H:Hp) (K:Ov->Hp->Nat->Prop):Prop:=match s.ops with
 |[g]=>G4 P nx [g] ov fr H fun ov' H' nx'=>ih nx' ov' fr H' K
 |gs=>WE P nx gs ov fr H [] fun ov' H' tr=>(match s.ps with
  |[]=>ih (nx+gs.length) ov' fr H' K
  |p::ps=>Ask (j5 tr.reverse (p::ps))/\ih (nx+gs.length) ov' fr H' K)
noncomputable def WS (nx:Nat) (segs:List tS) (ov:Ov) (fr:Fr) (H:Hp) (K:Ov->Hp->Nat->Prop):Prop:=List.rec (motive:=fun _=>FL) yo (PG P) segs nx ov fr H K
structure jU (n lo:Nat) (x:LC) (fr:Fr) (H:Hp) (nx:Nat) (Q:QT):Prop where
 ok:WL P n lo (.loop x) fr H nx Q
abbrev WT:=Fr->Hp->Nat->QT->Prop
def S4 (fr:Fr) (H:Hp) (nx:Nat) (Q:QT):Prop:=Q .normal fr H nx
noncomputable def K0 (gs:List iY) (fr:Fr) (H:Hp) (nx:Nat) (Q:QT):Prop:=G4 P nx gs [] fr H fun ov H' nx'=>Q .normal (iy ov fr) H' nx'
structure gZ (segs:List tS) (fr:Fr) (H:Hp) (nx:Nat) (Q:QT):Prop where
 ok:∀n lo,WL P n lo (.drawn segs) fr H nx Q
def PI (segs:List tS) (fr:Fr) (H:Hp) (nx:Nat) (Q:QT):Prop:=gZ P segs fr H nx Q
def VN (_ _:LC) (ia ib:WT) (fr:Fr) (H:Hp) (nx:Nat) (Q:QT):Prop:=ia fr H nx (jH (fun fr H nx=>ib fr H nx Q) Q)
def CB (c:eO) (_ _:LC) (ia ib:WT) (fr:Fr) (H:Hp) (nx:Nat) (Q:QT):Prop:=match ev fr c with
 | .sc (.bool t)=>fj t (ia fr H nx Q) (ib fr H nx Q)
 | .ab=>ia fr H nx Q/\ib fr H nx Q
 |_=>False
def PH (id:Nat) (_:LC) (ia:WT) (fr:Fr) (H:Hp) (nx:Nat) (Q:QT):Prop:=ia fr H nx (CL id Q)
def S3 (n lo:Nat) (a:LC) (_:WT) (fr:Fr) (H:Hp) (nx:Nat) (Q:QT):Prop:=jU P n lo a fr H nx Q
def S1 (id:Nat) (fr:Fr) (H:Hp) (nx:Nat) (Q:QT):Prop:=Q (.exit id) fr H nx
def VM (fr:Fr) (H:Hp) (nx:Nat) (Q:QT):Prop:=Q .ret fr H nx
noncomputable def W (n lo:Nat) (lc:LC):WT:=LC.rec (motive:=fun _=>WT) S4 (K0 P) (PI P) VN CB PH (S3 P n lo) S1 VM lc
end
section
variable {P:Program}
theorem sF {nx:Nat} {ov:Ov} {f fr:Fr} {H:Hp} {op:df} {K:AV->Hp->Nat->Prop} (hF:qu f ov fr) (h:yn P nx (fZ ov fr) H op K):eL P nx f H op K:=by
 by_cases hc:∃g as,op= .call g as
 ·obtain⟨fo,as,rfl⟩:=hc
  simp only[yn] at h
  obtain⟨h1,h2⟩:=cS h
  obtain⟨h3,h4⟩:=ff h2
  simp only[eL]
  rw[hF.raw fo (h1 trivial),mK (R:=fZ ov fr) fun x hx=>hF.raw x (h3 trivial x hx)]
  split at h4
  ·rename_i he
   rw[he]
   rw[jO] at h4
   exact h4.ok
  ·rename_i he
   rw[he]
   rw[jO] at h4
   exact h4.ok
  ·exact h4.elim
 ·have e1:yn P nx (fZ ov fr) H op K=qj none H (fZ ov fr) nx op fun r u=>K r (dS H u) (nx+1):=by cases op<;>first|rfl|exact absurd ⟨_,_,rfl⟩ hc
  have e2:eL P nx f H op K=ng (cM nx f H op) fun p=>K p.1 (dS H p.2) (nx+1):=by cases op<;>first|rfl|exact absurd ⟨_,_,rfl⟩ hc
  rw[e1] at h
  obtain⟨r,u,h1,h2⟩:=kn h
  rw[e2,(h2 trivial).2 f fun x hx=>hF.raw x hx]
  exact h1
theorem xX {nx:Nat} {g:Bool} {ov:Ov} {fr:Fr} {H:Hp} {op:df} {K:AV->Prop} (h:nE P nx g (fZ ov fr) H op K):
 ∃r,K r/\(g=true->∀f,qu f ov fr->∀K':AV->Hp->Nat->Prop,K' r H (nx+1)->eL P nx f H op K'):=by
 by_cases hc:∃g as,op= .call g as
 ·obtain⟨fo,as,rfl⟩:=hc
  simp only[nE] at h
  obtain⟨h1,h2⟩:=cS h
  obtain⟨h3,h4⟩:=ff h2
  split at h4
  ·rename_i he
   rw[jO] at h4
   obtain⟨r,h5,h6⟩:=h4.ok
   refine⟨r,h6,fun hg f hF K' hK'=> ?_⟩
   simp only[eL]
   rw[hF.raw fo (h1 hg),mK (R:=fZ ov fr) fun x hx=>hF.raw x (h3 hg x hx),he]
   exact h5 hg K' hK'
  ·exact h4.elim
 ·have e1:nE P nx g (fZ ov fr) H op K=qj (some g) H (fZ ov fr) nx op fun r u=>match u with|none=>K r|some _=>False:=by cases op<;>first|rfl|exact absurd ⟨_,_,rfl⟩ hc
  rw[e1] at h
  obtain⟨r,u,h1,h2⟩:=kn h
  cases u with
  |some p=>exact h1.elim
  |none=>
   refine⟨r,h1,fun hg f hF K' hK'=> ?_⟩
   have e2:eL P nx f H op K'=ng (cM nx f H op) fun p=>K' p.1 (dS H p.2) (nx+1):=by cases op<;>first|rfl|exact absurd ⟨_,_,rfl⟩ hc
   rw[e2,(h2 hg).2 f fun x hx=>hF.raw x hx]
   exact hK'
theorem gE:∀{gs:List iY} {nx:Nat} {ov:Ov} {f fr:Fr} {H:Hp} {K:Ov->Hp->Nat->Prop},qu f ov fr->G4 P nx gs ov fr H K->fu P nx gs f H (fun f1 H1 nx1=>∃ov1,qu f1 ov1 fr/\K ov1 H1 nx1)
 |[],nx,ov,f,fr,H,K,hF,h=>⟨ov,hF,h⟩
 |g::gs,nx,ov,f,fr,H,K,hF,h=>by
  have join:∀{q t:Bool} {d:Nat} {want:Bool},g.guard=some (d,want)->(q=true->cq f d= .sc (.bool t))->(q=false->cq f d= .sc undef)->∀{gg:Bool},(gg=true↔(q=true/\t=want))->
   (nE P nx gg (fZ ov fr) H g.op fun r=>G4 P (nx+1) gs (iX ov g.dst (some gg) r) fr H K)->fu P nx (g::gs) f H (fun f1 H1 nx1=>∃ov1,qu f1 ov1 fr/\K ov1 H1 nx1):=by
   intro q t d want hg hq1 hq2 gg hgg hJ
   obtain⟨r,h1,h2⟩:=xX hJ
   simp only[fu,hg,dj]
   cases q with
   |true=>
    simp only[hq1 rfl]
    by_cases ht:t=want
    ·rw[if_pos ht]
     have hgt:=hgg.2 ⟨rfl,ht⟩
     exact h2 hgt f hF _ (gE (hF.qc g.dst (u:=r) (fun _=>rfl) fun h=>by rw[hgt] at h;cases h) h1)
    ·rw[if_neg ht]
     have hgf:gg=false:=by cases hgg':gg<;>simp_all
     exact gE (hF.qc g.dst (u:= .sc undef) (fun h=>by rw[hgf] at h;cases h) fun _=>rfl) h1
   |false=>
    simp only[hq2 rfl]
    have hgf:gg=false:=by cases hgg':gg<;>simp_all
    have:=gE (hF.qc g.dst (u:= .sc undef) (q:=gg) (fun h=>by rw[hgf] at h;cases h) fun _=>rfl) h1
    exact this
  have h:qy P g gs (fun nx ov fr H K=>G4 P nx gs ov fr H K) nx ov fr H K:=h
  simp only[qy] at h
  split at h
  ·rename_i hg
   simp only[fu,hg,dj]
   exact(sF hF h).mono fun r H' nx' hh=>gE (hF.put g.dst r) hh
  ·rename_i d want hg
   have hd:=hF d
   split at h
   ·rename_i t he
    rw[he] at hd
    simp only at hd
    rcases h.ok with⟨hA,hB⟩|hJ
    ·simp only[fu,hg,dj,hd]
     by_cases ht:t=want
     ·rw[if_pos ht]
      exact(sF hF (hA ht)).mono fun r H' nx' hh=>gE (hF.put g.dst r) hh
     ·rw[if_neg ht]
      exact gE (hF.put g.dst _) (hB ht)
    ·cases want with
     |true=>exact join (q:=true) hg (fun _=>hd) (fun h=>by cases h) (gg:=t) (by simp) hJ
     |false=>exact join (q:=true) hg (fun _=>hd) (fun h=>by cases h) (gg:= !t) (by simp) hJ
   ·rename_i q t he
    rw[he] at hd
    simp only at hd
    cases want with
    |true=>exact join hg hd.1 hd.2 (gg:=q&&t) (by simp) h
    |false=>exact join hg hd.1 hd.2 (gg:=q&& !t) (by simp) h
   ·rename_i v he
    rw[he] at hd
    simp only at hd
    simp only[fu,hg,dj,hd]
    exact gE (hF.put g.dst _) h
   ·exact h.elim
def G2:Tr->Tr->Prop
 |[],[]=>True
 |a::r,b::s=>(∀x∈a.1,x∈b.1)/\a.2=b.2/\G2 r s
 |_,_=>False
theorem G2.snoc {a b:List Nat} {u:Option Nat} (h1:∀x∈a,x∈b):∀{r s:Tr},G2 r s->G2 (r++[(a,u)]) (s++[(b,u)])
 |[],[],_=>⟨h1,rfl,trivial⟩
 |x::r,y::s,h=>⟨h.1,h.2.1,G2.snoc h1 h.2.2⟩
 |[],_::_,h=>h.elim
 |_::_,[],h=>h.elim
theorem G2.get:∀{r s:Tr},G2 r s->∀k,(∀x∈(r.getD k ([],none)).1,x∈(s.getD k ([],none)).1)/\(r.getD k ([],none)).2=(s.getD k ([],none)).2
 |[],[],_,k=>by simp
 |x::r,y::s,h,0=>⟨h.1,h.2.1⟩
 |x::r,y::s,h,k+1=>by simpa using G2.get h.2.2 k
 |[],_::_,h,_=>h.elim
 |_::_,[],h,_=>h.elim
theorem G2.HT {r s:Tr} (h:G2 r s) {ps:List (Nat×Nat)} (hf:j5 s ps):j5 r ps:=by
 intro p hp
 obtain⟨h1,h2,h3⟩:=hf p hp
 obtain⟨a1,a2⟩:=h.get p.1
 obtain⟨b1,b2⟩:=h.get p.2
 exact⟨fun b hb hm=>h1 b (by rw[<-a2];exact hb) (b1 b hm),fun b hb hm=>h2 b (by rw[<-b2];exact hb) (a1 b hm),fun b hb=>h3 b ⟨by rw[<-a2];exact hb.1,by rw[<-b2];exact hb.2⟩⟩
theorem F8 {ov:Ov} {f fr:Fr} {op:df} (hF:qu f ov fr) (h:op.rd=true->∀y∈op.eT,JH (fZ ov fr) y):∀x∈eo f op,x∈IQ (fZ ov fr) op:=by
 intro x hx
 unfold eo at hx
 unfold IQ
 split at hx
 ·rename_i hr
  rw[if_pos hr]
  obtain⟨y,hy,hm⟩:=List.mem_flatMap.1 hx
  exact List.mem_flatMap.2 ⟨y,hy,by rw[<-hF.raw y (h hr y hy)];exact hm⟩
 ·cases hx
theorem po {id:Nat} {ov:Ov} {fr:Fr} {H:Hp} {op:df} {K:AV->Option (Nat×fH)->List Nat->Prop} (h:pF P id (fZ ov fr) H op K) {f:Fr} (hF:qu f ov fr):
 mh P id f H op (fun r u S'=>∃S,(∀x∈S',x∈S)/\K r u S):=by
 by_cases hc:∃g as,op= .call g as
 ·obtain⟨fo,as,rfl⟩:=hc
  simp only[pF] at h
  obtain⟨h1,h2⟩:=cS h
  obtain⟨h3,h4⟩:=ff h2
  split at h4
  ·rename_i he
   rw[jO] at h4
   obtain⟨r,u,S,h5,h6⟩:=h4.ok
   refine⟨r,u,S, ?_,S,fun _ h=>h,h6⟩
   rw[hF.raw fo (h1 trivial),mK (R:=fZ ov fr) fun x hx=>hF.raw x (h3 trivial x hx),he]
   simpa[pk] using h5
  ·exact h4.elim
 ·have e1:pF P id (fZ ov fr) H op K=qj none H (fZ ov fr) id op fun r u=>K r u (IQ (fZ ov fr) op):=by cases op<;>first|rfl|exact absurd ⟨_,_,rfl⟩ hc
  rw[e1] at h
  obtain⟨r,u,h1,h2⟩:=kn h
  obtain⟨h3,h4⟩:=h2 trivial
  have e2:∀K',mh P id f H op K'=ng (cM id f H op) fun p=>K' p.1 p.2 (eo f op):=by intro K';cases op<;>first|rfl|exact absurd ⟨_,_,rfl⟩ hc
  rw[e2,h4 f fun x hx=>hF.raw x hx]
  exact⟨_,F8 hF h3,h1⟩
theorem xW {id:Nat} {g:Bool} {ov:Ov} {fr:Fr} {H:Hp} {op:df} {K:AV->List Nat->Prop} (h:j3 P id g (fZ ov fr) H op K):
 ∃r S,K r S/\(g=true->∀f,qu f ov fr->∀K':AV->Option (Nat×fH)->List Nat->Prop,(∀S',(∀x∈S',x∈S)->K' r none S')->mh P id f H op K'):=by
 by_cases hc:∃g as,op= .call g as
 ·obtain⟨fo,as,rfl⟩:=hc
  simp only[j3] at h
  obtain⟨h1,h2⟩:=cS h
  obtain⟨h3,h4⟩:=ff h2
  split at h4
  ·rename_i he
   rw[jO] at h4
   obtain⟨r,S,h5,h6⟩:=h4.ok
   refine⟨r,S,h6,fun hg f hF K' hK'=>⟨r,none,S, ?_,hK' S fun _ h=>h⟩⟩
   rw[hF.raw fo (h1 hg),mK (R:=fZ ov fr) fun x hx=>hF.raw x (h3 hg x hx),he]
   simpa[pk] using h5 hg
  ·exact h4.elim
 ·have e1:j3 P id g (fZ ov fr) H op K=qj (some g) H (fZ ov fr) id op fun r u=>match u with|none=>K r (IQ (fZ ov fr) op)|some _=>False:=by cases op<;>first|rfl|exact absurd ⟨_,_,rfl⟩ hc
  rw[e1] at h
  obtain⟨r,u,h1,h2⟩:=kn h
  cases u with
  |some p=>exact h1.elim
  |none=>
   refine⟨r,_,h1,fun hg f hF K' hK'=> ?_⟩
   obtain⟨h3,h4⟩:=h2 hg
   have e2:mh P id f H op K'=ng (cM id f H op) fun p=>K' p.1 p.2 (eo f op):=by cases op<;>first|rfl|exact absurd ⟨_,_,rfl⟩ hc
   rw[e2,h4 f fun x hx=>hF.raw x hx]
   exact hK' _ (F8 hF h3)
theorem gb:∀{gs:List iY} {id:Nat} {ov:Ov} {f fr:Fr} {H:Hp} {tr tr':Tr} {K:Ov->Hp->Tr->Prop},qu f ov fr->G2 tr' tr->WD P id gs ov fr H tr K->jc P id gs f H tr' (fun f1 H1 tr1=>∃ov1 trj,qu f1 ov1 fr/\G2 tr1 trj/\K ov1 H1 trj)
 |[],id,ov,f,fr,H,tr,tr',K,hF,hT,h=>⟨ov,tr,hF,hT,h⟩
 |g::gs,id,ov,f,fr,H,tr,tr',K,hF,hT,h=>by
  have join:∀{q t:Bool} {d:Nat} {want:Bool},g.guard=some (d,want)->(q=true->cq f d= .sc (.bool t))->(q=false->cq f d= .sc undef)->∀{gg:Bool},(gg=true↔(q=true/\t=want))->
   (j3 P id gg (fZ ov fr) H g.op fun r S=>WD P (id+1) gs (iX ov g.dst (some gg) r) fr H (tr++[(S,none)]) K)->jc P id (g::gs) f H tr' (fun f1 H1 tr1=>∃ov1 trj,qu f1 ov1 fr/\G2 tr1 trj/\K ov1 H1 trj):=by
   intro q t d want hg hq1 hq2 gg hgg hJ
   obtain⟨r,S,h1,h2⟩:=xW hJ
   simp only[jc,hg,dj]
   cases q with
   |true=>
    simp only[hq1 rfl]
    by_cases ht:t=want
    ·rw[if_pos ht]
     have hgt:=hgg.2 ⟨rfl,ht⟩
     refine h2 hgt f hF _ fun S' hS=> ?_
     exact gb (hF.qc g.dst (u:=r) (fun _=>rfl) fun h=>by rw[hgt] at h;cases h) (hT.snoc hS) h1
    ·rw[if_neg ht]
     have hgf:gg=false:=by cases hgg':gg<;>simp_all
     exact gb (hF.qc g.dst (u:= .sc undef) (fun h=>by rw[hgf] at h;cases h) fun _=>rfl) (hT.snoc (a:=[]) (b:=S) (fun _ h=>by cases h)) h1
   |false=>
    simp only[hq2 rfl]
    have hgf:gg=false:=by cases hgg':gg<;>simp_all
    have:=gb (hF.qc g.dst (u:= .sc undef) (q:=gg) (fun h=>by rw[hgf] at h;cases h) fun _=>rfl) (hT.snoc (a:=[]) (b:=S) (fun _ h=>by cases h)) h1
    exact this
  have h:pn P g gs (fun id ov fr H tr K=>WD P id gs ov fr H tr K) id ov fr H tr K:=h
  simp only[pn] at h
  split at h
  ·rename_i hg
   simp only[jc,hg,dj]
   refine(po h hF).mono ?_
   rintro r u S' ⟨S,hS,hh⟩
   exact gb (hF.put g.dst r) (hT.snoc hS) hh
  ·rename_i d want hg
   have hd:=hF d
   split at h
   ·rename_i t he
    rw[he] at hd
    simp only at hd
    rcases h.ok with⟨hA,hB⟩|hJ
    ·simp only[jc,hg,dj,hd]
     by_cases ht:t=want
     ·rw[if_pos ht]
      refine(po (hA ht) hF).mono ?_
      rintro r u S' ⟨S,hS,hh⟩
      exact gb (hF.put g.dst r) (hT.snoc hS) hh
     ·rw[if_neg ht]
      exact gb (hF.put g.dst _) (hT.snoc (a:=[]) (b:=[]) (fun _ h=>h)) (hB ht)
    ·cases want with
     |true=>exact join (q:=true) hg (fun _=>hd) (fun h=>by cases h) (gg:=t) (by simp) hJ
     |false=>exact join (q:=true) hg (fun _=>hd) (fun h=>by cases h) (gg:= !t) (by simp) hJ
   ·rename_i q t he
    rw[he] at hd
    simp only at hd
    cases want with
    |true=>exact join hg hd.1 hd.2 (gg:=q&&t) (by simp) h
    |false=>exact join hg hd.1 hd.2 (gg:=q&& !t) (by simp) h
   ·rename_i v he
    rw[he] at hd
    simp only at hd
    simp only[jc,hg,dj,hd]
    exact gb (hF.put g.dst _) (hT.snoc (a:=[]) (b:=[]) (fun _ h=>h)) h
   ·exact h.elim
theorem lT:∀{segs:List tS} {nx:Nat} {ov:Ov} {f fr:Fr} {H:Hp} {K:Ov->Hp->Nat->Prop},qu f ov fr->WS P nx segs ov fr H K->jJ P nx segs f H (fun f1 H1 nx1=>∃ov1,qu f1 ov1 fr/\K ov1 H1 nx1)
 |[],nx,ov,f,fr,H,K,hF,h=>⟨ov,hF,h⟩
 |⟨[g],ps⟩::rest,nx,ov,f,fr,H,K,hF,h=>by
  have h:G4 P nx [g] ov fr H fun ov' H' nx'=>WS P nx' rest ov' fr H' K:=h
  refine fu.mono (K':=fun a b c=>jJ P c rest a b _) (gE hF h) ?_
  rintro f1 H1 nx1 ⟨ov1,h1,h2⟩
  exact lT h1 h2
 |⟨[],[]⟩::rest,nx,ov,f,fr,H,K,hF,h=>by
  have h:WE P nx [] ov fr H [] fun ov' H' _=>WS P (nx+0) rest ov' fr H' K:=h
  rw[ym,List.reverse_nil] at h
  simp only[jJ]
  refine jc.mono (gb hF (tr':=[]) (tr:=[]) trivial h) ?_
  rintro f1 H1 tr1 ⟨ov1,trj,h1,h2,h3⟩
  exact⟨(fun p hp=>by cases hp),lT h1 h3⟩
 |⟨[],p::ps⟩::rest,nx,ov,f,fr,H,K,hF,h=>by
  have h:WE P nx [] ov fr H [] fun ov' H' tr=>Ask (j5 tr.reverse (p::ps))/\WS P (nx+0) rest ov' fr H' K:=h
  rw[ym,List.reverse_nil] at h
  simp only[List.reverse_reverse] at h
  simp only[jJ]
  refine jc.mono (gb hF (tr':=[]) (tr:=[]) trivial h) ?_
  rintro f1 H1 tr1 ⟨ov1,trj,h1,h2,h3⟩
  exact⟨h2.HT h3.1.ok,lT h1 h3.2⟩
 |⟨g1::g2::gs,[]⟩::rest,nx,ov,f,fr,H,K,hF,h=>by
  have h:WE P nx (g1::g2::gs) ov fr H [] fun ov' H' _=>WS P (nx+(g1::g2::gs).length) rest ov' fr H' K:=h
  rw[ym,List.reverse_nil] at h
  simp only[jJ]
  refine jc.mono (gb hF (tr':=[]) (tr:=[]) trivial h) ?_
  rintro f1 H1 tr1 ⟨ov1,trj,h1,h2,h3⟩
  exact⟨(fun p hp=>by cases hp),lT h1 h3⟩
 |⟨g1::g2::gs,p::ps⟩::rest,nx,ov,f,fr,H,K,hF,h=>by
  have h:WE P nx (g1::g2::gs) ov fr H [] fun ov' H' tr=>Ask (j5 tr.reverse (p::ps))/\WS P (nx+(g1::g2::gs).length) rest ov' fr H' K:=h
  rw[ym,List.reverse_nil] at h
  simp only[List.reverse_reverse] at h
  simp only[jJ]
  refine jc.mono (gb hF (tr':=[]) (tr:=[]) trivial h) ?_
  rintro f1 H1 tr1 ⟨ov1,trj,h1,h2,h3⟩
  exact⟨h2.HT h3.1.ok,lT h1 h3.2⟩
theorem Holds.less {w0:World} {M0:Nat->Prop} {c0:Cx} {lo n:Nat} {fr fr':Fr} {H:Hp} {nx:Nat} {a:Act} {w:World} (h:Holds w0 M0 c0 lo n fr H nx a w) (hf:∀t,cq fr' t= .any\/cq fr' t=cq fr t):Holds w0 M0 c0 lo n fr' H nx a w:=by
 obtain⟨h1,h2,ρ,U,hU,hS,hF,hT⟩:=h
 refine⟨h1,h2,ρ,U,hU,hS,fun t=> ?_,hT⟩
 rcases hf t with h|h
 ·rw[h,VR];trivial
 ·rw[h];exact hF t
theorem WL.less {n lo:Nat} {lc:LC} {fr:Fr} {H:Hp} {nx:Nat} {Q:QT} (h:WL P n lo lc fr H nx (fun e f H nx=>∃f',(∀t,cq f' t= .any\/cq f' t=cq f t)/\Q e f' H nx)):WL P n lo lc fr H nx Q:=
 fun code hc w0 M0 c0 a w hh=>Code.wp_mono (fun _ _ _ ⟨x,f,H,nx,he,⟨f',h1,h2⟩,hhh⟩=>⟨x,f',H,nx,he,h2,hhh.less h1⟩) (h code hc w0 M0 c0 a w hh)
theorem qu.less {f:Fr} {ov:Ov} {fr:Fr} (h:qu f ov fr) (t:Nat):cq (iy ov fr) t= .any\/cq (iy ov fr) t=cq f t:=by
 rcases pR (ov:=ov) (fr:=fr) (t:=t) with h1|⟨v,h1,h2⟩
 ·exact .inl h1
 ·have:=h t
  rw[h1] at this
  exact .inr (h2.trans this.symm)
theorem gZ.of {segs:List tS} {fr:Fr} {H:Hp} {nx:Nat} {Q:QT} (h:WS P nx segs [] fr H fun ov H' nx'=>Q .normal (iy ov fr) H' nx'):gZ P segs fr H nx Q:=
 ⟨fun _ _=>WL.less (WL.drawn (jJ.mono (lT (qu.refl fr) h) fun _ _ _ ⟨_,h1,h2⟩=>⟨_,h1.less,h2⟩))⟩
theorem fX {n lo:Nat}:∀{lc:LC} {fr:Fr} {H:Hp} {nx:Nat} {Q:QT},W P n lo lc fr H nx Q->WL P n lo lc fr H nx Q
 | .skip,_,_,_,_,h=>WL.skip h
 | .ret,_,_,_,_,h=>WL.ret h
 | .exit _,_,_,_,_,h=>WL.exit h
 | .region gs,fr,H,nx,Q,h=>WL.less (WL.region (fu.mono (gE (qu.refl fr) h) fun _ _ _ ⟨_,h1,h2⟩=>⟨_,h1.less,h2⟩))
 | .drawn segs,fr,H,nx,Q,h=>gZ.ok (P:=P) h n lo
 | .seq a b,fr,H,nx,Q,h=>WL.seq ((fX (lc:=a) (Q:=jH (fun fr H nx=>W P n lo b fr H nx Q) Q) h).mono fun e fr H nx hh=>by
  cases e with
  |normal=>exact fX (lc:=b) hh
  |exit id=>exact hh
  |ret=>exact hh)
 | .cond c a b,fr,H,nx,Q,h=>by
  have h:CB c a b (W P n lo a) (W P n lo b) fr H nx Q:=h
  simp only[CB] at h
  split at h
  ·rename_i t ht
   exact WL.cond ht (fun h1=>fX (lc:=a) (h.ok.1 h1)) (fun h1=>fX (lc:=b) (h.ok.2 h1))
  ·rename_i ht
   exact WL.TG ht (fX (lc:=a) h.1) (fX (lc:=b) h.2)
  ·exact h.elim
 | .block id a,fr,H,nx,Q,h=>WL.block (fX (lc:=a) h)
 | .loop a,fr,H,nx,Q,h=>h.ok
theorem jU.inv {n lo:Nat} {x:LC} {fr:Fr} {H:Hp} {nx:Nat} {Q:QT} {σ:Type} (I:σ->Fr->Hp->Nat->Prop) (μ:σ->Nat) (s0:σ) (h0:∃fr',(∀t,cq fr' t= .any\/cq fr' t=cq fr t)/\I s0 fr' H nx)
 (round:∀s fr H nx,I s fr H nx->WL P n lo x fr H nx (jH (fun fr' H' nx'=>∃s',μ s'<μ s/\∃fr2,(∀t,cq fr2 t= .any\/cq fr2 t=cq fr' t)/\I s' fr2 H' nx') Q)):jU P n lo x fr H nx Q:=by
 refine⟨fun code hc w0 M0 c0 a w hh=> ?_⟩
 have:∃c1,code= .loop c1/\dD P n c1=some x:=by
  cases code<;>simp only[dD] at hc
  case loop c1=>
   simp only[Option.map_eq_some_iff,LC.loop.injEq] at hc
   obtain⟨x',h1,rfl⟩:=hc
   exact⟨c1,rfl,h1⟩
  all_goals (exfalso;repeat' (split at hc))<;>simp at hc
 obtain⟨c1,rfl,h1⟩:=this
 intro b k cs
 have key:∀m,∀s,μ s=m->∀fr H nx,I s fr H nx->∀a w,Holds w0 M0 c0 lo n fr H nx a w->
  ∃e a' w',LQ w0 M0 c0 lo n Q e a' w'/\Arrives P (lone (b.at a (.code c1:: .inLoop c1::k)) cs w) b k cs e a' w':=by
  intro m
  induction m using Nat.strongRecOn with
  |_ m ih=>
   intro s hs fr H nx hI a w hh
   obtain⟨e,a1,w1,hq,harr⟩:=round s fr H nx hI c1 h1 w0 M0 c0 a w hh b (.inLoop c1::k) cs
   obtain⟨x',fr',H',nx',rfl,hQ,hh'⟩:=hq
   cases x' with
   |normal=>
    obtain⟨s',hlt,fr2,hless,hI'⟩:=hQ
    obtain⟨e2,a2,w2,hq2,harr2⟩:=ih (μ s') (by omega) s' rfl fr2 H' nx' hI' a1 w1 (hh'.less hless)
    exact⟨e2,a2,w2,hq2, .of_steps (Steps.trans harr (.one step_inLoop)) harr2⟩
   |exit id=>exact⟨_,a1,w1,⟨.exit id,fr',H',nx',rfl,hQ,hh'⟩, .pass (x:= .inLoop c1) rfl (fun _ _=> .inl (by simp[Ex.to])) harr⟩
   |ret=>exact⟨_,a1,w1,⟨.ret,fr',H',nx',rfl,hQ,hh'⟩, .pass (x:= .inLoop c1) rfl (fun _ _=> .inl (by simp[Ex.to])) harr⟩
 obtain⟨fr',hless,hI⟩:=h0
 obtain⟨e,a',w',hq,harr⟩:=key _ s0 rfl fr' H nx hI a w (hh.less hless)
 exact⟨e,a',w',hq, .of_steps (.one step_loop) harr⟩
def k7 (fr:Fr):Fr->Prop
 |[]=>True
 |(t,v)::r=>cq fr t=v/\k7 fr r
theorem iP {fr:Fr}:∀{fr':Fr},k7 fr fr'->∀t,cq fr' t= .any\/cq fr' t=cq fr t
 |[],_,t=> .inl rfl
 |(d,v)::r,h,t=>by
  simp only[cq]
  by_cases ht:t=d
  ·subst ht;rw[if_pos rfl];exact .inr h.1.symm
  ·rw[if_neg ht];exact iP h.2 t
theorem jU.fr {n lo:Nat} {x:LC} {fr:Fr} {H:Hp} {nx:Nat} {Q:QT} {σ:Type} (F:σ->Fr) (I:σ->Hp->Nat->Prop) (μ:σ->Nat) (s0:σ) (h0:k7 fr (F s0)) (h1:I s0 H nx)
 (round:∀s H nx,I s H nx->W P n lo x (F s) H nx (jH (fun fr' H' nx'=>∃s',μ s'<μ s/\k7 fr' (F s')/\I s' H' nx') Q)):jU P n lo x fr H nx Q:=by
 refine jU.inv (fun s fr H nx=>fr=F s/\I s H nx) μ s0 ⟨F s0,iP h0,rfl,h1⟩ ?_
 rintro s fr H nx ⟨rfl,hI⟩
 refine(fX (round s H nx hI)).mono ?_
 intro e fr' H' nx' hh
 cases e with
 |normal=>
  obtain⟨s',h2,h3,h4⟩:=hh
  exact⟨s',h2,F s',iP h3,rfl,h4⟩
 |exit id=>exact hh
 |ret=>exact hh
end
end Go.cw
end
