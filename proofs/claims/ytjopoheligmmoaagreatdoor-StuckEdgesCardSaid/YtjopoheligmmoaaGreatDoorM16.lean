import Derived.Test.YtjopoheligmmoaaGreatDoorM9
section
/- A run by reduction alone: the code is walked by the reducer; what is to be shown stands out as questions. -/
set_option linter.unusedSimpArgs false
set_option linter.unusedVariables false
namespace Go.dA
open Go.RowKit
structure Ask (p:Prop):Prop where
 ok:p
def eF:Option Bool->Prop->Prop
 |none,p=>Ask p
 |some g,p=>Ask (g=true->p)
def Gd:Option Bool->Prop
 |none=>True
 |some g=>g=true
theorem cn {g:Option Bool} {p:Prop}:eF g p↔(Gd g->p):=by
 cases g with
 |none=>exact⟨fun h _=>h.ok,fun h=>⟨h trivial⟩⟩
 |some g=>exact⟨fun h=>h.ok,fun h=>⟨h⟩⟩
abbrev Ov:=List (Nat×Option Bool×AV)
def rW:Ov->Fr->Nat->Option Bool×AV
 |[],fr,t=>(none,cu fr t)
 |(d,c,v)::r,fr,t=>bif Nat.beq t d then(c,v) else rW r fr t
def iJ (ov:Ov) (d:Option Nat) (c:Option Bool) (v:AV):Ov:=
 match d with
 |some d=>(d,c,v)::ov
 |none=>ov
def iV:Ov->Fr->Fr
 |[],fr=>fr
 |(d,none,v)::r,fr=>(d,v)::iV r fr
 |(d,some _,_)::r,fr=>(d, .any)::iV r fr
def fX (ov:Ov) (fr:Fr):eK->Option Bool×AV
 | .t n=>rW ov fr n
 | .c v=>(none, .sc v)
 | .f n=>(none, .fn (.func n) [] [])
 | .m nm n=>match rW ov fr n with
  |(g, .nC t v)=>(g, .fn (.method nm) [.nC t v] [])
  |(g,_)=>(g, .any)
theorem sf {t d:Nat} (h:¬t=d):Nat.beq t d=false:=by
 cases hb:Nat.beq t d with
 |false=>rfl
 |true=>exact absurd (Nat.eq_of_beq_eq_true hb) h
def qy (f:Fr) (ov:Ov) (fr:Fr):Prop:=
 ∀t,match rW ov fr t with
  |(none,v)=>cu f t=v
  |(some q,v)=>(q=true->cu f t=v)/\(q=false->cu f t= .sc undef)
theorem qy.refl (fr:Fr):qy fr [] fr:=fun _=>rfl
theorem qy.put {f:Fr} {ov:Ov} {fr:Fr} (h:qy f ov fr) (d:Option Nat) (v:AV):qy (gK f d v) (iJ ov d none v) fr:=by
 cases d with
 |none=>exact h
 |some d=>
  intro t
  simp only[iJ,gK,rW,cu]
  by_cases ht:t=d
  ·subst ht;simp
  ·have:Nat.beq t d=false:=sf ht
   rw[this,if_neg ht];exact h t
theorem qy.p6 {f:Fr} {ov:Ov} {fr:Fr} (h:qy f ov fr) (d:Option Nat) {q:Bool} {u v:AV} (h1:q=true->u=v) (h2:q=false->u= .sc undef):qy (gK f d u) (iJ ov d (some q) v) fr:=by
 cases d with
 |none=>exact h
 |some d=>
  intro t
  simp only[iJ,gK,rW,cu]
  by_cases ht:t=d
  ·subst ht;simpa using⟨h1,h2⟩
  ·have:Nat.beq t d=false:=sf ht
   rw[this,if_neg ht];exact h t
theorem qy.raw {f:Fr} {ov:Ov} {fr:Fr} (h:qy f ov fr) (x:eK) (hq:∀q,(fX ov fr x).1=some q->q=true):ev f x=(fX ov fr x).2:=by
 cases x with
 |t n=>
  have:=h n
  simp only[ev,fX] at hq ⊢
  split at this
  ·rename_i v he;rw[this,he]
  ·rename_i q v he;rw[he] at hq ⊢;exact this.1 (hq q rfl)
 |c v=>rfl
 |f n=>rfl
 |m nm n=>
  have:=h n
  simp only[ev,fX] at hq ⊢
  generalize rW ov fr n=x at this hq ⊢
  obtain⟨g,v⟩:=x
  have hv:cu f n=v:=by
   cases g with
   |none=>exact this
   |some q=>
    refine this.1 (hq q ?_)
    cases v<;>rfl
  rw[hv]
  cases v<;>rfl
theorem pP {fr:Fr} {t:Nat}:∀{ov:Ov},cu (iV ov fr) t= .any\/∃v,rW ov fr t=(none,v)/\cu (iV ov fr) t=v
 |[]=> .inr ⟨_,rfl,rfl⟩
 |(d,none,v)::r=>by
  simp only[iV,cu,rW]
  by_cases ht:t=d
  ·subst ht;simp
  ·have:Nat.beq t d=false:=sf ht
   rw[this,if_neg ht];exact pP
 |(d,some q,v)::r=>by
  simp only[iV,cu,rW]
  by_cases ht:t=d
  ·subst ht;simp
  ·have:Nat.beq t d=false:=sf ht
   rw[this,if_neg ht];exact pP
abbrev Raw:=eK->Option Bool×AV
def dR (g:Option Bool) (R:Raw) (x:eK) (K:AV->Prop):Prop:=
 match R x with
 |(none,v)=>K v
 |(some q,v)=>eF g (q=true)/\K v
def JI (R:Raw) (x:eK):Prop:=∀q,(R x).1=some q->q=true
theorem cU {g:Option Bool} {R:Raw} {x:eK} {K:AV->Prop} (h:dR g R x K):(Gd g->JI R x)/\K (R x).2:=by
 unfold dR at h
 split at h
 ·rename_i v he;rw[he];exact⟨fun _ q hq=>(by rw[he] at hq;cases hq),h⟩
 ·rename_i q v he
  rw[he]
  exact⟨fun hg q' hq=>(by rw[he] at hq;cases hq;exact cn.1 h.1 hg),h.2⟩
def CP (K:List AV->Prop):Prop:=K []
def zG (g:Option Bool) (R:Raw) (x:eK) (_:List eK) (ih:(List AV->Prop)->Prop) (K:List AV->Prop):Prop:=dR g R x fun a=>ih fun as=>K (a::as)
noncomputable def lD (g:Option Bool) (R:Raw) (xs:List eK):(List AV->Prop)->Prop:=List.rec (motive:=fun _=>(List AV->Prop)->Prop) CP (zG g R) xs
theorem fZ {g:Option Bool} {R:Raw}:∀{xs:List eK} {K:List AV->Prop},lD g R xs K->(Gd g->∀x∈xs,JI R x)/\K (xs.map fun x=>(R x).2)
 |[],K,h=>⟨fun _ _ h=>(by cases h),h⟩
 |x::r,K,h=>by
  obtain⟨h1,h2⟩:=cU h
  obtain⟨h3,h4⟩:=fZ h2
  refine⟨fun hg y hy=> ?_,h4⟩
  rcases List.mem_cons.1 hy with rfl|hy
  ·exact h1 hg
  ·exact h3 hg y hy
theorem mN {f:Fr} {R:Raw}:∀{xs:List eK},(∀x∈xs,ev f x=(R x).2)->vK f xs=xs.map fun x=>(R x).2
 |[],_=>rfl
 |x::r,h=>by
  simp only[vK,List.map_cons]
  rw[h x (by simp),mN fun y hy=>h y (by simp[hy])]
def gU (v:AV) (K:AV->Prop):Prop:=
 match v with
 | .sc v=>K (.sc v)
 | .any=>K .any
 | .im a b c=>K (.im a b c)
 | .ip a b c d e=>K (.ip a b c d e)
 | .sl a b=>K (.sl a b)
 | .pt a b c d=>K (.pt a b c d)
 | .zc=>K .zc
 | .agg a=>K (.agg a)
 | .dQ a=>K (.dQ a)
 | .fn a b c=>K (.fn a b c)
 | .nC a b=>K (.nC a b)
 | .mp a=>K (.mp a)
 | .ab=>K .ab
 | .sv a b c d=>K (.sv a b c d)
theorem fP (v:AV) (K:AV->Prop):gU v K=K v:=by cases v<;>rfl
def CW (K:List AV->Prop):Prop:=K []
def zK (a:AV) (_:List AV) (ih:(List AV->Prop)->Prop) (K:List AV->Prop):Prop:=ih fun r'=>K (a::r')
noncomputable def rV (l:List AV):(List AV->Prop)->Prop:=List.rec (motive:=fun _=>(List AV->Prop)->Prop) CW zK l
theorem jH:∀(l:List AV) (K:List AV->Prop),rV l K=K l
 |[],_=>rfl
 |a::r,K=>jH r fun r'=>K (a::r')
structure gn (H:Hp) (b:Nat) (K:TypeId->Nat->AV->List AV->Prop):Prop where
 ok:∃e sz d es,cC H b=some (.row e sz d es)/\K e sz d es
theorem gn.of {H:Hp} {b:Nat} {K:TypeId->Nat->AV->List AV->Prop} {e:TypeId} {sz:Nat} {d:AV} {es:List AV} (h:cC H b=some (.row e sz d es)) (k:K e sz d es):gn H b K:=⟨⟨e,sz,d,es,h,k⟩⟩
structure qx (es:List AV) (i:Nat) (d:AV) (K:AV->Prop):Prop where
 ok:K (es.getD i d)
theorem qx.of {es:List AV} {i:Nat} {d:AV} {K:AV->Prop} {e:AV} (h:es.getD i d=e) (k:K e):qx es i d K:=⟨by rw[h];exact k⟩
structure kE {α:Type} (x:Option α) (K:α->Prop):Prop where
 ok:∃a,x=some a/\K a
theorem kE.of {α:Type} {x:Option α} {K:α->Prop} {a:α} (h:x=some a) (k:K a):kE x K:=⟨⟨a,h,k⟩⟩
structure kF {α:Type} (g:Option Bool) (x:Option α) (K:α->Prop):Prop where
 ok:∃a,(Gd g->x=some a)/\K a
theorem kF.of {α:Type} {g:Option Bool} {x:Option α} {K:α->Prop} {a:α} (h:Gd g->x=some a) (k:K a):kF g x K:=⟨⟨a,h,k⟩⟩
structure sA (H:Hp) (b:Nat) (K:TypeId->AV->List AV->Prop):Prop where
 ok:∃e d es,cC H b=some (.row e 0 d (mapA es))/\K e d es
theorem sA.of {H:Hp} {b:Nat} {K:TypeId->AV->List AV->Prop} {e:TypeId} {d:AV} {es:List AV} (h:cC H b=some (.row e 0 d (mapA es))) (k:K e d es):sA H b K:=⟨⟨e,d,es,h,k⟩⟩
def GW (H:Hp) (v:AV) (K:Nat->TypeId->AV->List AV->Prop):Prop:=
 match v with
 | .mp b=>sA H b (K b)
 |_=>False
theorem lz {H:Hp} {v:AV} {K:Nat->TypeId->AV->List AV->Prop} (h:GW H v K):∃b e d es,mapOf H v=some (b,e,d,es)/\K b e d es:=by
 cases v<;>simp only[GW] at h
 obtain⟨e,d,es,h1,h2⟩:=h.ok
 exact⟨_,e,d,es,by simp only[mapOf,h1,mapA],h2⟩
structure vA (g:Option Bool) (k:IntKind) (n:Int) (K:Int->Prop):Prop where
 ok:∃m,(Gd g->k.wrap n=m)/\K m
theorem vA.of {g:Option Bool} {k:IntKind} {n:Int} {K:Int->Prop} {m:Int} (h:Gd g->k.wrap n=m) (hK:K m):vA g k n K:=⟨⟨m,h,hK⟩⟩
section
variable (g:Option Bool) (H:Hp)
def Z8 (ag:Bool) (k:Nat) (e:AV) (sz off:Nat) (K:AV->Prop):Prop:=
 match ag with
 |true=>match e with
  | .agg cs=>bif Nat.beq off 0&&Nat.beq k sz then K (.agg cs) else eF g (off+k<=cs.length)/\K (.agg ((cs.drop off).take k))
  |_=>False
 |false=>match e with
  | .agg cs=>qx cs off .any fun v=>gU v K
  | .any=>K .any
  |e=>bif one e then gU e K else False
def lookW (v:AV) (K:Nat->AV->Nat->Prop):Prop:=
 match v with
 | .ip sz d es i off=>qx es i d fun e=>K sz e off
 | .pt b len i off=>gn H b fun _ sz d es=>eF g (es.length=len)/\qx es i d fun e=>K sz e off
 |_=>False
def tf (k:Nat) (v:AV) (K:List AV->Prop):Prop:=
 match v with
 | .im sz _ es=>bif Nat.beq sz k then K es else False
 | .sl b len=>gn H b fun _ sz _ es=>eF g (es.length=len/\sz=k)/\K es
 | .sc (.slice none 0 0)=>K []
 | .zc=>K []
 | .sv b len lo n=>gn H b fun _ sz _ es=>eF g (es.length=len/\sz=k)/\K ((es.drop lo).take n)
 |_=>False
noncomputable def ql (R:Raw) (id:Nat) (op:db) (K:AV->Option (Nat×fD)->Prop):Prop:=
 match op with
 | .mv x=>dR g R x fun a=>gU a fun a=>K a none
 | .pick c a b=>dR g R c fun v=>match v with
  | .sc (.bool t)=>
   let rest:=fun(_:Unit)=>gU (qc t (R a).2 (R b).2) fun v=>K v none
   let r2:=fun(_:Unit)=>match(R b).1 with
    |none=>rest ()
    |some q=>eF g (t=false->q=true)/\rest ()
   match(R a).1 with
   |none=>r2 ()
   |some q=>eF g (t=true->q=true)/\r2 ()
  |_=>False
 | .alloc e sz ag z=>eF g (z.length=sz)/\K (.pt id 1 0 0) (some (id, .row e sz (hP ag z) [hP ag z]))
 | .box e sz ag x=>dR g R x fun v=>eF g (fits ag sz v=true)/\K (.pt id 1 0 0) (some (id, .row e sz .any [v]))
 | .UT z parts=>lD g R (parts.map (·.2.2)) fun as=>kE (gG (z.map .sc) (List.zipWith (fun p a=>(p.1,p.2.1,a)) parts as)) fun cs=>K (.agg cs) none
 | .RY e sz ag z n parts=>lD g R (parts.map (·.2)) fun as=>
  eF g (z.length=sz/\(List.zipWith (fun p a=>(p.1,a)) parts as).all (fun p=>decide (p.1<n)&&fits ag sz p.2)=true)/\
  K (.sl id n) (some (id, .row e sz (hP ag z) ((List.zipWith (fun p a=>(p.1,a)) parts as).foldl (fun l p=>l.set p.1 p.2) (List.replicate n (hP ag z)))))
 | .ld ag k x=>dR g R x fun v=>lookW g H v fun sz e off=>Z8 g ag k e sz off fun r=>K r none
 | .st ag k x y=>dR g R x fun v=>dR g R y fun yv=>match v with
  | .pt b len i off=>gn H b fun e sz d es=>eF g (es.length=len)/\qx es i d fun gx=>kE (UF ag k gx yv sz off) fun e'=>K .any (some (b, .row e sz d (es.set i e')))
  |_=>False
 | .T2 x=>dR g R x fun v=>match v with
  | .pt b len i off=>K (.pt b len i off) none
  | .ip sz d es i off=>K (.ip sz d es i off) none
  | .fn (.func f) p q=>K (.fn (.func f) p q) none
  | .nC t v=>K (.nC t v) none
  |_=>False
 | .bin op x y=>dR g R x fun a=>dR g R y fun b=>match op,a,b with
  | .add, .sc (.int k a), .sc (.int k' b)=>eF g (k=k')/\vA g k (a+b) fun m=>K (.sc (.int k m)) none
  | .sub, .sc (.int k a), .sc (.int k' b)=>eF g (k=k')/\vA g k (a - b) fun m=>K (.sc (.int k m)) none
  | .mul, .sc (.int k a), .sc (.int k' b)=>eF g (k=k')/\vA g k (a * b) fun m=>K (.sc (.int k m)) none
  | .eql, .sc (.int k a), .sc (.int k' b)=>eF g (k=k')/\K (.sc (.bool (decide (a=b)))) none
  | .neq, .sc (.int k a), .sc (.int k' b)=>eF g (k=k')/\K (.sc (.bool (decide (a≠b)))) none
  | .lss, .sc (.int k a), .sc (.int k' b)=>eF g (k=k')/\K (.sc (.bool (decide (a<b)))) none
  | .leq, .sc (.int k a), .sc (.int k' b)=>eF g (k=k')/\K (.sc (.bool (decide (a<=b)))) none
  | .gtr, .sc (.int k a), .sc (.int k' b)=>eF g (k=k')/\K (.sc (.bool (decide (b<a)))) none
  | .geq, .sc (.int k a), .sc (.int k' b)=>eF g (k=k')/\K (.sc (.bool (decide (b<=a)))) none
  | .quo, .sc (.int k a), .sc (.int k' b)=>eF g (k=k'/\b≠0)/\K (.sc (.int k (k.wrap (a.tdiv b)))) none
  | .rem, .sc (.int k a), .sc (.int k' b)=>eF g (k=k'/\b≠0)/\K (.sc (.int k (a.tmod b))) none
  | .and, .sc (.int k a), .sc (.int k' b)=>eF g (k=k')/\K (.sc (.int k (k.wrap (BitVec.ofInt k.bits a&&& BitVec.ofInt k.bits b).toNat))) none
  | .or, .sc (.int k a), .sc (.int k' b)=>eF g (k=k')/\K (.sc (.int k (k.wrap (BitVec.ofInt k.bits a|||BitVec.ofInt k.bits b).toNat))) none
  | .xor, .sc (.int k a), .sc (.int k' b)=>eF g (k=k')/\K (.sc (.int k (k.wrap (BitVec.ofInt k.bits a^^^BitVec.ofInt k.bits b).toNat))) none
  | .andNot, .sc (.int k a), .sc (.int k' b)=>eF g (k=k')/\K (.sc (.int k (k.wrap (BitVec.ofInt k.bits a&&& ~~~(BitVec.ofInt k.bits b)).toNat))) none
  | .shl, .sc (.int k a), .sc (.int _ b)=>eF g (0<=b)/\K (.sc (.int k (k.wrap (a * 2^(min b.toNat k.bits))))) none
  | .shr, .sc (.int k a), .sc (.int _ b)=>eF g (0<=b)/\K (.sc (.int k (a.fdiv (2^(min b.toNat k.bits))))) none
  |_,_,_=>False
 | .UX neg x y=>dR g R x fun a=>dR g R y fun b=>match a,b with
  | .sc (.bool p), .sc (.bool q)=>(match neg with
   |true=>K (.sc (.bool (p != q))) none
   |false=>K (.sc (.bool (p==q))) none)
  |_,_=>False
 | .vz neg x y=>dR g R x fun a=>dR g R y fun b=>match a,b with
  | .sc (.string p), .sc (.string q)=>(match neg with
   |true=>K (.sc (.bool (p != q))) none
   |false=>K (.sc (.bool (p==q))) none)
  |_,_=>False
 | .G6 op x y=>dR g R x fun a=>dR g R y fun b=>match a,b with
  | .sc (.string p), .sc (.string q)=>(match op with
   | .add=>eF g (p.size+q.size<=9223372036854775807)/\K (.sc (.string (p++q))) none
   | .lss=>K (.sc (.bool (Op.bytesLess p.toList q.toList))) none
   |_=>False)
  |_,_=>False
 | .PN sz ag z x=>dR g R x fun v=>match v with
  | .sv b len lo n=>gn H b fun e s d es=>eF g (es.length=len/\s=sz/\lo+n<=len)/\K (.dQ []) (some (b, .row e s d (es.take lo++List.replicate n (hP ag z)++es.drop (lo+n))))
  |_=>False
 | .SZ x=>dR g R x fun v=>tf g H 1 v fun xs=>kF g (mF xs) fun ns=>K (.sc (.string (RE ns))) none
 | .un op x=>dR g R x fun a=>match op,a with
  | .not, .sc (.bool b)=>K (.sc (.bool !b)) none
  | .neg, .sc (.int k n)=>vA g k (0 - n) fun m=>K (.sc (.int k m)) none
  |_,_=>False
 | .VS k x=>dR g R x fun a=>match a with
  | .sc (.int _ n)=>vA g k n fun m=>K (.sc (.int k m)) none
  |_=>False
 | .fa off x=>dR g R x fun a=>match a with
  | .ip sz d es i o=>eF g (o+off<sz)/\K (.ip sz d es i (o+off)) none
  | .pt b len i o=>gn H b fun _ sz _ es=>eF g (es.length=len/\o+off<sz)/\K (.pt b len i (o+off)) none
  |_=>False
 | .ia k n x i=>dR g R x fun v=>dR g R i fun iv=>match iv with
  | .sc (.int _ j)=>
   (match n with
    |none=>match v with
     | .im sz d es=>eF g (k=sz)/\eF g (0<=j/\j<es.length)/\K (.ip sz d es j.toNat 0) none
     | .sl b len=>gn H b fun _ sz _ es=>eF g (es.length=len/\k=sz)/\eF g (0<=j/\j<len)/\K (.pt b len j.toNat 0) none
     | .sv b len lo m=>gn H b fun _ sz _ es=>eF g (es.length=len/\k=sz)/\eF g (0<=j/\j<m)/\K (.pt b len (lo+j.toNat) 0) none
     |_=>False
    |some m=>match v with
     | .ip sz d es i off=>eF g (off+m * k<=sz)/\eF g (0<=j/\j<m)/\K (.ip sz d es i (off+j.toNat * k)) none
     | .pt b len i off=>gn H b fun _ sz _ es=>eF g (es.length=len/\off+m * k<=sz)/\eF g (0<=j/\j<m)/\K (.pt b len i (off+j.toNat * k)) none
     |_=>False)
  |_=>False
 | .VZ off k ag x=>dR g R x fun v=>match v with
  | .agg cs=>(match ag with
   |true=>eF g (off+k<=cs.length)/\K (.agg ((cs.drop off).take k)) none
   |false=>eF g (off+k<=cs.length/\k=1)/\qx cs off .any fun v=>gU v fun v=>K v none)
  |_=>False
 | .ix k ag n x i=>dR g R x fun v=>dR g R i fun iv=>match v,iv with
  | .agg cs, .sc (.int _ j)=>eF g (n * k=cs.length)/\eF g (0<=j/\j<n)/\(match ag with
   |true=>K (.agg ((cs.drop (j.toNat * k)).take k)) none
   |false=>eF g (k=1)/\qx cs (j.toNat * k) .any fun v=>gU v fun v=>K v none)
  |_,_=>False
 | .V6 x i=>dR g R x fun v=>dR g R i fun iv=>match v,iv with
  | .sc (.string s), .sc (.int _ j)=>eF g (0<=j/\j<s.size)/\K (.sc (.int .u8 (s.data.toList.getD j.toNat 0).toNat)) none
  |_,_=>False
 | .lens x=>dR g R x fun v=>match v with
  | .sc (.string s)=>K (.sc (.int .i64 s.size)) none
  |_=>False
 | .TZ e sz bytes ag z l c=>dR g R l fun lv=>dR g R c fun cv=>match lv,cv with
  | .sc (.int _ n), .sc (.int _ m)=>eF g (z.length=sz/\n=m)/\eF g (0<=n/\n * bytes<=281474976710656/\n<=9223372036854775807)/\
   K (.sl id n.toNat) (some (id, .row e sz (hP ag z) (List.replicate n.toNat (hP ag z))))
  |_,_=>False
 | .ext i x=>dR g R x fun v=>match v with
  | .dQ vs=>eF g (i<vs.length)/\qx vs i .any fun v=>gU v fun v=>K v none
  |_=>False
 | .U6 f first caps=>lD g R first fun a=>lD g R caps fun b=>K (.fn f a b) none
 | .YX t x=>dR g R x fun v=>K (.nC t v) none
 | .len x=>dR g R x fun v=>match v with
  | .im _ _ es=>K (.sc (.int .i64 (es.length:Int))) none
  | .sl b len=>gn H b fun _ _ _ es=>eF g (es.length=len)/\K (.sc (.int .i64 (len:Int))) none
  | .sc (.slice none 0 0)=>K (.sc (.int .i64 0)) none
  | .zc=>K (.sc (.int .i64 0)) none
  | .sv _ _ _ n=>K (.sc (.int .i64 (n:Int))) none
  |_=>False
 | .app e sz bytes ag z s x=>dR g R s fun sv=>dR g R x fun xv=>tf g H sz xv fun xs=>eF g (z.length=sz)/\match sv with
  | .sc (.slice none 0 0)=>eF g (xs.length * bytes<=gX)/\K (.sl id xs.length) (some (id, .row e sz (hP ag z) xs))
  | .sl b len=>gn H b fun e' sz' d es=>eF g (es.length=len/\e'=e/\sz'=sz)/\eF g ((len+xs.length) * bytes<=gX)/\K (.sl b (len+xs.length)) (some (b, .row e sz d (es++xs)))
  |_=>False
 | .K5 e bytes z s x=>dR g R s fun sv=>dR g R x fun xv=>match xv with
  | .sc (.string q)=>(match sv with
   | .sc (.slice none 0 0)=>eF g ((cY q).length * bytes<=gX)/\K (.sl id (cY q).length) (some (id, .row e 1 z (cY q)))
   | .sl b len=>gn H b fun e' sz' d es=>eF g (es.length=len/\e'=e/\sz'=1)/\eF g ((len+(cY q).length) * bytes<=gX)/\K (.sl b (len+(cY q).length)) (some (b, .row e 1 d (es++cY q)))
   |_=>False)
  |_=>False
 | .JE neg x=>dR g R x fun v=>match v with
  | .pt _ _ _ _=>K (.sc (.bool neg)) none
  | .ip _ _ _ _ _=>K (.sc (.bool neg)) none
  | .sc (.pointer none)=>K (.sc (.bool !neg)) none
  |_=>False
 | .AM neg x=>dR g R x fun v=>kE (uV H v) fun t=>gU (sV neg t) fun v=>K v none
 | .eqs neg ks x y=>dR g R x fun a=>dR g R y fun b=>match a,b with
  | .agg as, .agg bs=>kE (LZ ks as bs) fun t=>(match neg with
   |true=>K (.sc (.bool !t)) none
   |false=>K (.sc (.bool t)) none)
  |_,_=>False
 | .RW e n=>K (.pt id n 0 0) (some (id, .row e 1 (.sc (.int .u8 0)) (List.replicate n (.sc (.int .u8 0)))))
 | .bad=>False
 | .TN n x i=>dR g R x fun v=>dR g R i fun iv=>match v,iv with
  | .pt b len 0 0, .sc (.int _ j)=>gn H b fun _ sz _ es=>eF g (len=n/\es.length=n/\sz=1)/\eF g (0<=j/\j<n)/\K (.pt b n j.toNat 0) none
  |_,_=>False
 | .UC n x i=>dR g R x fun v=>dR g R i fun iv=>match v,iv with
  | .pt b len 0 0, .sc (.int _ j)=>gn H b fun _ sz _ es=>eF g (len=n/\es.length=n/\sz=1)/\eF g (0<=j/\j<n)/\K (.sv b n j.toNat (n - j.toNat)) none
  |_,_=>False
 | .U8 sz x h m=>dR g R x fun v=>dR g R h fun a=>dR g R m fun b=>kE (JZ sz a b v) fun r=>gU r fun r=>K r none
 | .Q8 sz x lo hi=>dR g R x fun v=>lD g R (lo.toList++hi.toList) fun bs=>
  kE (uh H sz (match lo with|some _=>bs[0]?|none=>none) (match hi with|some _=>(match lo with|some _=>bs[1]?|none=>bs[0]?)|none=>none) v) fun r=>gU r fun r=>K r none
 | .PT sz x y=>dR g R x fun xv=>dR g R y fun yv=>match xv with
  | .sl b len=>tf g H sz yv fun xs=>gn H b fun e s d es=>eF g (es.length=len/\s=sz)/\
   K (.sc (.int .i64 (Nat.min xs.length len:Nat))) (some (b, .row e s d (xs.take (Nat.min xs.length len)++es.drop (Nat.min xs.length len))))
  |_=>False
 | .call _ _=>False
 | .SE kt=>K (.mp id) (some (id, .row kt 0 .any (mapA [])))
 | .QH str ag z ok x k=>dR g R x fun v=>dR g R k fun kv=>match kv with
  | .sc kv=>GW H v fun _ _ _ es=>eF g (k9 str kv=true)/\kF g (nY str kv es (hP ag z)) fun p=>match ok with
   |true=>K (.dQ [p.1, .sc (.bool p.2)]) none
   |false=>gU p.1 fun v=>K v none
  |_=>False
 | .KM str x k y=>dR g R x fun v=>dR g R k fun kv=>dR g R y fun yv=>match kv with
  | .sc kv=>GW H v fun b e d es=>eF g (k9 str kv=true)/\kF g (qW str kv es yv) fun es'=>K .any (some (b, .row e 0 d (mapA es')))
  |_=>False
 | .DH x=>dR g R x fun v=>GW H v fun _ _ _ es=>K (.sc (.int .i64 (es.length:Nat))) none
 | .del str x k=>dR g R x fun v=>dR g R k fun kv=>match kv with
  | .sc kv=>GW H v fun b e d es=>eF g (k9 str kv=true)/\kF g (YU str kv es) fun es'=>K (.dQ []) (some (b, .row e 0 d (mapA es')))
  |_=>False
 | .G5 sz v=>K (.agg (List.replicate sz (.sc v))) none
 | .yf e sz v=>K (.pt id 1 0 0) (some (id, .row e sz (.agg (List.replicate sz (.sc v))) [.agg (List.replicate sz (.sc v))]))
 | .Y9 t ok ag z x=>dR g R x fun v=>match v with
  | .nC t' v=>(bif Nat.beq t' t then(match ok with
   |true=>K (.dQ [v, .sc (.bool true)]) none
   |false=>gU v fun v=>K v none) else(match ok with
   |true=>K (.dQ [hP ag z, .sc (.bool false)]) none
   |false=>False))
  |_=>False
end
theorem FX {f:Fr} {R:Raw}:∀{ps:List (Nat×Nat×eK)},(∀x∈ps.map (·.2.2),ev f x=(R x).2)->R3 f ps=List.zipWith (fun p a=>(p.1,p.2.1,a)) ps ((ps.map (·.2.2)).map fun x=>(R x).2)
 |[],_=>rfl
 |(i,j,x)::ps,h=>by
  simp only[R3,List.map_cons,List.zipWith_cons_cons]
  rw[h x (by simp),FX fun y hy=>h y (by simp only[List.map_cons,List.mem_cons];exact .inr hy)]
theorem FZ {f:Fr} {R:Raw}:∀{ps:List (Nat×eK)},(∀x∈ps.map (·.2),ev f x=(R x).2)->FY f ps=List.zipWith (fun p a=>(p.1,a)) ps ((ps.map (·.2)).map fun x=>(R x).2)
 |[],_=>rfl
 |(i,x)::ps,h=>by
  simp only[FY,List.map_cons,List.zipWith_cons_cons]
  rw[h x (by simp),FZ fun y hy=>h y (by simp only[List.map_cons,List.mem_cons];exact .inr hy)]
theorem IW {g:Option Bool} {ag:Bool} {k:Nat} {e:AV} {sz off:Nat} {K:AV->Prop} (h:Z8 g ag k e sz off K):∃r,K r/\(Gd g->zq ag k e sz off=some r):=by
 unfold Z8 at h
 cases ag with
 |true=>
  simp only at h
  cases e
  case agg cs=>
   simp only at h
   by_cases hb:off=0/\k=sz
   ·have hb':(Nat.beq off 0&&Nat.beq k sz)=true:=by
     obtain⟨rfl,rfl⟩:=hb;simp
    rw[hb'] at h
    exact⟨_,h,fun _=>by simp[zq,hb.1,hb.2]⟩
   ·have hb':(Nat.beq off 0&&Nat.beq k sz)=false:=by
     cases hc:(Nat.beq off 0&&Nat.beq k sz) with
     |false=>rfl
     |true=>
      rw[Bool.and_eq_true] at hc
      exact absurd ⟨Nat.eq_of_beq_eq_true hc.1,Nat.eq_of_beq_eq_true hc.2⟩ hb
    rw[hb'] at h
    simp only[cond_false] at h
    refine⟨_,h.2,fun hg=> ?_⟩
    have h1:=cn.1 h.1 hg
    simp only[zq,if_true]
    rw[if_neg hb,if_pos h1]
  all_goals exact h.elim
 |false=>
  have gen:∀e:AV,(bif one e then gU e K else False)->(zq false k e sz off=if one e then some e else none)->∃r,K r/\(Gd g->zq false k e sz off=some r):=by
   intro e h1 h2
   cases ho:one e with
   |true=>rw[ho,cond_true,fP] at h1;exact⟨_,h1,fun _=>by rw[h2,ho];rfl⟩
   |false=>rw[ho] at h1;exact h1.elim
  cases e
  case agg cs=>
   simp only at h
   have:=h.ok
   rw[fP] at this
   exact⟨_,this,fun _=>by simp[zq]⟩
  case any=>exact⟨_,h,fun _=>by simp[zq]⟩
  all_goals exact gen _ h rfl
theorem zy {g:Option Bool} {H:Hp} {v:AV} {K:Nat->AV->Nat->Prop} (h:lookW g H v K):∃sz e off,K sz e off/\(Gd g->kd H v=some (sz,e,off)):=by
 unfold lookW at h
 split at h
 ·exact⟨_,_,_,h.ok,fun _=>rfl⟩
 ·obtain⟨e,sz,d,es,h1,h2,h3⟩:=h.ok
  refine⟨_,_,_,h3.ok,fun hg=> ?_⟩
  simp only[kd,h1]
  rw[if_pos (cn.1 h2 hg)]
 ·exact h.elim
theorem mL {g:Option Bool} {H:Hp} {k:Nat} {v:AV} {K:List AV->Prop} (h:tf g H k v K):∃es,K es/\(Gd g->iQ H v=some es/\BE H k v=true):=by
 unfold tf at h
 split at h
 ·rename_i sz d es
  cases hb:Nat.beq sz k with
  |true=>rw[hb] at h;exact⟨_,h,fun _=>⟨rfl,by simpa[BE] using hb⟩⟩
  |false=>rw[hb] at h;exact h.elim
 ·obtain⟨e,sz,d,es,h1,h2,h3⟩:=h.ok
  refine⟨_,h3,fun hg=> ?_⟩
  obtain⟨g1,g2⟩:=cn.1 h2 hg
  simp[iQ,BE,h1,g1,g2]
 ·exact⟨_,h,fun _=>⟨rfl,rfl⟩⟩
 ·exact⟨_,h,fun _=>⟨rfl,rfl⟩⟩
 ·obtain⟨e,sz,d,es,h1,h2,h3⟩:=h.ok
  refine⟨_,h3,fun hg=> ?_⟩
  obtain⟨g1,g2⟩:=cn.1 h2 hg
  simp[iQ,BE,h1,g1,g2]
 ·exact h.elim
set_option maxHeartbeats 4000000 in
theorem kq {g:Option Bool} {H:Hp} {R:Raw} {id:Nat} {op:db} {K:AV->Option (Nat×fD)->Prop} (h:ql g H R id op K):
 ∃r u,K r u/\(Gd g->(op.rd=true->∀x∈op.eQ,JI R x)/\∀f,(∀x,JI R x->ev f x=(R x).2)->cO id f H op=some (r,u)):=by
 cases op
 case mv x=>
  obtain⟨h1,h2⟩:=cU h
  rw[fP] at h2
  exact⟨_,_,h2,fun hg=>⟨fun hr=>by simp[db.rd] at hr,fun f hf=>by simp only[cO,hf x (h1 hg)]⟩⟩
 case pick c a b=>
  obtain⟨h1,h2⟩:=cU h
  split at h2
  ·rename_i t ht
   simp only[fP] at h2
   have key:∀{q:Option Bool} {p:Prop} {A:Prop},(match q with|none=>A|some q=>eF g (p->q=true)/\A)->A/\(Gd g->p->∀q',q=some q'->q'=true):=by
    intro q p A h
    cases q with
    |none=>exact⟨h,fun _ _ _ hq=>by cases hq⟩
    |some q=>exact⟨h.2,fun hg hp q' hq=>by cases hq;exact cn.1 h.1 hg hp⟩
   obtain⟨h3,ha⟩:=key h2
   obtain⟨h4,hb⟩:=key h3
   refine⟨_,_,h4,fun hg=>⟨fun hr=>by simp[db.rd] at hr,fun f hf=> ?_⟩⟩
   simp only[cO,hf c (h1 hg),ht]
   congr 2
   cases t with
   |true=>rw[u5,u5,hf a (ha hg rfl)]
   |false=>rw[sP,sP,hf b (hb hg rfl)]
  ·exact h2.elim
 case alloc e sz ag z=>
  refine⟨_,_,h.2,fun hg=>⟨fun hr=>by simp[db.rd] at hr,fun f hf=> ?_⟩⟩
  simp only[cO];rw[if_pos (cn.1 h.1 hg)]
 case box e sz ag x=>
  obtain⟨h1,h2⟩:=cU h
  refine⟨_,_,h2.2,fun hg=>⟨fun hr=>by simp[db.rd] at hr,fun f hf=> ?_⟩⟩
  simp only[cO,hf x (h1 hg)];rw[if_pos (cn.1 h2.1 hg)]
 case UT z ps=>
  obtain⟨h1,h2⟩:=fZ h
  obtain⟨cs,h3,h4⟩:=h2.ok
  refine⟨_,_,h4,fun hg=>⟨fun hr=>by simp[db.rd] at hr,fun f hf=> ?_⟩⟩
  simp only[cO]
  rw[FX (R:=R) fun x hx=>hf x (h1 hg x hx),h3]
 case RY e sz ag z n ps=>
  obtain⟨h1,h2⟩:=fZ h
  refine⟨_,_,h2.2,fun hg=>⟨fun hr=>by simp[db.rd] at hr,fun f hf=> ?_⟩⟩
  have h3:=cn.1 h2.1 hg
  simp only[cO]
  rw[FZ (R:=R) fun x hx=>hf x (h1 hg x hx),if_pos h3]
 case ld ag k x=>
  obtain⟨h1,h2⟩:=cU h
  obtain⟨sz,e,off,h3,h4⟩:=zy h2
  obtain⟨r,h5,h6⟩:=IW h3
  refine⟨_,_,h5,fun hg=>⟨fun _ y hy=>by simp[db.eQ] at hy;subst hy;exact h1 hg,fun f hf=> ?_⟩⟩
  simp only[cO,hf x (h1 hg),h4 hg,h6 hg,Option.map_some]
 case st ag k x y=>
  obtain⟨h1,h2⟩:=cU h
  obtain⟨h3,h4⟩:=cU h2
  split at h4
  ·rename_i b len i off hx
   obtain⟨e,sz,d,es,g1,g2,g3⟩:=h4.ok
   obtain⟨e',g4,g5⟩:=g3.ok.ok
   refine⟨_,_,g5,fun hg=>⟨fun _ z hz=>by simp[db.eQ] at hz;rcases hz with rfl|rfl;exact h1 hg;exact h3 hg,fun f hf=> ?_⟩⟩
   simp only[cO,hf x (h1 hg),hf y (h3 hg),hx,g1,g4]
   rw[if_pos (cn.1 g2 hg)]
  ·exact h4.elim
 case T2 x=>
  obtain⟨h1,h2⟩:=cU h
  split at h2
  all_goals first
   |exact h2.elim
   |(rename_i hx;exact⟨_,_,h2,fun hg=>⟨fun hr=>by simp[db.rd] at hr,fun f hf=>by simp only[cO,hf x (h1 hg),hx]⟩⟩)
 case bin op x y=>
  obtain⟨h1,h2⟩:=cU h
  obtain⟨h3,h4⟩:=cU h2
  split at h4
  all_goals first
   |exact h4.elim
   |(rename_i hx hy;obtain⟨q1,q2⟩:=h4;obtain⟨m,q3,q4⟩:=q2.ok;refine⟨_,_,q4,fun hg=>⟨fun hr=>by simp[db.rd] at hr,fun f hf=> ?_⟩⟩;simp only[cO,hf x (h1 hg),hf y (h3 hg),hx,hy,G3];rw[if_pos (cn.1 q1 hg),q3 hg];rfl)
   |(rename_i hx hy;refine⟨_,_,h4.2,fun hg=>⟨fun hr=>by simp[db.rd] at hr,fun f hf=> ?_⟩⟩;simp only[cO,hf x (h1 hg),hf y (h3 hg),hx,hy,G3];rw[if_pos (cn.1 h4.1 hg)];rfl)
 case UX neg x y=>
  obtain⟨h1,h2⟩:=cU h
  obtain⟨h3,h4⟩:=cU h2
  split at h4
  ·rename_i p q hx hy
   cases neg
   all_goals exact⟨_,_,h4,fun hg=>⟨fun hr=>by simp[db.rd] at hr,fun f hf=>by simp[cO,hf x (h1 hg),hf y (h3 hg),hx,hy]⟩⟩
  ·exact h4.elim
 case vz neg x y=>
  obtain⟨h1,h2⟩:=cU h
  obtain⟨h3,h4⟩:=cU h2
  split at h4
  ·rename_i p q hx hy
   cases neg
   all_goals exact⟨_,_,h4,fun hg=>⟨fun hr=>by simp[db.rd] at hr,fun f hf=>by simp[cO,hf x (h1 hg),hf y (h3 hg),hx,hy]⟩⟩
  ·exact h4.elim
 case G6 op x y=>
  obtain⟨h1,h2⟩:=cU h
  obtain⟨h3,h4⟩:=cU h2
  split at h4
  ·rename_i p q hx hy
   cases op
   case add=>exact⟨_,_,h4.2,fun hg=>⟨fun hr=>by simp[db.rd] at hr,fun f hf=>by simp only[cO,hf x (h1 hg),hf y (h3 hg),hx,hy,OQ];rw[if_pos (cn.1 h4.1 hg)];rfl⟩⟩
   case lss=>exact⟨_,_,h4,fun hg=>⟨fun hr=>by simp[db.rd] at hr,fun f hf=>by simp only[cO,hf x (h1 hg),hf y (h3 hg),hx,hy,OQ];rfl⟩⟩
   all_goals exact h4.elim
  ·exact h4.elim
 case PN sz ag z x=>
  obtain⟨h1,h2⟩:=cU h
  split at h2
  ·rename_i b len lo n hx
   obtain⟨e,s,d,es,q1,q2,q3⟩:=h2.ok
   exact⟨_,_,q3,fun hg=>⟨fun hr y hy=>by simp[db.eQ] at hy;subst hy;exact h1 hg,fun f hf=>by
    simp only[cO,hf x (h1 hg),hx,q1];rw[if_pos (cn.1 q2 hg)]⟩⟩
  ·exact h2.elim
 case SZ x=>
  obtain⟨h1,h2⟩:=cU h
  obtain⟨xs,h3,h4⟩:=mL h2
  obtain⟨ns,h5,h6⟩:=h3.ok
  exact⟨_,_,h6,fun hg=>⟨fun hr y hy=>by simp[db.eQ] at hy;subst hy;exact h1 hg,fun f hf=>by
   obtain⟨q1,q2⟩:=h4 hg
   simp only[cO,hf x (h1 hg),q1,q2,if_true,h5 hg,Option.map_some]⟩⟩
 case un op x=>
  obtain⟨h1,h2⟩:=cU h
  split at h2
  all_goals first
   |exact h2.elim
   |(rename_i hx;obtain⟨m,q3,q4⟩:=h2.ok;exact⟨_,_,q4,fun hg=>⟨fun hr=>by simp[db.rd] at hr,fun f hf=>by simp only[cO,hf x (h1 hg),hx,ZB,Option.map_some,q3 hg]⟩⟩)
   |(rename_i hx;exact⟨_,_,h2,fun hg=>⟨fun hr=>by simp[db.rd] at hr,fun f hf=>by simp only[cO,hf x (h1 hg),hx,ZB,Option.map_some]⟩⟩)
 case VS k x=>
  obtain⟨h1,h2⟩:=cU h
  split at h2
  all_goals first
   |exact h2.elim
   |(rename_i hx;obtain⟨m,q3,q4⟩:=h2.ok;exact⟨_,_,q4,fun hg=>⟨fun hr=>by simp[db.rd] at hr,fun f hf=>by simp only[cO,hf x (h1 hg),hx,q3 hg]⟩⟩)
 case fa off x=>
  obtain⟨h1,h2⟩:=cU h
  have hr:Gd g->((db.fa off x).rd=true->∀y∈(db.fa off x).eQ,JI R y):=fun hg _ y hy=>by simp[db.eQ] at hy;subst hy;exact h1 hg
  split at h2
  ·rename_i hx
   refine⟨_,_,h2.2,fun hg=>⟨hr hg,fun f hf=> ?_⟩⟩
   simp only[cO,hf x (h1 hg),hx];rw[if_pos (cn.1 h2.1 hg)]
  ·rename_i hx
   obtain⟨e,sz,d,es,g1,g2,g3⟩:=h2.ok
   refine⟨_,_,g3,fun hg=>⟨hr hg,fun f hf=> ?_⟩⟩
   simp only[cO,hf x (h1 hg),hx,g1];rw[if_pos (cn.1 g2 hg)]
  ·exact h2.elim
 case ia k n x i=>
  obtain⟨h1,h2⟩:=cU h
  obtain⟨h3,h4⟩:=cU h2
  have hr:Gd g->((db.ia k n x i).rd=true->∀y∈(db.ia k n x i).eQ,JI R y):=fun hg _ y hy=>by simp[db.eQ] at hy;rcases hy with rfl|rfl;exact h1 hg;exact h3 hg
  split at h4
  ·rename_i kk j hi
   cases n with
   |none=>
    simp only at h4
    split at h4
    ·rename_i hx
     refine⟨_,_,h4.2.2,fun hg=>⟨hr hg,fun f hf=> ?_⟩⟩
     simp only[cO,hf x (h1 hg),hf i (h3 hg),hx,hi,KL]
     rw[if_pos ⟨cn.1 h4.1 hg,cn.1 h4.2.1 hg⟩];rfl
    ·rename_i hx
     obtain⟨e,sz,d,es,g1,g2,g3,g4⟩:=h4.ok
     refine⟨_,_,g4,fun hg=>⟨hr hg,fun f hf=> ?_⟩⟩
     obtain⟨q1,q2⟩:=cn.1 g2 hg
     simp only[cO,hf x (h1 hg),hf i (h3 hg),hx,hi,KL,g1]
     rw[if_pos ⟨q1,q2,cn.1 g3 hg⟩];rfl
    ·rename_i hx
     obtain⟨e,sz,d,es,g1,g2,g3,g4⟩:=h4.ok
     refine⟨_,_,g4,fun hg=>⟨hr hg,fun f hf=> ?_⟩⟩
     obtain⟨q1,q2⟩:=cn.1 g2 hg
     simp only[cO,hf x (h1 hg),hf i (h3 hg),hx,hi,KL,g1]
     rw[if_pos ⟨q1,q2,cn.1 g3 hg⟩];rfl
    ·exact h4.elim
   |some m=>
    simp only at h4
    split at h4
    ·rename_i hx
     refine⟨_,_,h4.2.2,fun hg=>⟨hr hg,fun f hf=> ?_⟩⟩
     simp only[cO,hf x (h1 hg),hf i (h3 hg),hx,hi,KL]
     rw[if_pos ⟨cn.1 h4.1 hg,cn.1 h4.2.1 hg⟩];rfl
    ·rename_i hx
     obtain⟨e,sz,d,es,g1,g2,g3,g4⟩:=h4.ok
     refine⟨_,_,g4,fun hg=>⟨hr hg,fun f hf=> ?_⟩⟩
     obtain⟨q1,q2⟩:=cn.1 g2 hg
     simp only[cO,hf x (h1 hg),hf i (h3 hg),hx,hi,KL,g1]
     rw[if_pos ⟨q1,q2,cn.1 g3 hg⟩];rfl
    ·exact h4.elim
  ·exact h4.elim
 case VZ off k ag x=>
  obtain⟨h1,h2⟩:=cU h
  split at h2
  ·rename_i cs hx
   cases ag with
   |true=>
    refine⟨_,_,h2.2,fun hg=>⟨fun hr=>by simp[db.rd] at hr,fun f hf=> ?_⟩⟩
    simp only[cO,hf x (h1 hg),hx,if_true];rw[if_pos (cn.1 h2.1 hg)]
   |false=>
    have h3:=h2.2.ok
    rw[fP] at h3
    refine⟨_,_,h3,fun hg=>⟨fun hr=>by simp[db.rd] at hr,fun f hf=> ?_⟩⟩
    obtain⟨q1,q2⟩:=cn.1 h2.1 hg
    simp only[cO,hf x (h1 hg),hx,Bool.false_eq_true,if_false];rw[if_pos q1,if_pos q2]
  ·exact h2.elim
 case ix k ag n x i=>
  obtain⟨h1,h2⟩:=cU h
  obtain⟨h3,h4⟩:=cU h2
  split at h4
  ·rename_i cs kk j hx hi
   obtain⟨p1,p2,p3⟩:=h4
   cases ag with
   |true=>
    refine⟨_,_,p3,fun hg=>⟨fun hr=>by simp[db.rd] at hr,fun f hf=> ?_⟩⟩
    have q2:=cn.1 p2 hg
    simp only[cO,hf x (h1 hg),hf i (h3 hg),hx,hi,if_true];rw[if_pos ⟨q2.1,q2.2,cn.1 p1 hg⟩]
   |false=>
    have h5:=p3.2.ok
    rw[fP] at h5
    refine⟨_,_,h5,fun hg=>⟨fun hr=>by simp[db.rd] at hr,fun f hf=> ?_⟩⟩
    have q2:=cn.1 p2 hg
    simp only[cO,hf x (h1 hg),hf i (h3 hg),hx,hi,Bool.false_eq_true,if_false];rw[if_pos ⟨q2.1,q2.2,cn.1 p1 hg⟩,if_pos (cn.1 p3.1 hg)]
  ·exact h4.elim
 case V6 x i=>
  obtain⟨h1,h2⟩:=cU h
  obtain⟨h3,h4⟩:=cU h2
  split at h4
  ·rename_i hx hi
   refine⟨_,_,h4.2,fun hg=>⟨fun hr=>by simp[db.rd] at hr,fun f hf=> ?_⟩⟩
   simp only[cO,hf x (h1 hg),hf i (h3 hg),hx,hi];rw[if_pos (cn.1 h4.1 hg)]
  ·exact h4.elim
 case lens x=>
  obtain⟨h1,h2⟩:=cU h
  split at h2
  all_goals first
   |exact h2.elim
   |(rename_i hx;exact⟨_,_,h2,fun hg=>⟨fun hr=>by simp[db.rd] at hr,fun f hf=>by simp only[cO,hf x (h1 hg),hx]⟩⟩)
 case TZ e sz bytes ag z l c=>
  obtain⟨h1,h2⟩:=cU h
  obtain⟨h3,h4⟩:=cU h2
  split at h4
  ·rename_i hx hi
   refine⟨_,_,h4.2.2,fun hg=>⟨fun hr=>by simp[db.rd] at hr,fun f hf=> ?_⟩⟩
   obtain⟨q1,q2⟩:=cn.1 h4.1 hg
   obtain⟨q3,q4,q5⟩:=cn.1 h4.2.1 hg
   simp only[cO,hf l (h1 hg),hf c (h3 hg),hx,hi];rw[if_pos ⟨q1,q3,q2,q4,q5⟩]
  ·exact h4.elim
 case ext i x=>
  obtain⟨h1,h2⟩:=cU h
  split at h2
  ·rename_i hx
   have h3:=h2.2.ok
   rw[fP] at h3
   refine⟨_,_,h3,fun hg=>⟨fun hr=>by simp[db.rd] at hr,fun f hf=> ?_⟩⟩
   simp only[cO,hf x (h1 hg),hx];rw[if_pos (cn.1 h2.1 hg)]
  ·exact h2.elim
 case U6 fn first caps=>
  obtain⟨h1,h2⟩:=fZ h
  obtain⟨h3,h4⟩:=fZ h2
  refine⟨_,_,h4,fun hg=>⟨fun hr=>by simp[db.rd] at hr,fun f hf=> ?_⟩⟩
  simp only[cO]
  rw[mN (R:=R) fun x hx=>hf x (h1 hg x hx),mN (R:=R) fun x hx=>hf x (h3 hg x hx)]
 case YX t x=>
  obtain⟨h1,h2⟩:=cU h
  exact⟨_,_,h2,fun hg=>⟨fun hr=>by simp[db.rd] at hr,fun f hf=>by simp only[cO,hf x (h1 hg)]⟩⟩
 case len x=>
  obtain⟨h1,h2⟩:=cU h
  have hr:Gd g->((db.len x).rd=true->∀y∈(db.len x).eQ,JI R y):=fun hg _ y hy=>by simp[db.eQ] at hy;subst hy;exact h1 hg
  split at h2
  ·rename_i hx;exact⟨_,_,h2,fun hg=>⟨hr hg,fun f hf=>by simp only[cO,hf x (h1 hg),hx,uO]⟩⟩
  ·rename_i hx
   obtain⟨e,sz,d,es,g1,g2,g3⟩:=h2.ok
   refine⟨_,_,g3,fun hg=>⟨hr hg,fun f hf=> ?_⟩⟩
   simp only[cO,hf x (h1 hg),hx,uO,g1];rw[if_pos (cn.1 g2 hg)]
  ·rename_i hx;exact⟨_,_,h2,fun hg=>⟨hr hg,fun f hf=>by simp[cO,hf x (h1 hg),hx,uO]⟩⟩
  ·rename_i hx;exact⟨_,_,h2,fun hg=>⟨hr hg,fun f hf=>by simp[cO,hf x (h1 hg),hx,uO]⟩⟩
  ·rename_i hx;exact⟨_,_,h2,fun hg=>⟨hr hg,fun f hf=>by simp only[cO,hf x (h1 hg),hx,uO]⟩⟩
  ·exact h2.elim
 case app e sz bytes ag z s x=>
  obtain⟨h1,h2⟩:=cU h
  obtain⟨h3,h4⟩:=cU h2
  obtain⟨xs,⟨h5,h5'⟩,h6⟩:=mL h4
  have hr:Gd g->((db.app e sz bytes ag z s x).rd=true->∀y∈(db.app e sz bytes ag z s x).eQ,JI R y):=fun hg _ y hy=>by simp[db.eQ] at hy;rcases hy with rfl|rfl;exact h1 hg;exact h3 hg
  split at h5'
  ·rename_i hx
   refine⟨_,_,h5'.2,fun hg=>⟨hr hg,fun f hf=> ?_⟩⟩
   obtain⟨q1,q2⟩:=h6 hg
   simp only[cO,hf s (h1 hg),hf x (h3 hg),hx,q1];rw[if_pos ⟨q2,cn.1 h5 hg⟩,if_pos (cn.1 h5'.1 hg)]
  ·rename_i hx
   obtain⟨e',sz',d,es,g1,g2,g3,g4⟩:=h5'.ok
   refine⟨_,_,g4,fun hg=>⟨hr hg,fun f hf=> ?_⟩⟩
   obtain⟨q1,q2⟩:=h6 hg
   obtain⟨q3,q4,q5⟩:=cn.1 g2 hg
   simp only[cO,hf s (h1 hg),hf x (h3 hg),hx,q1,g1];rw[if_pos ⟨q2,cn.1 h5 hg⟩,if_pos ⟨q3,q4,q5,cn.1 g3 hg⟩]
  ·exact h5'.elim
 case K5 e bytes z s x=>
  obtain⟨h1,h2⟩:=cU h
  obtain⟨h3,h4⟩:=cU h2
  have hr:Gd g->((db.K5 e bytes z s x).rd=true->∀y∈(db.K5 e bytes z s x).eQ,JI R y):=fun hg _ y hy=>by simp[db.eQ] at hy;rcases hy with rfl|rfl;exact h1 hg;exact h3 hg
  split at h4
  ·rename_i q hq
   split at h4
   ·rename_i hx
    refine⟨_,_,h4.2,fun hg=>⟨hr hg,fun f hf=> ?_⟩⟩
    simp only[cO,hf s (h1 hg),hf x (h3 hg),hx,hq];rw[if_pos (cn.1 h4.1 hg)]
   ·rename_i hx
    obtain⟨e',sz',d,es,g1,g2,g3,g4⟩:=h4.ok
    refine⟨_,_,g4,fun hg=>⟨hr hg,fun f hf=> ?_⟩⟩
    obtain⟨q3,q4,q5⟩:=cn.1 g2 hg
    simp only[cO,hf s (h1 hg),hf x (h3 hg),hx,hq,g1];rw[if_pos ⟨q3,q4,q5,cn.1 g3 hg⟩]
   ·exact h4.elim
  ·exact h4.elim
 case JE neg x=>
  obtain⟨h1,h2⟩:=cU h
  split at h2
  all_goals first
   |exact h2.elim
   |(rename_i hx;exact⟨_,_,h2,fun hg=>⟨fun hr=>by simp[db.rd] at hr,fun f hf=>by simp only[cO,hf x (h1 hg),hx]⟩⟩)
 case AM neg x=>
  obtain⟨h1,h2⟩:=cU h
  obtain⟨t,h3,h4⟩:=h2.ok
  rw[fP] at h4
  refine⟨_,_,h4,fun hg=>⟨fun _ y hy=>by simp[db.eQ] at hy;subst hy;exact h1 hg,fun f hf=> ?_⟩⟩
  simp only[cO,hf x (h1 hg),h3]
 case eqs neg ks x y=>
  obtain⟨h1,h2⟩:=cU h
  obtain⟨h3,h4⟩:=cU h2
  split at h4
  ·rename_i hx hy
   obtain⟨t,g1,g2⟩:=h4.ok
   cases neg
   all_goals exact⟨_,_,g2,fun hg=>⟨fun hr=>by simp[db.rd] at hr,fun f hf=>by simp[cO,hf x (h1 hg),hf y (h3 hg),hx,hy,g1]⟩⟩
  ·exact h4.elim
 case Q8 sz x lo hi=>
  obtain⟨h1,h2⟩:=cU h
  obtain⟨h3,h4⟩:=fZ h2
  obtain⟨r,g1,g2⟩:=h4.ok
  rw[fP] at g2
  refine⟨_,_,g2,fun hg=>⟨fun _ y hy=> ?_,fun f hf=> ?_⟩⟩
  ·simp only[db.eQ,List.mem_append,List.mem_singleton] at hy
   rcases hy with(rfl|hy)|hy
   ·exact h1 hg
   ·exact h3 hg y (by simp only[List.mem_append];exact .inl hy)
   ·exact h3 hg y (by simp only[List.mem_append];exact .inr hy)
  ·simp only[cO,hf x (h1 hg)]
   have e1:∀y∈lo.toList++hi.toList,ev f y=(R y).2:=fun y hy=>hf y (h3 hg y hy)
   cases lo<;>cases hi<;>simp_all
 case TN n x i=>
  obtain⟨h1,h2⟩:=cU h
  obtain⟨h3,h4⟩:=cU h2
  split at h4
  ·rename_i b len kk j hx hi
   obtain⟨e,sz,d,es,g1,g2,g3,g4⟩:=h4.ok
   refine⟨_,_,g4,fun hg=>⟨fun _ y hy=>by simp[db.eQ] at hy;rcases hy with rfl|rfl;exact h1 hg;exact h3 hg,fun f hf=> ?_⟩⟩
   obtain⟨q1,q2,q3⟩:=cn.1 g2 hg
   obtain⟨q4,q5⟩:=cn.1 g3 hg
   simp only[cO,hf x (h1 hg),hf i (h3 hg),hx,hi,C8,g1]
   rw[if_pos ⟨q1,q2,q3,q4,q5⟩];rfl
  ·exact h4.elim
 case UC n x i=>
  obtain⟨h1,h2⟩:=cU h
  obtain⟨h3,h4⟩:=cU h2
  split at h4
  ·rename_i b len kk j hx hi
   obtain⟨e,sz,d,es,g1,g2,g3,g4⟩:=h4.ok
   refine⟨_,_,g4,fun hg=>⟨fun _ y hy=>by simp[db.eQ] at hy;rcases hy with rfl|rfl;exact h1 hg;exact h3 hg,fun f hf=> ?_⟩⟩
   obtain⟨q1,q2,q3⟩:=cn.1 g2 hg
   obtain⟨q4,q5⟩:=cn.1 g3 hg
   simp only[cO,hf x (h1 hg),hf i (h3 hg),hx,hi,EM,g1]
   rw[if_pos ⟨q1,q2,q3,q4,q5⟩];rfl
  ·exact h4.elim
 case bad=>exact h.elim
 case RW e n=>exact⟨_,_,h,fun hg=>⟨fun hr=>by simp[db.rd] at hr,fun f hf=>rfl⟩⟩
 case U8 sz x a b=>
  obtain⟨h1,h2⟩:=cU h
  obtain⟨h3,h4⟩:=cU h2
  obtain⟨h5,h6⟩:=cU h4
  obtain⟨r,g1,g2⟩:=h6.ok
  rw[fP] at g2
  refine⟨_,_,g2,fun hg=>⟨fun _ y hy=> ?_,fun f hf=> ?_⟩⟩
  ·simp only[db.eQ,List.mem_cons,List.not_mem_nil,or_false] at hy
   rcases hy with rfl|rfl|rfl
   ·exact h1 hg
   ·exact h3 hg
   ·exact h5 hg
  ·simp only[cO,hf x (h1 hg),hf a (h3 hg),hf b (h5 hg),g1]
   rfl
 case PT sz x y=>
  obtain⟨h1,h2⟩:=cU h
  obtain⟨h3,h4⟩:=cU h2
  split at h4
  ·rename_i b len hx
   obtain⟨xs,h5,h6⟩:=mL h4
   obtain⟨e,s,d,es,g1,g2,g3⟩:=h5.ok
   refine⟨_,_,g3,fun hg=>⟨fun _ z hz=>by simp[db.eQ] at hz;rcases hz with rfl|rfl;exact h1 hg;exact h3 hg,fun f hf=> ?_⟩⟩
   obtain⟨q1,q2⟩:=h6 hg
   obtain⟨q3,q4⟩:=cn.1 g2 hg
   simp only[cO,hf x (h1 hg),hf y (h3 hg),hx,q1,g1];rw[if_pos ⟨q3,q4,q2⟩]
  ·exact h4.elim
 case call f as=>exact h.elim
 case SE kt=>exact⟨_,_,h,fun hg=>⟨fun hr=>by simp[db.rd] at hr,fun f hf=>rfl⟩⟩
 case G5 sz v=>exact⟨_,_,h,fun hg=>⟨fun hr=>by simp[db.rd] at hr,fun f hf=>rfl⟩⟩
 case yf e sz v=>exact⟨_,_,h,fun hg=>⟨fun hr=>by simp[db.rd] at hr,fun f hf=>rfl⟩⟩
 case DH x=>
  obtain⟨h1,h2⟩:=cU h
  obtain⟨b,e,d,es,h3,h4⟩:=lz h2
  exact⟨_,_,h4,fun hg=>⟨fun _ y hy=>by simp[db.eQ] at hy;subst hy;exact h1 hg,fun f hf=>by simp only[cO,hf x (h1 hg),h3]⟩⟩
 case QH str ag z ok x k=>
  obtain⟨h1,h2⟩:=cU h
  obtain⟨h3,h4⟩:=cU h2
  have hr:Gd g->((db.QH str ag z ok x k).rd=true->∀y∈(db.QH str ag z ok x k).eQ,JI R y):=fun hg _ y hy=>by simp[db.eQ] at hy;rcases hy with rfl|rfl;exact h1 hg;exact h3 hg
  split at h4
  ·rename_i kv hk
   obtain⟨b,e,d,es,h5,h6,h7⟩:=lz h4
   obtain⟨p,h8,h9⟩:=h7.ok
   cases ok with
   |true=>
    refine⟨_,_,h9,fun hg=>⟨hr hg,fun f hf=> ?_⟩⟩
    have h10:=h8 hg
    unfold nY at h10
    simp only[cO,hf x (h1 hg),hf k (h3 hg),h5,hk]
    rw[if_pos (cn.1 h6 hg)]
    split at h10<;>simp only[Option.some.injEq,reduceCtorEq] at h10
    ·subst h10;simp_all
    ·subst h10;simp_all
   |false=>
    simp only[fP] at h9
    refine⟨_,_,h9,fun hg=>⟨hr hg,fun f hf=> ?_⟩⟩
    have h10:=h8 hg
    unfold nY at h10
    simp only[cO,hf x (h1 hg),hf k (h3 hg),h5,hk]
    rw[if_pos (cn.1 h6 hg)]
    split at h10<;>simp only[Option.some.injEq,reduceCtorEq] at h10
    ·subst h10;simp_all
    ·subst h10;simp_all
  ·exact h4.elim
 case KM str x k y=>
  obtain⟨h1,h2⟩:=cU h
  obtain⟨h3,h4⟩:=cU h2
  obtain⟨h3',h4'⟩:=cU h4
  have hr:Gd g->((db.KM str x k y).rd=true->∀w∈(db.KM str x k y).eQ,JI R w):=fun hg _ w hy=>by simp[db.eQ] at hy;rcases hy with rfl|rfl|rfl;exact h1 hg;exact h3 hg;exact h3' hg
  split at h4'
  ·rename_i kv hk
   obtain⟨b,e,d,es,h5,h6,h7⟩:=lz h4'
   obtain⟨p,h8,h9⟩:=h7.ok
   refine⟨_,_,h9,fun hg=>⟨hr hg,fun f hf=> ?_⟩⟩
   have h10:=h8 hg
   unfold qW at h10
   simp only[cO,hf x (h1 hg),hf k (h3 hg),hf y (h3' hg),h5,hk]
   rw[if_pos (cn.1 h6 hg)]
   split at h10<;>simp only[Option.some.injEq,reduceCtorEq] at h10
   ·subst h10;simp_all[oc]
   ·subst h10;simp_all[oc]
  ·exact h4'.elim
 case del str x k=>
  obtain⟨h1,h2⟩:=cU h
  obtain⟨h3,h4⟩:=cU h2
  have hr:Gd g->((db.del str x k).rd=true->∀y∈(db.del str x k).eQ,JI R y):=fun hg _ y hy=>by simp[db.eQ] at hy;rcases hy with rfl|rfl;exact h1 hg;exact h3 hg
  split at h4
  ·rename_i kv hk
   obtain⟨b,e,d,es,h5,h6,h7⟩:=lz h4
   obtain⟨p,h8,h9⟩:=h7.ok
   refine⟨_,_,h9,fun hg=>⟨hr hg,fun f hf=> ?_⟩⟩
   have h10:=h8 hg
   unfold YU at h10
   simp only[cO,hf x (h1 hg),hf k (h3 hg),h5,hk]
   rw[if_pos (cn.1 h6 hg)]
   split at h10<;>simp only[Option.some.injEq,reduceCtorEq] at h10
   ·subst h10;simp_all
   ·subst h10;simp_all
  ·exact h4.elim
 case Y9 t ok ag z x=>
  obtain⟨h1,h2⟩:=cU h
  split at h2
  ·rename_i t' v hx
   cases hb:Nat.beq t' t with
   |true=>
    rw[hb] at h2
    have e:=Nat.eq_of_beq_eq_true hb
    cases ok with
    |true=>
     simp only[cond_true] at h2
     exact⟨_,_,h2,fun hg=>⟨fun hr=>by simp[db.rd] at hr,fun f hf=>by simp only[cO,hf x (h1 hg),hx];rw[if_pos e];rfl⟩⟩
    |false=>
     simp only[cond_true,fP] at h2
     exact⟨_,_,h2,fun hg=>⟨fun hr=>by simp[db.rd] at hr,fun f hf=>by simp only[cO,hf x (h1 hg),hx];rw[if_pos e];rfl⟩⟩
   |false=>
    rw[hb] at h2
    have e:¬t'=t:=fun e=>by rw[e] at hb;simp at hb
    cases ok with
    |true=>
     simp only[cond_false] at h2
     exact⟨_,_,h2,fun hg=>⟨fun hr=>by simp[db.rd] at hr,fun f hf=>by simp only[cO,hf x (h1 hg),hx];rw[if_neg e];rfl⟩⟩
    |false=>exact h2.elim
  ·exact h2.elim
end Go.dA
/- Code as a whole, run by reduction alone; it is so. -/
namespace Go.dA
open Go.RowKit
structure fb (t:Bool) (A B:Prop):Prop where
 ok:(t=true->A)/\(t=false->B)
theorem fb.lt {A B:Prop} (h:A):fb true A B:=⟨⟨fun _=>h,fun h=>(by cases h)⟩⟩
theorem fb.lf {A B:Prop} (h:B):fb false A B:=⟨⟨fun h=>(by cases h),fun _=>h⟩⟩
theorem fb.of {t:Bool} {A B:Prop} (h1:t=true->A) (h2:t=false->B):fb t A B:=⟨⟨h1,h2⟩⟩
structure ez (t want:Bool) (A B J:Prop):Prop where
 ok:((t=want->A)/\(t≠want->B))\/J
theorem ez.tt {A B J:Prop} (h:A):ez true true A B J:=⟨.inl ⟨fun _=>h,fun h=>absurd rfl h⟩⟩
theorem ez.join {t want:Bool} {A B J:Prop} (h:J):ez t want A B J:=⟨.inr h⟩
theorem ez.split {t want:Bool} {A B J:Prop} (h1:t=want->A) (h2:t= !want->B):ez t want A B J:=⟨.inl ⟨h1,fun h=>h2 (by cases t<;>cases want<;>simp_all)⟩⟩
structure jL (P:Program) (f:FuncId) (args:List AV) (H:Hp) (nx:Nat) (K:AV->Hp->Nat->Prop):Prop where
 ok:cT P f args H nx K
structure oh (P:Program) (g:Bool) (f:FuncId) (args:List AV) (H:Hp) (nx:Nat) (K:AV->Prop):Prop where
 ok:∃r,(g=true->∀(K':AV->Hp->Nat->Prop),K' r H (nx+1)->cT P f args H nx K')/\K r
structure kR (P:Program) (id:Nat) (f:FuncId) (args:List AV) (H:Hp) (K:AV->Option (Nat×fD)->List Nat->Prop):Prop where
 ok:∃r u S,pf P id (.fn (.func f) [] []) args H r u S/\K r u S
structure VB (P:Program) (t:TypeId) (v:AV) (nm:String) (args:List AV) (H:Hp) (nx:Nat) (K:AV->Hp->Nat->Prop):Prop where
 ok:vY P t v nm args H nx K
structure vX (P:Program) (g:Bool) (id:Nat) (f:FuncId) (args:List AV) (H:Hp) (K:AV->List Nat->Prop):Prop where
 ok:∃r S,(g=true->pf P id (.fn (.func f) [] []) args H r none S)/\K r S
theorem Pure.S5 {P:Program} {f:FuncId} {args:List AV} {R:AV->Prop} {H:Hp} {nx:Nat} {K:AV->Hp->Nat->Prop} (h:Pure P f args R) (hf:cg 0 args) (hK:∀r,R r->K r H (nx+1)):cT P f args H nx K:=by
 have:=h.dU (H:=H) (nx:=nx) (K:=fun r H' n=>∃n',n<=n'/\K r H' n') hf fun r hr=>⟨_,Nat.le_succ _,hK r hr⟩
 refine⟨this.1,fun w0 c vs a1 a2 a3 a4=>(this.2 w0 c vs a1 a2 a3 a4).mono ?_⟩
 rintro e w' ⟨v,r,H',nx',ρ,U,he,⟨n',hn,hR⟩,hU,hrest⟩
 exact⟨v,r,H',n',ρ,U,he,hR,fun b hb=>Nat.lt_of_lt_of_le (hU b hb) hn,hrest⟩
theorem jL.pure {P:Program} {f:FuncId} {args:List AV} {R:AV->Prop} {H:Hp} {nx:Nat} {K:AV->Hp->Nat->Prop} (h:Pure P f args R) (hf:cg 0 args) (hK:∀r,R r->K r H nx):jL P f args H nx K:=⟨h.dU hf hK⟩
theorem jL.O8 {P:Program} {f:FuncId} {args:List AV} {r:AV} {H:Hp} {nx:Nat} {K:AV->Hp->Nat->Prop} (h:Pure P f args (fun x=>x=r)) (hf:cg 0 args) (hK:K r H nx):jL P f args H nx K:=⟨h.dU hf fun x hx=>by rw[hx];exact hK⟩
theorem jL.of {P:Program} {f:FuncId} {args:List AV} {H:Hp} {nx:Nat} {R K:AV->Hp->Nat->Prop} (h:cT P f args H nx R) (hK:∀r H' nx',R r H' nx'->K r H' nx'):jL P f args H nx K:=⟨h.mono hK⟩
theorem oh.O8 {P:Program} {g:Bool} {f:FuncId} {args:List AV} {r:AV} {H:Hp} {nx:Nat} {K:AV->Prop} (h:g=true->Pure P f args (fun x=>x=r)) (hf:cg 0 args) (hK:K r):oh P g f args H nx K:=
 ⟨⟨r,fun hg K' hK'=>(h hg).S5 hf fun x hx=>by rw[hx];exact hK',hK⟩⟩
theorem kR.O8 {P:Program} {id:Nat} {f:FuncId} {args:List AV} {H:Hp} {r:AV} {K:AV->Option (Nat×fD)->List Nat->Prop} (h:Pure P f args (fun x=>x=r)) (hf:cg 0 args) (hK:K r none []):kR P id f args H K:=
 ⟨⟨r,none,[],Pure.SG (by simpa using hf) (by simpa using h),hK⟩⟩
theorem vX.O8 {P:Program} {g:Bool} {id:Nat} {f:FuncId} {args:List AV} {H:Hp} {r:AV} {K:AV->List Nat->Prop} (h:g=true->Pure P f args (fun x=>x=r)) (hf:cg 0 args) (hK:K r []):vX P g id f args H K:=
 ⟨⟨r,[],fun hg=>Pure.SG (by simpa using hf) (by simpa using h hg),hK⟩⟩
theorem kR.fresh {P:Program} {id:Nat} {f:FuncId} {args:List AV} {H:Hp} {r:AV} {u:Option (Nat×fD)} (S:List Nat) {K:AV->Option (Nat×fD)->List Nat->Prop}
 (h:∀H1,(∀b∈S,cC H1 b=cC H b)->kS P f args H1 id (fun r' H'=>r'=r/\H'=dW H1 u)) (hu:∀b q,u=some (b,q)->b=id) (hK:K r u S):kR P id f args H K:=
 ⟨⟨r,u,S,⟨by simpa using h,hu⟩,hK⟩⟩
section
variable (P:Program)
noncomputable def y7 (nx:Nat) (R:Raw) (H:Hp) (op:db) (K:AV->Hp->Nat->Prop):Prop:=
 match op with
 | .call f args=>dR none R f fun fv=>lD none R args fun as=>match fv with
  | .fn (.func g) first caps=>rV (first++as++caps) fun as=>jL P g as H nx K
  | .fn (.method nm) [.nC t v] []=>rV as fun as=>VB P t v nm as H nx K
  |_=>False
 |op=>ql none H R nx op fun r u=>K r (dW H u) (nx+1)
noncomputable def nH (nx:Nat) (g:Bool) (R:Raw) (H:Hp) (op:db) (K:AV->Prop):Prop:=
 match op with
 | .call f args=>dR (some g) R f fun fv=>lD (some g) R args fun as=>match fv with
  | .fn (.func q) first caps=>rV (first++as++caps) fun as=>oh P g q as H nx K
  |_=>False
 |op=>ql (some g) H R nx op fun r u=>match u with
  |none=>K r
  |some _=>False
abbrev FE:=Nat->Ov->Fr->Hp->(Ov->Hp->Nat->Prop)->Prop
def y8 (nx:Nat) (ov:Ov) (_:Fr) (H:Hp) (K:Ov->Hp->Nat->Prop):Prop:=K ov H nx
noncomputable def rC (g:iL) (_:List iL) (ih:FE) (nx:Nat) (ov:Ov) (fr:Fr) (H:Hp) (K:Ov->Hp->Nat->Prop):Prop:=match g.guard with
 |none=>y7 P nx (fX ov fr) H g.op fun r H' nx'=>ih nx' (iJ ov g.dst none r) fr H' K
 |some (d,want)=>match rW ov fr d with
  |(none, .sc (.bool t))=>ez t want (y7 P nx (fX ov fr) H g.op fun r H' nx'=>ih nx' (iJ ov g.dst none r) fr H' K) (ih (nx+1) (iJ ov g.dst none (.sc undef)) fr H K)
   (match want with
    |true=>nH P nx t (fX ov fr) H g.op fun r=>ih (nx+1) (iJ ov g.dst (some t) r) fr H K
    |false=>nH P nx (!t) (fX ov fr) H g.op fun r=>ih (nx+1) (iJ ov g.dst (some !t) r) fr H K)
  |(some q, .sc (.bool t))=>(match want with
   |true=>nH P nx (q&&t) (fX ov fr) H g.op fun r=>ih (nx+1) (iJ ov g.dst (some (q&&t)) r) fr H K
   |false=>nH P nx (q&& !t) (fX ov fr) H g.op fun r=>ih (nx+1) (iJ ov g.dst (some (q&& !t)) r) fr H K)
  |(none, .sc (.tuple _))=>ih (nx+1) (iJ ov g.dst none (.sc undef)) fr H K
  |_=>False
noncomputable def GZ (nx:Nat) (gs:List iL) (ov:Ov) (fr:Fr) (H:Hp) (K:Ov->Hp->Nat->Prop):Prop:=List.rec (motive:=fun _=>FE) y8 (rC P) gs nx ov fr H K
def IN (R:Raw) (op:db):List Nat:=if op.rd then op.eQ.flatMap (fun x=>iB (R x).2) else[]
noncomputable def pE (id:Nat) (R:Raw) (H:Hp) (op:db) (K:AV->Option (Nat×fD)->List Nat->Prop):Prop:=
 match op with
 | .call f args=>dR none R f fun fv=>lD none R args fun as=>match fv with
  | .fn (.func g) first caps=>rV (first++as++caps) fun as=>kR P id g as H K
  |_=>False
 |op=>ql none H R id op fun r u=>K r u (IN R op)
noncomputable def jY (id:Nat) (g:Bool) (R:Raw) (H:Hp) (op:db) (K:AV->List Nat->Prop):Prop:=
 match op with
 | .call f args=>dR (some g) R f fun fv=>lD (some g) R args fun as=>match fv with
  | .fn (.func q) first caps=>rV (first++as++caps) fun as=>vX P g id q as H K
  |_=>False
 |op=>ql (some g) H R id op fun r u=>match u with
  |none=>K r (IN R op)
  |some _=>False
abbrev ZJ:=Nat->Ov->Fr->Hp->Tr->(Ov->Hp->Tr->Prop)->Prop
def KW (_:Nat) (ov:Ov) (_:Fr) (H:Hp) (tr:Tr) (K:Ov->Hp->Tr->Prop):Prop:=K ov H tr
noncomputable def pg (g:iL) (_:List iL) (ih:ZJ) (id:Nat) (ov:Ov) (fr:Fr) (H:Hp) (tr:Tr) (K:Ov->Hp->Tr->Prop):Prop:=match g.guard with
 |none=>pE P id (fX ov fr) H g.op fun r u S=>ih (id+1) (iJ ov g.dst none r) fr (dW H u) (tr++[(S,u.map (·.1))]) K
 |some (d,want)=>match rW ov fr d with
  |(none, .sc (.bool t))=>ez t want (pE P id (fX ov fr) H g.op fun r u S=>ih (id+1) (iJ ov g.dst none r) fr (dW H u) (tr++[(S,u.map (·.1))]) K) (ih (id+1) (iJ ov g.dst none (.sc undef)) fr H (tr++[([],none)]) K)
   (match want with
    |true=>jY P id t (fX ov fr) H g.op fun r S=>ih (id+1) (iJ ov g.dst (some t) r) fr H (tr++[(S,none)]) K
    |false=>jY P id (!t) (fX ov fr) H g.op fun r S=>ih (id+1) (iJ ov g.dst (some !t) r) fr H (tr++[(S,none)]) K)
  |(some q, .sc (.bool t))=>(match want with
   |true=>jY P id (q&&t) (fX ov fr) H g.op fun r S=>ih (id+1) (iJ ov g.dst (some (q&&t)) r) fr H (tr++[(S,none)]) K
   |false=>jY P id (q&& !t) (fX ov fr) H g.op fun r S=>ih (id+1) (iJ ov g.dst (some (q&& !t)) r) fr H (tr++[(S,none)]) K)
  |(none, .sc (.tuple _))=>ih (id+1) (iJ ov g.dst none (.sc undef)) fr H (tr++[([],none)]) K
  |_=>False
noncomputable def WD (id:Nat) (gs:List iL) (ov:Ov) (fr:Fr) (H:Hp) (tr:Tr) (K:Ov->Hp->Tr->Prop):Prop:=List.rec (motive:=fun _=>ZJ) KW (pg P) gs id ov fr H tr K
noncomputable def T4 (S:List Nat):(List Nat->Prop)->Prop:=List.rec (motive:=fun _=>(List Nat->Prop)->Prop) (fun K=>K []) (fun b _ ih K=>ih fun S'=>K (b::S')) S
theorem uX:∀(S:List Nat) (K:List Nat->Prop),T4 S K=K S
 |[],_=>rfl
 |b::S,K=>uX S fun S'=>K (b::S')
def uW (u:Option (Nat×fD)) (K:Option Nat->Prop):Prop:=match u with
 |none=>K none
 |some (b,_)=>K (some b)
theorem ZA (u:Option (Nat×fD)) (K:Option Nat->Prop):uW u K=K (u.map (·.1)):=by
 cases u<;>rfl
noncomputable def xG (g:iL) (_:List iL) (ih:ZJ) (id:Nat) (ov:Ov) (fr:Fr) (H:Hp) (tr:Tr) (K:Ov->Hp->Tr->Prop):Prop:=match g.guard with
 |none=>pE P id (fX ov fr) H g.op fun r u S=>T4 S fun S=>uW u fun x=>ih (id+1) (iJ ov g.dst none r) fr (dW H u) ((S,x)::tr) K
 |some (d,want)=>match rW ov fr d with
  |(none, .sc (.bool t))=>ez t want (pE P id (fX ov fr) H g.op fun r u S=>T4 S fun S=>uW u fun x=>ih (id+1) (iJ ov g.dst none r) fr (dW H u) ((S,x)::tr) K) (ih (id+1) (iJ ov g.dst none (.sc undef)) fr H (([],none)::tr) K)
   (match want with
    |true=>jY P id t (fX ov fr) H g.op fun r S=>T4 S fun S=>ih (id+1) (iJ ov g.dst (some t) r) fr H ((S,none)::tr) K
    |false=>jY P id (!t) (fX ov fr) H g.op fun r S=>T4 S fun S=>ih (id+1) (iJ ov g.dst (some !t) r) fr H ((S,none)::tr) K)
  |(some q, .sc (.bool t))=>(match want with
   |true=>jY P id (q&&t) (fX ov fr) H g.op fun r S=>T4 S fun S=>ih (id+1) (iJ ov g.dst (some (q&&t)) r) fr H ((S,none)::tr) K
   |false=>jY P id (q&& !t) (fX ov fr) H g.op fun r S=>T4 S fun S=>ih (id+1) (iJ ov g.dst (some (q&& !t)) r) fr H ((S,none)::tr) K)
  |(none, .sc (.tuple _))=>ih (id+1) (iJ ov g.dst none (.sc undef)) fr H (([],none)::tr) K
  |_=>False
noncomputable def WE (id:Nat) (gs:List iL) (ov:Ov) (fr:Fr) (H:Hp) (tr:Tr) (K:Ov->Hp->Tr->Prop):Prop:=List.rec (motive:=fun _=>ZJ) KW (xG P) gs id ov fr H tr K
theorem y6:∀(gs:List iL) (id:Nat) (ov:Ov) (fr:Fr) (H:Hp) (tr:Tr) (K:Ov->Hp->Tr->Prop),WE P id gs ov fr H tr K=WD P id gs ov fr H tr.reverse fun ov H t=>K ov H t.reverse
 |[],id,ov,fr,H,tr,K=>by
  show K ov H tr=K ov H tr.reverse.reverse
  rw[List.reverse_reverse]
 |g::gs,id,ov,fr,H,tr,K=>by
  have ih:=y6 gs
  show xG P g gs (fun id ov fr H tr K=>WE P id gs ov fr H tr K) id ov fr H tr K=pg P g gs (fun id ov fr H tr K=>WD P id gs ov fr H tr K) id ov fr H tr.reverse fun ov H t=>K ov H t.reverse
  simp only[xG,pg,uX,ZA,ih,List.reverse_cons]
noncomputable def PD (s:vD) (_:List vD) (ih:FE) (nx:Nat) (ov:Ov) (fr:Fr) (H:Hp) (K:Ov->Hp->Nat->Prop):Prop:=match s.ops with
 |[g]=>GZ P nx [g] ov fr H fun ov' H' nx'=>ih nx' ov' fr H' K
 |gs=>WE P nx gs ov fr H [] fun ov' H' tr=>(match s.ps with
  |[]=>ih (nx+gs.length) ov' fr H' K
  |p::ps=>Ask (j3 tr.reverse (p::ps))/\ih (nx+gs.length) ov' fr H' K)
noncomputable def WS (nx:Nat) (segs:List vD) (ov:Ov) (fr:Fr) (H:Hp) (K:Ov->Hp->Nat->Prop):Prop:=List.rec (motive:=fun _=>FE) y8 (PD P) segs nx ov fr H K
structure jM (n lo:Nat) (x:LC) (fr:Fr) (H:Hp) (nx:Nat) (Q:QT):Prop where
 ok:WL P n lo (.loop x) fr H nx Q
abbrev WT:=Fr->Hp->Nat->QT->Prop
def SR (fr:Fr) (H:Hp) (nx:Nat) (Q:QT):Prop:=Q .normal fr H nx
noncomputable def KX (gs:List iL) (fr:Fr) (H:Hp) (nx:Nat) (Q:QT):Prop:=GZ P nx gs [] fr H fun ov H' nx'=>Q .normal (iV ov fr) H' nx'
structure jC (segs:List vD) (fr:Fr) (H:Hp) (nx:Nat) (Q:QT):Prop where
 ok:∀n lo,WL P n lo (.drawn segs) fr H nx Q
def PF (segs:List vD) (fr:Fr) (H:Hp) (nx:Nat) (Q:QT):Prop:=jC P segs fr H nx Q
def VD (_ _:LC) (ia ib:WT) (fr:Fr) (H:Hp) (nx:Nat) (Q:QT):Prop:=ia fr H nx (jA (fun fr H nx=>ib fr H nx Q) Q)
def BV (c:eK) (_ _:LC) (ia ib:WT) (fr:Fr) (H:Hp) (nx:Nat) (Q:QT):Prop:=match ev fr c with
 | .sc (.bool t)=>fb t (ia fr H nx Q) (ib fr H nx Q)
 | .ab=>ia fr H nx Q/\ib fr H nx Q
 |_=>False
def PE (id:Nat) (_:LC) (ia:WT) (fr:Fr) (H:Hp) (nx:Nat) (Q:QT):Prop:=ia fr H nx (B5 id Q)
def SQ (n lo:Nat) (a:LC) (_:WT) (fr:Fr) (H:Hp) (nx:Nat) (Q:QT):Prop:=jM P n lo a fr H nx Q
def SP (id:Nat) (fr:Fr) (H:Hp) (nx:Nat) (Q:QT):Prop:=Q (.exit id) fr H nx
def VC (fr:Fr) (H:Hp) (nx:Nat) (Q:QT):Prop:=Q .ret fr H nx
noncomputable def W (n lo:Nat) (lc:LC):WT:=LC.rec (motive:=fun _=>WT) SR (KX P) (PF P) VD BV PE (SQ P n lo) SP VC lc
end
section
variable {P:Program}
theorem sC {nx:Nat} {ov:Ov} {f fr:Fr} {H:Hp} {op:db} {K:AV->Hp->Nat->Prop} (hF:qy f ov fr) (h:y7 P nx (fX ov fr) H op K):eI P nx f H op K:=by
 by_cases hc:∃g as,op= .call g as
 ·obtain⟨fo,as,rfl⟩:=hc
  simp only[y7] at h
  obtain⟨h1,h2⟩:=cU h
  obtain⟨h3,h4⟩:=fZ h2
  simp only[eI]
  rw[hF.raw fo (h1 trivial),mN (R:=fX ov fr) fun x hx=>hF.raw x (h3 trivial x hx)]
  split at h4
  ·rename_i he
   rw[he]
   rw[jH] at h4
   exact h4.ok
  ·rename_i he
   rw[he]
   rw[jH] at h4
   exact h4.ok
  ·exact h4.elim
 ·have e1:y7 P nx (fX ov fr) H op K=ql none H (fX ov fr) nx op fun r u=>K r (dW H u) (nx+1):=by cases op<;>first|rfl|exact absurd ⟨_,_,rfl⟩ hc
  have e2:eI P nx f H op K=nc (cO nx f H op) fun p=>K p.1 (dW H p.2) (nx+1):=by cases op<;>first|rfl|exact absurd ⟨_,_,rfl⟩ hc
  rw[e1] at h
  obtain⟨r,u,h1,h2⟩:=kq h
  rw[e2,(h2 trivial).2 f fun x hx=>hF.raw x hx]
  exact h1
theorem xI {nx:Nat} {g:Bool} {ov:Ov} {fr:Fr} {H:Hp} {op:db} {K:AV->Prop} (h:nH P nx g (fX ov fr) H op K):
 ∃r,K r/\(g=true->∀f,qy f ov fr->∀K':AV->Hp->Nat->Prop,K' r H (nx+1)->eI P nx f H op K'):=by
 by_cases hc:∃g as,op= .call g as
 ·obtain⟨fo,as,rfl⟩:=hc
  simp only[nH] at h
  obtain⟨h1,h2⟩:=cU h
  obtain⟨h3,h4⟩:=fZ h2
  split at h4
  ·rename_i he
   rw[jH] at h4
   obtain⟨r,h5,h6⟩:=h4.ok
   refine⟨r,h6,fun hg f hF K' hK'=> ?_⟩
   simp only[eI]
   rw[hF.raw fo (h1 hg),mN (R:=fX ov fr) fun x hx=>hF.raw x (h3 hg x hx),he]
   exact h5 hg K' hK'
  ·exact h4.elim
 ·have e1:nH P nx g (fX ov fr) H op K=ql (some g) H (fX ov fr) nx op fun r u=>match u with|none=>K r|some _=>False:=by cases op<;>first|rfl|exact absurd ⟨_,_,rfl⟩ hc
  rw[e1] at h
  obtain⟨r,u,h1,h2⟩:=kq h
  cases u with
  |some p=>exact h1.elim
  |none=>
   refine⟨r,h1,fun hg f hF K' hK'=> ?_⟩
   have e2:eI P nx f H op K'=nc (cO nx f H op) fun p=>K' p.1 (dW H p.2) (nx+1):=by cases op<;>first|rfl|exact absurd ⟨_,_,rfl⟩ hc
   rw[e2,(h2 hg).2 f fun x hx=>hF.raw x hx]
   exact hK'
theorem fy:∀{gs:List iL} {nx:Nat} {ov:Ov} {f fr:Fr} {H:Hp} {K:Ov->Hp->Nat->Prop},qy f ov fr->GZ P nx gs ov fr H K->fi P nx gs f H (fun f1 H1 nx1=>∃ov1,qy f1 ov1 fr/\K ov1 H1 nx1)
 |[],nx,ov,f,fr,H,K,hF,h=>⟨ov,hF,h⟩
 |g::gs,nx,ov,f,fr,H,K,hF,h=>by
  have join:∀{q t:Bool} {d:Nat} {want:Bool},g.guard=some (d,want)->(q=true->cu f d= .sc (.bool t))->(q=false->cu f d= .sc undef)->∀{gg:Bool},(gg=true↔(q=true/\t=want))->
   (nH P nx gg (fX ov fr) H g.op fun r=>GZ P (nx+1) gs (iJ ov g.dst (some gg) r) fr H K)->fi P nx (g::gs) f H (fun f1 H1 nx1=>∃ov1,qy f1 ov1 fr/\K ov1 H1 nx1):=by
   intro q t d want hg hq1 hq2 gg hgg hJ
   obtain⟨r,h1,h2⟩:=xI hJ
   simp only[fi,hg,dj]
   cases q with
   |true=>
    simp only[hq1 rfl]
    by_cases ht:t=want
    ·rw[if_pos ht]
     have hgt:=hgg.2 ⟨rfl,ht⟩
     exact h2 hgt f hF _ (fy (hF.p6 g.dst (u:=r) (fun _=>rfl) fun h=>by rw[hgt] at h;cases h) h1)
    ·rw[if_neg ht]
     have hgf:gg=false:=by cases hgg':gg<;>simp_all
     exact fy (hF.p6 g.dst (u:= .sc undef) (fun h=>by rw[hgf] at h;cases h) fun _=>rfl) h1
   |false=>
    simp only[hq2 rfl]
    have hgf:gg=false:=by cases hgg':gg<;>simp_all
    have:=fy (hF.p6 g.dst (u:= .sc undef) (q:=gg) (fun h=>by rw[hgf] at h;cases h) fun _=>rfl) h1
    exact this
  have h:rC P g gs (fun nx ov fr H K=>GZ P nx gs ov fr H K) nx ov fr H K:=h
  simp only[rC] at h
  split at h
  ·rename_i hg
   simp only[fi,hg,dj]
   exact(sC hF h).mono fun r H' nx' hh=>fy (hF.put g.dst r) hh
  ·rename_i d want hg
   have hd:=hF d
   split at h
   ·rename_i t he
    rw[he] at hd
    simp only at hd
    rcases h.ok with⟨hA,hB⟩|hJ
    ·simp only[fi,hg,dj,hd]
     by_cases ht:t=want
     ·rw[if_pos ht]
      exact(sC hF (hA ht)).mono fun r H' nx' hh=>fy (hF.put g.dst r) hh
     ·rw[if_neg ht]
      exact fy (hF.put g.dst _) (hB ht)
    ·cases want with
     |true=>exact join (q:=true) hg (fun _=>hd) (fun h=>by cases h) (gg:=t) (by simp) hJ
     |false=>exact join (q:=true) hg (fun _=>hd) (fun h=>by cases h) (gg:= !t) (by simp) hJ
   ·rename_i q t he
    rw[he] at hd
    simp only at hd
    cases want with
    |true=>exact join hg hd.1 hd.2 (gg:=q&&t) (by simp) h
    |false=>exact join hg hd.1 hd.2 (gg:=q&& !t) (by simp) h
   ·rename_i v he
    rw[he] at hd
    simp only at hd
    simp only[fi,hg,dj,hd]
    exact fy (hF.put g.dst _) h
   ·exact h.elim
def GX:Tr->Tr->Prop
 |[],[]=>True
 |a::r,b::s=>(∀x∈a.1,x∈b.1)/\a.2=b.2/\GX r s
 |_,_=>False
theorem GX.snoc {a b:List Nat} {u:Option Nat} (h1:∀x∈a,x∈b):∀{r s:Tr},GX r s->GX (r++[(a,u)]) (s++[(b,u)])
 |[],[],_=>⟨h1,rfl,trivial⟩
 |x::r,y::s,h=>⟨h.1,h.2.1,GX.snoc h1 h.2.2⟩
 |[],_::_,h=>h.elim
 |_::_,[],h=>h.elim
theorem GX.get:∀{r s:Tr},GX r s->∀k,(∀x∈(r.getD k ([],none)).1,x∈(s.getD k ([],none)).1)/\(r.getD k ([],none)).2=(s.getD k ([],none)).2
 |[],[],_,k=>by simp
 |x::r,y::s,h,0=>⟨h.1,h.2.1⟩
 |x::r,y::s,h,k+1=>by simpa using GX.get h.2.2 k
 |[],_::_,h,_=>h.elim
 |_::_,[],h,_=>h.elim
theorem GX.HM {r s:Tr} (h:GX r s) {ps:List (Nat×Nat)} (hf:j3 s ps):j3 r ps:=by
 intro p hp
 obtain⟨h1,h2,h3⟩:=hf p hp
 obtain⟨a1,a2⟩:=h.get p.1
 obtain⟨b1,b2⟩:=h.get p.2
 exact⟨fun b hb hm=>h1 b (by rw[<-a2];exact hb) (b1 b hm),fun b hb hm=>h2 b (by rw[<-b2];exact hb) (a1 b hm),fun b hb=>h3 b ⟨by rw[<-a2];exact hb.1,by rw[<-b2];exact hb.2⟩⟩
theorem F6 {ov:Ov} {f fr:Fr} {op:db} (hF:qy f ov fr) (h:op.rd=true->∀y∈op.eQ,JI (fX ov fr) y):∀x∈eh f op,x∈IN (fX ov fr) op:=by
 intro x hx
 unfold eh at hx
 unfold IN
 split at hx
 ·rename_i hr
  rw[if_pos hr]
  obtain⟨y,hy,hm⟩:=List.mem_flatMap.1 hx
  exact List.mem_flatMap.2 ⟨y,hy,by rw[<-hF.raw y (h hr y hy)];exact hm⟩
 ·cases hx
theorem ph {id:Nat} {ov:Ov} {fr:Fr} {H:Hp} {op:db} {K:AV->Option (Nat×fD)->List Nat->Prop} (h:pE P id (fX ov fr) H op K) {f:Fr} (hF:qy f ov fr):
 mj P id f H op (fun r u S'=>∃S,(∀x∈S',x∈S)/\K r u S):=by
 by_cases hc:∃g as,op= .call g as
 ·obtain⟨fo,as,rfl⟩:=hc
  simp only[pE] at h
  obtain⟨h1,h2⟩:=cU h
  obtain⟨h3,h4⟩:=fZ h2
  split at h4
  ·rename_i he
   rw[jH] at h4
   obtain⟨r,u,S,h5,h6⟩:=h4.ok
   refine⟨r,u,S, ?_,S,fun _ h=>h,h6⟩
   rw[hF.raw fo (h1 trivial),mN (R:=fX ov fr) fun x hx=>hF.raw x (h3 trivial x hx),he]
   simpa[pf] using h5
  ·exact h4.elim
 ·have e1:pE P id (fX ov fr) H op K=ql none H (fX ov fr) id op fun r u=>K r u (IN (fX ov fr) op):=by cases op<;>first|rfl|exact absurd ⟨_,_,rfl⟩ hc
  rw[e1] at h
  obtain⟨r,u,h1,h2⟩:=kq h
  obtain⟨h3,h4⟩:=h2 trivial
  have e2:∀K',mj P id f H op K'=nc (cO id f H op) fun p=>K' p.1 p.2 (eh f op):=by intro K';cases op<;>first|rfl|exact absurd ⟨_,_,rfl⟩ hc
  rw[e2,h4 f fun x hx=>hF.raw x hx]
  exact⟨_,F6 hF h3,h1⟩
theorem xH {id:Nat} {g:Bool} {ov:Ov} {fr:Fr} {H:Hp} {op:db} {K:AV->List Nat->Prop} (h:jY P id g (fX ov fr) H op K):
 ∃r S,K r S/\(g=true->∀f,qy f ov fr->∀K':AV->Option (Nat×fD)->List Nat->Prop,(∀S',(∀x∈S',x∈S)->K' r none S')->mj P id f H op K'):=by
 by_cases hc:∃g as,op= .call g as
 ·obtain⟨fo,as,rfl⟩:=hc
  simp only[jY] at h
  obtain⟨h1,h2⟩:=cU h
  obtain⟨h3,h4⟩:=fZ h2
  split at h4
  ·rename_i he
   rw[jH] at h4
   obtain⟨r,S,h5,h6⟩:=h4.ok
   refine⟨r,S,h6,fun hg f hF K' hK'=>⟨r,none,S, ?_,hK' S fun _ h=>h⟩⟩
   rw[hF.raw fo (h1 hg),mN (R:=fX ov fr) fun x hx=>hF.raw x (h3 hg x hx),he]
   simpa[pf] using h5 hg
  ·exact h4.elim
 ·have e1:jY P id g (fX ov fr) H op K=ql (some g) H (fX ov fr) id op fun r u=>match u with|none=>K r (IN (fX ov fr) op)|some _=>False:=by cases op<;>first|rfl|exact absurd ⟨_,_,rfl⟩ hc
  rw[e1] at h
  obtain⟨r,u,h1,h2⟩:=kq h
  cases u with
  |some p=>exact h1.elim
  |none=>
   refine⟨r,_,h1,fun hg f hF K' hK'=> ?_⟩
   obtain⟨h3,h4⟩:=h2 hg
   have e2:mj P id f H op K'=nc (cO id f H op) fun p=>K' p.1 p.2 (eh f op):=by cases op<;>first|rfl|exact absurd ⟨_,_,rfl⟩ hc
   rw[e2,h4 f fun x hx=>hF.raw x hx]
   exact hK' _ (F6 hF h3)
theorem gT:∀{gs:List iL} {id:Nat} {ov:Ov} {f fr:Fr} {H:Hp} {tr tr':Tr} {K:Ov->Hp->Tr->Prop},qy f ov fr->GX tr' tr->WD P id gs ov fr H tr K->jc P id gs f H tr' (fun f1 H1 tr1=>∃ov1 trj,qy f1 ov1 fr/\GX tr1 trj/\K ov1 H1 trj)
 |[],id,ov,f,fr,H,tr,tr',K,hF,hT,h=>⟨ov,tr,hF,hT,h⟩
 |g::gs,id,ov,f,fr,H,tr,tr',K,hF,hT,h=>by
  have join:∀{q t:Bool} {d:Nat} {want:Bool},g.guard=some (d,want)->(q=true->cu f d= .sc (.bool t))->(q=false->cu f d= .sc undef)->∀{gg:Bool},(gg=true↔(q=true/\t=want))->
   (jY P id gg (fX ov fr) H g.op fun r S=>WD P (id+1) gs (iJ ov g.dst (some gg) r) fr H (tr++[(S,none)]) K)->jc P id (g::gs) f H tr' (fun f1 H1 tr1=>∃ov1 trj,qy f1 ov1 fr/\GX tr1 trj/\K ov1 H1 trj):=by
   intro q t d want hg hq1 hq2 gg hgg hJ
   obtain⟨r,S,h1,h2⟩:=xH hJ
   simp only[jc,hg,dj]
   cases q with
   |true=>
    simp only[hq1 rfl]
    by_cases ht:t=want
    ·rw[if_pos ht]
     have hgt:=hgg.2 ⟨rfl,ht⟩
     refine h2 hgt f hF _ fun S' hS=> ?_
     exact gT (hF.p6 g.dst (u:=r) (fun _=>rfl) fun h=>by rw[hgt] at h;cases h) (hT.snoc hS) h1
    ·rw[if_neg ht]
     have hgf:gg=false:=by cases hgg':gg<;>simp_all
     exact gT (hF.p6 g.dst (u:= .sc undef) (fun h=>by rw[hgf] at h;cases h) fun _=>rfl) (hT.snoc (a:=[]) (b:=S) (fun _ h=>by cases h)) h1
   |false=>
    simp only[hq2 rfl]
    have hgf:gg=false:=by cases hgg':gg<;>simp_all
    have:=gT (hF.p6 g.dst (u:= .sc undef) (q:=gg) (fun h=>by rw[hgf] at h;cases h) fun _=>rfl) (hT.snoc (a:=[]) (b:=S) (fun _ h=>by cases h)) h1
    exact this
  have h:pg P g gs (fun id ov fr H tr K=>WD P id gs ov fr H tr K) id ov fr H tr K:=h
  simp only[pg] at h
  split at h
  ·rename_i hg
   simp only[jc,hg,dj]
   refine(ph h hF).mono ?_
   rintro r u S' ⟨S,hS,hh⟩
   exact gT (hF.put g.dst r) (hT.snoc hS) hh
  ·rename_i d want hg
   have hd:=hF d
   split at h
   ·rename_i t he
    rw[he] at hd
    simp only at hd
    rcases h.ok with⟨hA,hB⟩|hJ
    ·simp only[jc,hg,dj,hd]
     by_cases ht:t=want
     ·rw[if_pos ht]
      refine(ph (hA ht) hF).mono ?_
      rintro r u S' ⟨S,hS,hh⟩
      exact gT (hF.put g.dst r) (hT.snoc hS) hh
     ·rw[if_neg ht]
      exact gT (hF.put g.dst _) (hT.snoc (a:=[]) (b:=[]) (fun _ h=>h)) (hB ht)
    ·cases want with
     |true=>exact join (q:=true) hg (fun _=>hd) (fun h=>by cases h) (gg:=t) (by simp) hJ
     |false=>exact join (q:=true) hg (fun _=>hd) (fun h=>by cases h) (gg:= !t) (by simp) hJ
   ·rename_i q t he
    rw[he] at hd
    simp only at hd
    cases want with
    |true=>exact join hg hd.1 hd.2 (gg:=q&&t) (by simp) h
    |false=>exact join hg hd.1 hd.2 (gg:=q&& !t) (by simp) h
   ·rename_i v he
    rw[he] at hd
    simp only at hd
    simp only[jc,hg,dj,hd]
    exact gT (hF.put g.dst _) (hT.snoc (a:=[]) (b:=[]) (fun _ h=>h)) h
   ·exact h.elim
theorem lQ:∀{segs:List vD} {nx:Nat} {ov:Ov} {f fr:Fr} {H:Hp} {K:Ov->Hp->Nat->Prop},qy f ov fr->WS P nx segs ov fr H K->jD P nx segs f H (fun f1 H1 nx1=>∃ov1,qy f1 ov1 fr/\K ov1 H1 nx1)
 |[],nx,ov,f,fr,H,K,hF,h=>⟨ov,hF,h⟩
 |⟨[g],ps⟩::rest,nx,ov,f,fr,H,K,hF,h=>by
  have h:GZ P nx [g] ov fr H fun ov' H' nx'=>WS P nx' rest ov' fr H' K:=h
  refine fi.mono (K':=fun a b c=>jD P c rest a b _) (fy hF h) ?_
  rintro f1 H1 nx1 ⟨ov1,h1,h2⟩
  exact lQ h1 h2
 |⟨[],[]⟩::rest,nx,ov,f,fr,H,K,hF,h=>by
  have h:WE P nx [] ov fr H [] fun ov' H' _=>WS P (nx+0) rest ov' fr H' K:=h
  rw[y6,List.reverse_nil] at h
  simp only[jD]
  refine jc.mono (gT hF (tr':=[]) (tr:=[]) trivial h) ?_
  rintro f1 H1 tr1 ⟨ov1,trj,h1,h2,h3⟩
  exact⟨(fun p hp=>by cases hp),lQ h1 h3⟩
 |⟨[],p::ps⟩::rest,nx,ov,f,fr,H,K,hF,h=>by
  have h:WE P nx [] ov fr H [] fun ov' H' tr=>Ask (j3 tr.reverse (p::ps))/\WS P (nx+0) rest ov' fr H' K:=h
  rw[y6,List.reverse_nil] at h
  simp only[List.reverse_reverse] at h
  simp only[jD]
  refine jc.mono (gT hF (tr':=[]) (tr:=[]) trivial h) ?_
  rintro f1 H1 tr1 ⟨ov1,trj,h1,h2,h3⟩
  exact⟨h2.HM h3.1.ok,lQ h1 h3.2⟩
 |⟨g1::g2::gs,[]⟩::rest,nx,ov,f,fr,H,K,hF,h=>by
  have h:WE P nx (g1::g2::gs) ov fr H [] fun ov' H' _=>WS P (nx+(g1::g2::gs).length) rest ov' fr H' K:=h
  rw[y6,List.reverse_nil] at h
  simp only[jD]
  refine jc.mono (gT hF (tr':=[]) (tr:=[]) trivial h) ?_
  rintro f1 H1 tr1 ⟨ov1,trj,h1,h2,h3⟩
  exact⟨(fun p hp=>by cases hp),lQ h1 h3⟩
 |⟨g1::g2::gs,p::ps⟩::rest,nx,ov,f,fr,H,K,hF,h=>by
  have h:WE P nx (g1::g2::gs) ov fr H [] fun ov' H' tr=>Ask (j3 tr.reverse (p::ps))/\WS P (nx+(g1::g2::gs).length) rest ov' fr H' K:=h
  rw[y6,List.reverse_nil] at h
  simp only[List.reverse_reverse] at h
  simp only[jD]
  refine jc.mono (gT hF (tr':=[]) (tr:=[]) trivial h) ?_
  rintro f1 H1 tr1 ⟨ov1,trj,h1,h2,h3⟩
  exact⟨h2.HM h3.1.ok,lQ h1 h3.2⟩
theorem Holds.less {w0:World} {M0:Nat->Prop} {c0:Cx} {lo n:Nat} {fr fr':Fr} {H:Hp} {nx:Nat} {a:Act} {w:World} (h:Holds w0 M0 c0 lo n fr H nx a w) (hf:∀t,cu fr' t= .any\/cu fr' t=cu fr t):Holds w0 M0 c0 lo n fr' H nx a w:=by
 obtain⟨h1,h2,ρ,U,hU,hS,hF,hT⟩:=h
 refine⟨h1,h2,ρ,U,hU,hS,fun t=> ?_,hT⟩
 rcases hf t with h|h
 ·rw[h,VR];trivial
 ·rw[h];exact hF t
theorem WL.less {n lo:Nat} {lc:LC} {fr:Fr} {H:Hp} {nx:Nat} {Q:QT} (h:WL P n lo lc fr H nx (fun e f H nx=>∃f',(∀t,cu f' t= .any\/cu f' t=cu f t)/\Q e f' H nx)):WL P n lo lc fr H nx Q:=
 fun code hc w0 M0 c0 a w hh=>Code.wp_mono (fun _ _ _ ⟨x,f,H,nx,he,⟨f',h1,h2⟩,hhh⟩=>⟨x,f',H,nx,he,h2,hhh.less h1⟩) (h code hc w0 M0 c0 a w hh)
theorem qy.less {f:Fr} {ov:Ov} {fr:Fr} (h:qy f ov fr) (t:Nat):cu (iV ov fr) t= .any\/cu (iV ov fr) t=cu f t:=by
 rcases pP (ov:=ov) (fr:=fr) (t:=t) with h1|⟨v,h1,h2⟩
 ·exact .inl h1
 ·have:=h t
  rw[h1] at this
  exact .inr (h2.trans this.symm)
theorem jC.of {segs:List vD} {fr:Fr} {H:Hp} {nx:Nat} {Q:QT} (h:WS P nx segs [] fr H fun ov H' nx'=>Q .normal (iV ov fr) H' nx'):jC P segs fr H nx Q:=
 ⟨fun _ _=>WL.less (WL.drawn (jD.mono (lQ (qy.refl fr) h) fun _ _ _ ⟨_,h1,h2⟩=>⟨_,h1.less,h2⟩))⟩
theorem fV {n lo:Nat}:∀{lc:LC} {fr:Fr} {H:Hp} {nx:Nat} {Q:QT},W P n lo lc fr H nx Q->WL P n lo lc fr H nx Q
 | .skip,_,_,_,_,h=>WL.skip h
 | .ret,_,_,_,_,h=>WL.ret h
 | .exit _,_,_,_,_,h=>WL.exit h
 | .region gs,fr,H,nx,Q,h=>WL.less (WL.region (fi.mono (fy (qy.refl fr) h) fun _ _ _ ⟨_,h1,h2⟩=>⟨_,h1.less,h2⟩))
 | .drawn segs,fr,H,nx,Q,h=>jC.ok (P:=P) h n lo
 | .seq a b,fr,H,nx,Q,h=>WL.seq ((fV (lc:=a) (Q:=jA (fun fr H nx=>W P n lo b fr H nx Q) Q) h).mono fun e fr H nx hh=>by
  cases e with
  |normal=>exact fV (lc:=b) hh
  |exit id=>exact hh
  |ret=>exact hh)
 | .cond c a b,fr,H,nx,Q,h=>by
  have h:BV c a b (W P n lo a) (W P n lo b) fr H nx Q:=h
  simp only[BV] at h
  split at h
  ·rename_i t ht
   exact WL.cond ht (fun h1=>fV (lc:=a) (h.ok.1 h1)) (fun h1=>fV (lc:=b) (h.ok.2 h1))
  ·rename_i ht
   exact WL.S6 ht (fV (lc:=a) h.1) (fV (lc:=b) h.2)
  ·exact h.elim
 | .block id a,fr,H,nx,Q,h=>WL.block (fV (lc:=a) h)
 | .loop a,fr,H,nx,Q,h=>h.ok
theorem jM.inv {n lo:Nat} {x:LC} {fr:Fr} {H:Hp} {nx:Nat} {Q:QT} {σ:Type} (I:σ->Fr->Hp->Nat->Prop) (μ:σ->Nat) (s0:σ) (h0:∃fr',(∀t,cu fr' t= .any\/cu fr' t=cu fr t)/\I s0 fr' H nx)
 (round:∀s fr H nx,I s fr H nx->WL P n lo x fr H nx (jA (fun fr' H' nx'=>∃s',μ s'<μ s/\∃fr2,(∀t,cu fr2 t= .any\/cu fr2 t=cu fr' t)/\I s' fr2 H' nx') Q)):jM P n lo x fr H nx Q:=by
 refine⟨fun code hc w0 M0 c0 a w hh=> ?_⟩
 have:∃c1,code= .loop c1/\dE P n c1=some x:=by
  cases code<;>simp only[dE] at hc
  case loop c1=>
   simp only[Option.map_eq_some_iff,LC.loop.injEq] at hc
   obtain⟨x',h1,rfl⟩:=hc
   exact⟨c1,rfl,h1⟩
  all_goals (exfalso;repeat' (split at hc))<;>simp at hc
 obtain⟨c1,rfl,h1⟩:=this
 intro b k cs
 have key:∀m,∀s,μ s=m->∀fr H nx,I s fr H nx->∀a w,Holds w0 M0 c0 lo n fr H nx a w->
  ∃e a' w',LQ w0 M0 c0 lo n Q e a' w'/\Arrives P (lone (b.at a (.code c1:: .inLoop c1::k)) cs w) b k cs e a' w':=by
  intro m
  induction m using Nat.strongRecOn with
  |_ m ih=>
   intro s hs fr H nx hI a w hh
   obtain⟨e,a1,w1,hq,harr⟩:=round s fr H nx hI c1 h1 w0 M0 c0 a w hh b (.inLoop c1::k) cs
   obtain⟨x',fr',H',nx',rfl,hQ,hh'⟩:=hq
   cases x' with
   |normal=>
    obtain⟨s',hlt,fr2,hless,hI'⟩:=hQ
    obtain⟨e2,a2,w2,hq2,harr2⟩:=ih (μ s') (by omega) s' rfl fr2 H' nx' hI' a1 w1 (hh'.less hless)
    exact⟨e2,a2,w2,hq2, .of_steps (Steps.trans harr (.one step_inLoop)) harr2⟩
   |exit id=>exact⟨_,a1,w1,⟨.exit id,fr',H',nx',rfl,hQ,hh'⟩, .pass (x:= .inLoop c1) rfl (fun _ _=> .inl (by simp[Ex.to])) harr⟩
   |ret=>exact⟨_,a1,w1,⟨.ret,fr',H',nx',rfl,hQ,hh'⟩, .pass (x:= .inLoop c1) rfl (fun _ _=> .inl (by simp[Ex.to])) harr⟩
 obtain⟨fr',hless,hI⟩:=h0
 obtain⟨e,a',w',hq,harr⟩:=key _ s0 rfl fr' H nx hI a w (hh.less hless)
 exact⟨e,a',w',hq, .of_steps (.one step_loop) harr⟩
def kb (fr:Fr):Fr->Prop
 |[]=>True
 |(t,v)::r=>cu fr t=v/\kb fr r
theorem iD {fr:Fr}:∀{fr':Fr},kb fr fr'->∀t,cu fr' t= .any\/cu fr' t=cu fr t
 |[],_,t=> .inl rfl
 |(d,v)::r,h,t=>by
  simp only[cu]
  by_cases ht:t=d
  ·subst ht;rw[if_pos rfl];exact .inr h.1.symm
  ·rw[if_neg ht];exact iD h.2 t
theorem jM.fr {n lo:Nat} {x:LC} {fr:Fr} {H:Hp} {nx:Nat} {Q:QT} {σ:Type} (F:σ->Fr) (I:σ->Hp->Nat->Prop) (μ:σ->Nat) (s0:σ) (h0:kb fr (F s0)) (h1:I s0 H nx)
 (round:∀s H nx,I s H nx->W P n lo x (F s) H nx (jA (fun fr' H' nx'=>∃s',μ s'<μ s/\kb fr' (F s')/\I s' H' nx') Q)):jM P n lo x fr H nx Q:=by
 refine jM.inv (fun s fr H nx=>fr=F s/\I s H nx) μ s0 ⟨F s0,iD h0,rfl,h1⟩ ?_
 rintro s fr H nx ⟨rfl,hI⟩
 refine(fV (round s H nx hI)).mono ?_
 intro e fr' H' nx' hh
 cases e with
 |normal=>
  obtain⟨s',h2,h3,h4⟩:=hh
  exact⟨s',h2,F s',iD h3,rfl,h4⟩
 |exit id=>exact hh
 |ret=>exact hh
end
end Go.dA
end
