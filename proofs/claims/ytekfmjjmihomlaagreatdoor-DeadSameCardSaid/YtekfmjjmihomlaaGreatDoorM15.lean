import Derived.Test.YtekfmjjmihomlaaGreatDoorM9
section
/- A run by reduction alone: the code is walked by the reducer; what is to be shown stands out as questions. -/
set_option linter.unusedSimpArgs false
set_option linter.unusedVariables false
namespace Go.cw
open Go.RowKit
structure Ask (p:Prop):Prop where
 ok:p
def dz:Option Bool->Prop->Prop
 |none,p=>Ask p
 |some g,p=>Ask (g=true->p)
def Gd:Option Bool->Prop
 |none=>True
 |some g=>g=true
theorem cV {g:Option Bool} {p:Prop}:dz g p↔(Gd g->p):=by
 cases g with
 |none=>exact⟨fun h _=>h.ok,fun h=>⟨h trivial⟩⟩
 |some g=>exact⟨fun h=>h.ok,fun h=>⟨h⟩⟩
abbrev Ov:=List (Nat×Option Bool×AV)
def qm:Ov->Fr->Nat->Option Bool×AV
 |[],fr,t=>(none,cd fr t)
 |(d,c,v)::r,fr,t=>bif Nat.beq t d then(c,v) else qm r fr t
def iJ (ov:Ov) (d:Option Nat) (c:Option Bool) (v:AV):Ov:=
 match d with
 |some d=>(d,c,v)::ov
 |none=>ov
def iT:Ov->Fr->Fr
 |[],fr=>fr
 |(d,none,v)::r,fr=>(d,v)::iT r fr
 |(d,some _,_)::r,fr=>(d, .any)::iT r fr
def fO (ov:Ov) (fr:Fr):eE->Option Bool×AV
 | .t n=>qm ov fr n
 | .c v=>(none, .sc v)
 | .f n=>(none, .fn (.func n) [] [])
 | .m nm n=>match qm ov fr n with
  |(g, .mq t v)=>(g, .fn (.method nm) [.mq t v] [])
  |(g,_)=>(g, .any)
theorem s7 {t d:Nat} (h:¬t=d):Nat.beq t d=false:=by
 cases hb:Nat.beq t d with
 |false=>rfl
 |true=>exact absurd (Nat.eq_of_beq_eq_true hb) h
def q8 (f:Fr) (ov:Ov) (fr:Fr):Prop:=
 ∀t,match qm ov fr t with
  |(none,v)=>cd f t=v
  |(some q,v)=>(q=true->cd f t=v)/\(q=false->cd f t= .sc undef)
theorem q8.refl (fr:Fr):q8 fr [] fr:=fun _=>rfl
theorem q8.put {f:Fr} {ov:Ov} {fr:Fr} (h:q8 f ov fr) (d:Option Nat) (v:AV):q8 (fZ f d v) (iJ ov d none v) fr:=by
 cases d with
 |none=>exact h
 |some d=>
  intro t
  simp only[iJ,fZ,qm,cd]
  by_cases ht:t=d
  ·subst ht;simp
  ·have:Nat.beq t d=false:=s7 ht
   rw[this,if_neg ht];exact h t
theorem q8.ud {f:Fr} {ov:Ov} {fr:Fr} (h:q8 f ov fr) (d:Option Nat) {q:Bool} {u v:AV} (h1:q=true->u=v) (h2:q=false->u= .sc undef):q8 (fZ f d u) (iJ ov d (some q) v) fr:=by
 cases d with
 |none=>exact h
 |some d=>
  intro t
  simp only[iJ,fZ,qm,cd]
  by_cases ht:t=d
  ·subst ht;simpa using⟨h1,h2⟩
  ·have:Nat.beq t d=false:=s7 ht
   rw[this,if_neg ht];exact h t
theorem q8.raw {f:Fr} {ov:Ov} {fr:Fr} (h:q8 f ov fr) (x:eE) (hq:∀q,(fO ov fr x).1=some q->q=true):ev f x=(fO ov fr x).2:=by
 cases x with
 |t n=>
  have:=h n
  simp only[ev,fO] at hq ⊢
  split at this
  ·rename_i v he;rw[this,he]
  ·rename_i q v he;rw[he] at hq ⊢;exact this.1 (hq q rfl)
 |c v=>rfl
 |f n=>rfl
 |m nm n=>
  have:=h n
  simp only[ev,fO] at hq ⊢
  generalize qm ov fr n=x at this hq ⊢
  obtain⟨g,v⟩:=x
  have hv:cd f n=v:=by
   cases g with
   |none=>exact this
   |some q=>
    refine this.1 (hq q ?_)
    cases v<;>rfl
  rw[hv]
  cases v<;>rfl
theorem og {fr:Fr} {t:Nat}:∀{ov:Ov},cd (iT ov fr) t= .any\/∃v,qm ov fr t=(none,v)/\cd (iT ov fr) t=v
 |[]=> .inr ⟨_,rfl,rfl⟩
 |(d,none,v)::r=>by
  simp only[iT,cd,qm]
  by_cases ht:t=d
  ·subst ht;simp
  ·have:Nat.beq t d=false:=s7 ht
   rw[this,if_neg ht];exact og
 |(d,some q,v)::r=>by
  simp only[iT,cd,qm]
  by_cases ht:t=d
  ·subst ht;simp
  ·have:Nat.beq t d=false:=s7 ht
   rw[this,if_neg ht];exact og
abbrev Raw:=eE->Option Bool×AV
def dA (g:Option Bool) (R:Raw) (x:eE) (K:AV->Prop):Prop:=
 match R x with
 |(none,v)=>K v
 |(some q,v)=>dz g (q=true)/\K v
def JV (R:Raw) (x:eE):Prop:=∀q,(R x).1=some q->q=true
theorem cM {g:Option Bool} {R:Raw} {x:eE} {K:AV->Prop} (h:dA g R x K):(Gd g->JV R x)/\K (R x).2:=by
 unfold dA at h
 split at h
 ·rename_i v he;rw[he];exact⟨fun _ q hq=>(by rw[he] at hq;cases hq),h⟩
 ·rename_i q v he
  rw[he]
  exact⟨fun hg q' hq=>(by rw[he] at hq;cases hq;exact cV.1 h.1 hg),h.2⟩
def DF (K:List AV->Prop):Prop:=K []
def yr (g:Option Bool) (R:Raw) (x:eE) (_:List eE) (ih:(List AV->Prop)->Prop) (K:List AV->Prop):Prop:=dA g R x fun a=>ih fun as=>K (a::as)
noncomputable def kW (g:Option Bool) (R:Raw) (xs:List eE):(List AV->Prop)->Prop:=List.rec (motive:=fun _=>(List AV->Prop)->Prop) DF (yr g R) xs
theorem fR {g:Option Bool} {R:Raw}:∀{xs:List eE} {K:List AV->Prop},kW g R xs K->(Gd g->∀x∈xs,JV R x)/\K (xs.map fun x=>(R x).2)
 |[],K,h=>⟨fun _ _ h=>(by cases h),h⟩
 |x::r,K,h=>by
  obtain⟨h1,h2⟩:=cM h
  obtain⟨h3,h4⟩:=fR h2
  refine⟨fun hg y hy=> ?_,h4⟩
  rcases List.mem_cons.1 hy with rfl|hy
  ·exact h1 hg
  ·exact h3 hg y hy
theorem lg {f:Fr} {R:Raw}:∀{xs:List eE},(∀x∈xs,ev f x=(R x).2)->rZ f xs=xs.map fun x=>(R x).2
 |[],_=>rfl
 |x::r,h=>by
  simp only[rZ,List.map_cons]
  rw[h x (by simp),lg fun y hy=>h y (by simp[hy])]
def gI (v:AV) (K:AV->Prop):Prop:=
 match v with
 | .sc v=>K (.sc v)
 | .any=>K .any
 | .im a b c=>K (.im a b c)
 | .ip a b c d e=>K (.ip a b c d e)
 | .sl a b=>K (.sl a b)
 | .pt a b c d=>K (.pt a b c d)
 | .zc=>K .zc
 | .agg a=>K (.agg a)
 | .df a=>K (.df a)
 | .fn a b c=>K (.fn a b c)
 | .mq a b=>K (.mq a b)
 | .mp a=>K (.mp a)
 | .ab=>K .ab
 | .sv a b c d=>K (.sv a b c d)
theorem fC (v:AV) (K:AV->Prop):gI v K=K v:=by cases v<;>rfl
def DI (K:List AV->Prop):Prop:=K []
def zB (a:AV) (_:List AV) (ih:(List AV->Prop)->Prop) (K:List AV->Prop):Prop:=ih fun r'=>K (a::r')
noncomputable def ql (l:List AV):(List AV->Prop)->Prop:=List.rec (motive:=fun _=>(List AV->Prop)->Prop) DI zB l
theorem iz:∀(l:List AV) (K:List AV->Prop),ql l K=K l
 |[],_=>rfl
 |a::r,K=>iz r fun r'=>K (a::r')
structure gU (H:Hp) (b:Nat) (K:TypeId->Nat->AV->List AV->Prop):Prop where
 ok:∃e sz d es,bo H b=some (.row e sz d es)/\K e sz d es
theorem gU.of {H:Hp} {b:Nat} {K:TypeId->Nat->AV->List AV->Prop} {e:TypeId} {sz:Nat} {d:AV} {es:List AV} (h:bo H b=some (.row e sz d es)) (k:K e sz d es):gU H b K:=⟨⟨e,sz,d,es,h,k⟩⟩
structure q7 (es:List AV) (i:Nat) (d:AV) (K:AV->Prop):Prop where
 ok:K (es.getD i d)
theorem q7.of {es:List AV} {i:Nat} {d:AV} {K:AV->Prop} {e:AV} (h:es.getD i d=e) (k:K e):q7 es i d K:=⟨by rw[h];exact k⟩
structure jd {α:Type} (x:Option α) (K:α->Prop):Prop where
 ok:∃a,x=some a/\K a
theorem jd.of {α:Type} {x:Option α} {K:α->Prop} {a:α} (h:x=some a) (k:K a):jd x K:=⟨⟨a,h,k⟩⟩
structure je {α:Type} (g:Option Bool) (x:Option α) (K:α->Prop):Prop where
 ok:∃a,(Gd g->x=some a)/\K a
theorem je.of {α:Type} {g:Option Bool} {x:Option α} {K:α->Prop} {a:α} (h:Gd g->x=some a) (k:K a):je g x K:=⟨⟨a,h,k⟩⟩
structure rQ (H:Hp) (b:Nat) (K:TypeId->AV->List AV->Prop):Prop where
 ok:∃e d es,bo H b=some (.row e 0 d (mapA es))/\K e d es
theorem rQ.of {H:Hp} {b:Nat} {K:TypeId->AV->List AV->Prop} {e:TypeId} {d:AV} {es:List AV} (h:bo H b=some (.row e 0 d (mapA es))) (k:K e d es):rQ H b K:=⟨⟨e,d,es,h,k⟩⟩
def HH (H:Hp) (v:AV) (K:Nat->TypeId->AV->List AV->Prop):Prop:=
 match v with
 | .mp b=>rQ H b (K b)
 |_=>False
theorem lX {H:Hp} {v:AV} {K:Nat->TypeId->AV->List AV->Prop} (h:HH H v K):∃b e d es,mapOf H v=some (b,e,d,es)/\K b e d es:=by
 cases v<;>simp only[HH] at h
 obtain⟨e,d,es,h1,h2⟩:=h.ok
 exact⟨_,e,d,es,by simp only[mapOf,h1,mapA],h2⟩
structure vI (g:Option Bool) (k:IntKind) (n:Int) (K:Int->Prop):Prop where
 ok:∃m,(Gd g->k.wrap n=m)/\K m
theorem vI.of {g:Option Bool} {k:IntKind} {n:Int} {K:Int->Prop} {m:Int} (h:Gd g->k.wrap n=m) (hK:K m):vI g k n K:=⟨⟨m,h,hK⟩⟩
section
variable (g:Option Bool) (H:Hp)
def ZF (ag:Bool) (k:Nat) (e:AV) (sz off:Nat) (K:AV->Prop):Prop:=
 match ag with
 |true=>match e with
  | .agg cs=>bif Nat.beq off 0&&Nat.beq k sz then K (.agg cs) else dz g (off+k<=cs.length)/\K (.agg ((cs.drop off).take k))
  |_=>False
 |false=>match e with
  | .agg cs=>q7 cs off .any fun v=>gI v K
  | .any=>K .any
  |e=>bif one e then gI e K else False
def lookW (v:AV) (K:Nat->AV->Nat->Prop):Prop:=
 match v with
 | .ip sz d es i off=>q7 es i d fun e=>K sz e off
 | .pt b len i off=>gU H b fun _ sz d es=>dz g (es.length=len)/\q7 es i d fun e=>K sz e off
 |_=>False
def tV (k:Nat) (v:AV) (K:List AV->Prop):Prop:=
 match v with
 | .im sz _ es=>bif Nat.beq sz k then K es else False
 | .sl b len=>gU H b fun _ sz _ es=>dz g (es.length=len/\sz=k)/\K es
 | .sc (.slice none 0 0)=>K []
 | .zc=>K []
 | .sv b len lo n=>gU H b fun _ sz _ es=>dz g (es.length=len/\sz=k)/\K ((es.drop lo).take n)
 |_=>False
noncomputable def qS (R:Raw) (id:Nat) (op:dJ) (K:AV->Option (Nat×fA)->Prop):Prop:=
 match op with
 | .mv x=>dA g R x fun a=>gI a fun a=>K a none
 | .pick c a b=>dA g R c fun v=>match v with
  | .sc (.bool t)=>
   let rest:=fun(_:Unit)=>gI (qJ t (R a).2 (R b).2) fun v=>K v none
   let r2:=fun(_:Unit)=>match(R b).1 with
    |none=>rest ()
    |some q=>dz g (t=false->q=true)/\rest ()
   match(R a).1 with
   |none=>r2 ()
   |some q=>dz g (t=true->q=true)/\r2 ()
  |_=>False
 | .alloc e sz ag z=>dz g (z.length=sz)/\K (.pt id 1 0 0) (some (id, .row e sz (gl ag z) [gl ag z]))
 | .box e sz ag x=>dA g R x fun v=>dz g (fits ag sz v=true)/\K (.pt id 1 0 0) (some (id, .row e sz .any [v]))
 | .WX z parts=>kW g R (parts.map (·.2.2)) fun as=>jd (re (z.map .sc) (List.zipWith (fun p a=>(p.1,p.2.1,a)) parts as)) fun cs=>K (.agg cs) none
 | .UA e sz ag z n parts=>kW g R (parts.map (·.2)) fun as=>
  dz g (z.length=sz/\(List.zipWith (fun p a=>(p.1,a)) parts as).all (fun p=>decide (p.1<n)&&fits ag sz p.2)=true)/\
  K (.sl id n) (some (id, .row e sz (gl ag z) ((List.zipWith (fun p a=>(p.1,a)) parts as).foldl (fun l p=>l.set p.1 p.2) (List.replicate n (gl ag z)))))
 | .ld ag k x=>dA g R x fun v=>lookW g H v fun sz e off=>ZF g ag k e sz off fun r=>K r none
 | .st ag k x y=>dA g R x fun v=>dA g R y fun yv=>match v with
  | .pt b len i off=>gU H b fun e sz d es=>dz g (es.length=len)/\q7 es i d fun gW=>jd (WH ag k gW yv sz off) fun e'=>K .any (some (b, .row e sz d (es.set i e')))
  |_=>False
 | .V1 x=>dA g R x fun v=>match v with
  | .pt b len i off=>K (.pt b len i off) none
  | .ip sz d es i off=>K (.ip sz d es i off) none
  | .fn (.func f) p q=>K (.fn (.func f) p q) none
  | .mq t v=>K (.mq t v) none
  |_=>False
 | .bin op x y=>dA g R x fun a=>dA g R y fun b=>match op,a,b with
  | .add, .sc (.int k a), .sc (.int k' b)=>dz g (k=k')/\vI g k (a+b) fun m=>K (.sc (.int k m)) none
  | .sub, .sc (.int k a), .sc (.int k' b)=>dz g (k=k')/\vI g k (a - b) fun m=>K (.sc (.int k m)) none
  | .mul, .sc (.int k a), .sc (.int k' b)=>dz g (k=k')/\vI g k (a * b) fun m=>K (.sc (.int k m)) none
  | .eql, .sc (.int k a), .sc (.int k' b)=>dz g (k=k')/\K (.sc (.bool (decide (a=b)))) none
  | .neq, .sc (.int k a), .sc (.int k' b)=>dz g (k=k')/\K (.sc (.bool (decide (a≠b)))) none
  | .lss, .sc (.int k a), .sc (.int k' b)=>dz g (k=k')/\K (.sc (.bool (decide (a<b)))) none
  | .leq, .sc (.int k a), .sc (.int k' b)=>dz g (k=k')/\K (.sc (.bool (decide (a<=b)))) none
  | .gtr, .sc (.int k a), .sc (.int k' b)=>dz g (k=k')/\K (.sc (.bool (decide (b<a)))) none
  | .geq, .sc (.int k a), .sc (.int k' b)=>dz g (k=k')/\K (.sc (.bool (decide (b<=a)))) none
  | .quo, .sc (.int k a), .sc (.int k' b)=>dz g (k=k'/\b≠0)/\K (.sc (.int k (k.wrap (a.tdiv b)))) none
  | .rem, .sc (.int k a), .sc (.int k' b)=>dz g (k=k'/\b≠0)/\K (.sc (.int k (a.tmod b))) none
  | .and, .sc (.int k a), .sc (.int k' b)=>dz g (k=k')/\K (.sc (.int k (k.wrap (BitVec.ofInt k.bits a&&& BitVec.ofInt k.bits b).toNat))) none
  | .or, .sc (.int k a), .sc (.int k' b)=>dz g (k=k')/\K (.sc (.int k (k.wrap (BitVec.ofInt k.bits a|||BitVec.ofInt k.bits b).toNat))) none
  | .xor, .sc (.int k a), .sc (.int k' b)=>dz g (k=k')/\K (.sc (.int k (k.wrap (BitVec.ofInt k.bits a^^^BitVec.ofInt k.bits b).toNat))) none
  | .andNot, .sc (.int k a), .sc (.int k' b)=>dz g (k=k')/\K (.sc (.int k (k.wrap (BitVec.ofInt k.bits a&&& ~~~(BitVec.ofInt k.bits b)).toNat))) none
  | .shl, .sc (.int k a), .sc (.int _ b)=>dz g (0<=b)/\K (.sc (.int k (k.wrap (a * 2^(min b.toNat k.bits))))) none
  | .shr, .sc (.int k a), .sc (.int _ b)=>dz g (0<=b)/\K (.sc (.int k (a.fdiv (2^(min b.toNat k.bits))))) none
  |_,_,_=>False
 | .WY neg x y=>dA g R x fun a=>dA g R y fun b=>match a,b with
  | .sc (.bool p), .sc (.bool q)=>(match neg with
   |true=>K (.sc (.bool (p != q))) none
   |false=>K (.sc (.bool (p==q))) none)
  |_,_=>False
 | .wD neg x y=>dA g R x fun a=>dA g R y fun b=>match a,b with
  | .sc (.string p), .sc (.string q)=>(match neg with
   |true=>K (.sc (.bool (p != q))) none
   |false=>K (.sc (.bool (p==q))) none)
  |_,_=>False
 | .HX op x y=>dA g R x fun a=>dA g R y fun b=>match a,b with
  | .sc (.string p), .sc (.string q)=>(match op with
   | .add=>dz g (p.size+q.size<=9223372036854775807)/\K (.sc (.string (p++q))) none
   | .lss=>K (.sc (.bool (Op.bytesLess p.toList q.toList))) none
   |_=>False)
  |_,_=>False
 | .RP sz ag z x=>dA g R x fun v=>match v with
  | .sv b len lo n=>gU H b fun e s d es=>dz g (es.length=len/\s=sz/\lo+n<=len)/\K (.df []) (some (b, .row e s d (es.take lo++List.replicate n (gl ag z)++es.drop (lo+n))))
  |_=>False
 | .VA x=>dA g R x fun v=>tV g H 1 v fun xs=>je g (l4 xs) fun ns=>K (.sc (.string (TQ ns))) none
 | .un op x=>dA g R x fun a=>match op,a with
  | .not, .sc (.bool b)=>K (.sc (.bool !b)) none
  | .neg, .sc (.int k n)=>vI g k (0 - n) fun m=>K (.sc (.int k m)) none
  |_,_=>False
 | .XI k x=>dA g R x fun a=>match a with
  | .sc (.int _ n)=>vI g k n fun m=>K (.sc (.int k m)) none
  |_=>False
 | .fa off x=>dA g R x fun a=>match a with
  | .ip sz d es i o=>dz g (o+off<sz)/\K (.ip sz d es i (o+off)) none
  | .pt b len i o=>gU H b fun _ sz _ es=>dz g (es.length=len/\o+off<sz)/\K (.pt b len i (o+off)) none
  |_=>False
 | .ia k n x i=>dA g R x fun v=>dA g R i fun iv=>match iv with
  | .sc (.int _ j)=>
   (match n with
    |none=>match v with
     | .im sz d es=>dz g (k=sz)/\dz g (0<=j/\j<es.length)/\K (.ip sz d es j.toNat 0) none
     | .sl b len=>gU H b fun _ sz _ es=>dz g (es.length=len/\k=sz)/\dz g (0<=j/\j<len)/\K (.pt b len j.toNat 0) none
     | .sv b len lo m=>gU H b fun _ sz _ es=>dz g (es.length=len/\k=sz)/\dz g (0<=j/\j<m)/\K (.pt b len (lo+j.toNat) 0) none
     |_=>False
    |some m=>match v with
     | .ip sz d es i off=>dz g (off+m * k<=sz)/\dz g (0<=j/\j<m)/\K (.ip sz d es i (off+j.toNat * k)) none
     | .pt b len i off=>gU H b fun _ sz _ es=>dz g (es.length=len/\off+m * k<=sz)/\dz g (0<=j/\j<m)/\K (.pt b len i (off+j.toNat * k)) none
     |_=>False)
  |_=>False
 | .XO off k ag x=>dA g R x fun v=>match v with
  | .agg cs=>(match ag with
   |true=>dz g (off+k<=cs.length)/\K (.agg ((cs.drop off).take k)) none
   |false=>dz g (off+k<=cs.length/\k=1)/\q7 cs off .any fun v=>gI v fun v=>K v none)
  |_=>False
 | .ix k ag n x i=>dA g R x fun v=>dA g R i fun iv=>match v,iv with
  | .agg cs, .sc (.int _ j)=>dz g (n * k=cs.length)/\dz g (0<=j/\j<n)/\(match ag with
   |true=>K (.agg ((cs.drop (j.toNat * k)).take k)) none
   |false=>dz g (k=1)/\q7 cs (j.toNat * k) .any fun v=>gI v fun v=>K v none)
  |_,_=>False
 | .XX x i=>dA g R x fun v=>dA g R i fun iv=>match v,iv with
  | .sc (.string s), .sc (.int _ j)=>dz g (0<=j/\j<s.size)/\K (.sc (.int .u8 (s.data.toList.getD j.toNat 0).toNat)) none
  |_,_=>False
 | .lens x=>dA g R x fun v=>match v with
  | .sc (.string s)=>K (.sc (.int .i64 s.size)) none
  |_=>False
 | .VZ e sz bytes ag z l c=>dA g R l fun lv=>dA g R c fun cv=>match lv,cv with
  | .sc (.int _ n), .sc (.int _ m)=>dz g (z.length=sz/\n=m)/\dz g (0<=n/\n * bytes<=281474976710656/\n<=9223372036854775807)/\
   K (.sl id n.toNat) (some (id, .row e sz (gl ag z) (List.replicate n.toNat (gl ag z))))
  |_,_=>False
 | .ext i x=>dA g R x fun v=>match v with
  | .df vs=>dz g (i<vs.length)/\q7 vs i .any fun v=>gI v fun v=>K v none
  |_=>False
 | .W3 f first caps=>kW g R first fun a=>kW g R caps fun b=>K (.fn f a b) none
 | .X7 t x=>dA g R x fun v=>K (.mq t v) none
 | .len x=>dA g R x fun v=>match v with
  | .im _ _ es=>K (.sc (.int .i64 (es.length:Int))) none
  | .sl b len=>gU H b fun _ _ _ es=>dz g (es.length=len)/\K (.sc (.int .i64 (len:Int))) none
  | .sc (.slice none 0 0)=>K (.sc (.int .i64 0)) none
  | .zc=>K (.sc (.int .i64 0)) none
  | .sv _ _ _ n=>K (.sc (.int .i64 (n:Int))) none
  |_=>False
 | .app e sz bytes ag z s x=>dA g R s fun sv=>dA g R x fun xv=>tV g H sz xv fun xs=>dz g (z.length=sz)/\match sv with
  | .sc (.slice none 0 0)=>dz g (xs.length * bytes<=gV)/\K (.sl id xs.length) (some (id, .row e sz (gl ag z) xs))
  | .sl b len=>gU H b fun e' sz' d es=>dz g (es.length=len/\e'=e/\sz'=sz)/\dz g ((len+xs.length) * bytes<=gV)/\K (.sl b (len+xs.length)) (some (b, .row e sz d (es++xs)))
  |_=>False
 | .LA e bytes z s x=>dA g R s fun sv=>dA g R x fun xv=>match xv with
  | .sc (.string q)=>(match sv with
   | .sc (.slice none 0 0)=>dz g ((cO q).length * bytes<=gV)/\K (.sl id (cO q).length) (some (id, .row e 1 z (cO q)))
   | .sl b len=>gU H b fun e' sz' d es=>dz g (es.length=len/\e'=e/\sz'=1)/\dz g ((len+(cO q).length) * bytes<=gV)/\K (.sl b (len+(cO q).length)) (some (b, .row e 1 d (es++cO q)))
   |_=>False)
  |_=>False
 | .JS neg x=>dA g R x fun v=>match v with
  | .pt _ _ _ _=>K (.sc (.bool neg)) none
  | .ip _ _ _ _ _=>K (.sc (.bool neg)) none
  | .sc (.pointer none)=>K (.sc (.bool !neg)) none
  |_=>False
 | .BK neg x=>dA g R x fun v=>jd (uX H v) fun t=>gI (sH neg t) fun v=>K v none
 | .eqs neg ks x y=>dA g R x fun a=>dA g R y fun b=>match a,b with
  | .agg as, .agg bs=>jd (L6 ks as bs) fun t=>(match neg with
   |true=>K (.sc (.bool !t)) none
   |false=>K (.sc (.bool t)) none)
  |_,_=>False
 | .T8 e n=>K (.pt id n 0 0) (some (id, .row e 1 (.sc (.int .u8 0)) (List.replicate n (.sc (.int .u8 0)))))
 | .bad=>False
 | .VQ n x i=>dA g R x fun v=>dA g R i fun iv=>match v,iv with
  | .pt b len 0 0, .sc (.int _ j)=>gU H b fun _ sz _ es=>dz g (len=n/\es.length=n/\sz=1)/\dz g (0<=j/\j<n)/\K (.pt b n j.toNat 0) none
  |_,_=>False
 | .WA n x i=>dA g R x fun v=>dA g R i fun iv=>match v,iv with
  | .pt b len 0 0, .sc (.int _ j)=>gU H b fun _ sz _ es=>dz g (len=n/\es.length=n/\sz=1)/\dz g (0<=j/\j<n)/\K (.sv b n j.toNat (n - j.toNat)) none
  |_,_=>False
 | .W4 sz x h m=>dA g R x fun v=>dA g R h fun a=>dA g R m fun b=>jd (KA sz a b v) fun r=>gI r fun r=>K r none
 | .TK sz x lo hi=>dA g R x fun v=>kW g R (lo.toList++hi.toList) fun bs=>
  jd (ui H sz (match lo with|some _=>bs[0]?|none=>none) (match hi with|some _=>(match lo with|some _=>bs[1]?|none=>bs[0]?)|none=>none) v) fun r=>gI r fun r=>K r none
 | .RW sz x y=>dA g R x fun xv=>dA g R y fun yv=>match xv with
  | .sl b len=>tV g H sz yv fun xs=>gU H b fun e s d es=>dz g (es.length=len/\s=sz)/\
   K (.sc (.int .i64 (Nat.min xs.length len:Nat))) (some (b, .row e s d (xs.take (Nat.min xs.length len)++es.drop (Nat.min xs.length len))))
  |_=>False
 | .call _ _=>False
 | .UK kt=>K (.mp id) (some (id, .row kt 0 .any (mapA [])))
 | .SS str ag z ok x k=>dA g R x fun v=>dA g R k fun kv=>match kv with
  | .sc kv=>HH H v fun _ _ _ es=>dz g (lK str kv=true)/\je g (qB str kv es (gl ag z)) fun p=>match ok with
   |true=>K (.df [p.1, .sc (.bool p.2)]) none
   |false=>gI p.1 fun v=>K v none
  |_=>False
 | .KU str x k y=>dA g R x fun v=>dA g R k fun kv=>dA g R y fun yv=>match kv with
  | .sc kv=>HH H v fun b e d es=>dz g (lK str kv=true)/\je g (sO str kv es yv) fun es'=>K .any (some (b, .row e 0 d (mapA es')))
  |_=>False
 | .DZ x=>dA g R x fun v=>HH H v fun _ _ _ es=>K (.sc (.int .i64 (es.length:Nat))) none
 | .del str x k=>dA g R x fun v=>dA g R k fun kv=>match kv with
  | .sc kv=>HH H v fun b e d es=>dz g (lK str kv=true)/\je g (PE str kv es) fun es'=>K (.df []) (some (b, .row e 0 d (mapA es')))
  |_=>False
 | .HW sz v=>K (.agg (List.replicate sz (.sc v))) none
 | .y9 e sz v=>K (.pt id 1 0 0) (some (id, .row e sz (.agg (List.replicate sz (.sc v))) [.agg (List.replicate sz (.sc v))]))
 | .YG t ok ag z x=>dA g R x fun v=>match v with
  | .mq t' v=>(bif Nat.beq t' t then(match ok with
   |true=>K (.df [v, .sc (.bool true)]) none
   |false=>gI v fun v=>K v none) else(match ok with
   |true=>K (.df [gl ag z, .sc (.bool false)]) none
   |false=>False))
  |_=>False
end
theorem F9 {f:Fr} {R:Raw}:∀{ps:List (Nat×Nat×eE)},(∀x∈ps.map (·.2.2),ev f x=(R x).2)->UE f ps=List.zipWith (fun p a=>(p.1,p.2.1,a)) ps ((ps.map (·.2.2)).map fun x=>(R x).2)
 |[],_=>rfl
 |(i,j,x)::ps,h=>by
  simp only[UE,List.map_cons,List.zipWith_cons_cons]
  rw[h x (by simp),F9 fun y hy=>h y (by simp only[List.map_cons,List.mem_cons];exact .inr hy)]
theorem GB {f:Fr} {R:Raw}:∀{ps:List (Nat×eE)},(∀x∈ps.map (·.2),ev f x=(R x).2)->GA f ps=List.zipWith (fun p a=>(p.1,a)) ps ((ps.map (·.2)).map fun x=>(R x).2)
 |[],_=>rfl
 |(i,x)::ps,h=>by
  simp only[GA,List.map_cons,List.zipWith_cons_cons]
  rw[h x (by simp),GB fun y hy=>h y (by simp only[List.map_cons,List.mem_cons];exact .inr hy)]
theorem JC {g:Option Bool} {ag:Bool} {k:Nat} {e:AV} {sz off:Nat} {K:AV->Prop} (h:ZF g ag k e sz off K):∃r,K r/\(Gd g->zg ag k e sz off=some r):=by
 unfold ZF at h
 cases ag with
 |true=>
  simp only at h
  cases e
  case agg cs=>
   simp only at h
   by_cases hb:off=0/\k=sz
   ·have hb':(Nat.beq off 0&&Nat.beq k sz)=true:=by
     obtain⟨rfl,rfl⟩:=hb;simp
    rw[hb'] at h
    exact⟨_,h,fun _=>by simp[zg,hb.1,hb.2]⟩
   ·have hb':(Nat.beq off 0&&Nat.beq k sz)=false:=by
     cases hc:(Nat.beq off 0&&Nat.beq k sz) with
     |false=>rfl
     |true=>
      rw[Bool.and_eq_true] at hc
      exact absurd ⟨Nat.eq_of_beq_eq_true hc.1,Nat.eq_of_beq_eq_true hc.2⟩ hb
    rw[hb'] at h
    simp only[cond_false] at h
    refine⟨_,h.2,fun hg=> ?_⟩
    have h1:=cV.1 h.1 hg
    simp only[zg,if_true]
    rw[if_neg hb,if_pos h1]
  all_goals exact h.elim
 |false=>
  have gen:∀e:AV,(bif one e then gI e K else False)->(zg false k e sz off=if one e then some e else none)->∃r,K r/\(Gd g->zg false k e sz off=some r):=by
   intro e h1 h2
   cases ho:one e with
   |true=>rw[ho,cond_true,fC] at h1;exact⟨_,h1,fun _=>by rw[h2,ho];rfl⟩
   |false=>rw[ho] at h1;exact h1.elim
  cases e
  case agg cs=>
   simp only at h
   have:=h.ok
   rw[fC] at this
   exact⟨_,this,fun _=>by simp[zg]⟩
  case any=>exact⟨_,h,fun _=>by simp[zg]⟩
  all_goals exact gen _ h rfl
theorem A7 {g:Option Bool} {H:Hp} {v:AV} {K:Nat->AV->Nat->Prop} (h:lookW g H v K):∃sz e off,K sz e off/\(Gd g->kJ H v=some (sz,e,off)):=by
 unfold lookW at h
 split at h
 ·exact⟨_,_,_,h.ok,fun _=>rfl⟩
 ·obtain⟨e,sz,d,es,h1,h2,h3⟩:=h.ok
  refine⟨_,_,_,h3.ok,fun hg=> ?_⟩
  simp only[kJ,h1]
  rw[if_pos (cV.1 h2 hg)]
 ·exact h.elim
theorem la {g:Option Bool} {H:Hp} {k:Nat} {v:AV} {K:List AV->Prop} (h:tV g H k v K):∃es,K es/\(Gd g->iN H v=some es/\CA H k v=true):=by
 unfold tV at h
 split at h
 ·rename_i sz d es
  cases hb:Nat.beq sz k with
  |true=>rw[hb] at h;exact⟨_,h,fun _=>⟨rfl,by simpa[CA] using hb⟩⟩
  |false=>rw[hb] at h;exact h.elim
 ·obtain⟨e,sz,d,es,h1,h2,h3⟩:=h.ok
  refine⟨_,h3,fun hg=> ?_⟩
  obtain⟨g1,g2⟩:=cV.1 h2 hg
  simp[iN,CA,h1,g1,g2]
 ·exact⟨_,h,fun _=>⟨rfl,rfl⟩⟩
 ·exact⟨_,h,fun _=>⟨rfl,rfl⟩⟩
 ·obtain⟨e,sz,d,es,h1,h2,h3⟩:=h.ok
  refine⟨_,h3,fun hg=> ?_⟩
  obtain⟨g1,g2⟩:=cV.1 h2 hg
  simp[iN,CA,h1,g1,g2]
 ·exact h.elim
set_option maxHeartbeats 4000000 in
theorem kQ {g:Option Bool} {H:Hp} {R:Raw} {id:Nat} {op:dJ} {K:AV->Option (Nat×fA)->Prop} (h:qS g H R id op K):
 ∃r u,K r u/\(Gd g->(op.rd=true->∀x∈op.eI,JV R x)/\∀f,(∀x,JV R x->ev f x=(R x).2)->cA id f H op=some (r,u)):=by
 cases op
 case mv x=>
  obtain⟨h1,h2⟩:=cM h
  rw[fC] at h2
  exact⟨_,_,h2,fun hg=>⟨fun hr=>by simp[dJ.rd] at hr,fun f hf=>by simp only[cA,hf x (h1 hg)]⟩⟩
 case pick c a b=>
  obtain⟨h1,h2⟩:=cM h
  split at h2
  ·rename_i t ht
   simp only[fC] at h2
   have key:∀{q:Option Bool} {p:Prop} {A:Prop},(match q with|none=>A|some q=>dz g (p->q=true)/\A)->A/\(Gd g->p->∀q',q=some q'->q'=true):=by
    intro q p A h
    cases q with
    |none=>exact⟨h,fun _ _ _ hq=>by cases hq⟩
    |some q=>exact⟨h.2,fun hg hp q' hq=>by cases hq;exact cV.1 h.1 hg hp⟩
   obtain⟨h3,ha⟩:=key h2
   obtain⟨h4,hb⟩:=key h3
   refine⟨_,_,h4,fun hg=>⟨fun hr=>by simp[dJ.rd] at hr,fun f hf=> ?_⟩⟩
   simp only[cA,hf c (h1 hg),ht]
   congr 2
   cases t with
   |true=>rw[uc,uc,hf a (ha hg rfl)]
   |false=>rw[sB,sB,hf b (hb hg rfl)]
  ·exact h2.elim
 case alloc e sz ag z=>
  refine⟨_,_,h.2,fun hg=>⟨fun hr=>by simp[dJ.rd] at hr,fun f hf=> ?_⟩⟩
  simp only[cA];rw[if_pos (cV.1 h.1 hg)]
 case box e sz ag x=>
  obtain⟨h1,h2⟩:=cM h
  refine⟨_,_,h2.2,fun hg=>⟨fun hr=>by simp[dJ.rd] at hr,fun f hf=> ?_⟩⟩
  simp only[cA,hf x (h1 hg)];rw[if_pos (cV.1 h2.1 hg)]
 case WX z ps=>
  obtain⟨h1,h2⟩:=fR h
  obtain⟨cs,h3,h4⟩:=h2.ok
  refine⟨_,_,h4,fun hg=>⟨fun hr=>by simp[dJ.rd] at hr,fun f hf=> ?_⟩⟩
  simp only[cA]
  rw[F9 (R:=R) fun x hx=>hf x (h1 hg x hx),h3]
 case UA e sz ag z n ps=>
  obtain⟨h1,h2⟩:=fR h
  refine⟨_,_,h2.2,fun hg=>⟨fun hr=>by simp[dJ.rd] at hr,fun f hf=> ?_⟩⟩
  have h3:=cV.1 h2.1 hg
  simp only[cA]
  rw[GB (R:=R) fun x hx=>hf x (h1 hg x hx),if_pos h3]
 case ld ag k x=>
  obtain⟨h1,h2⟩:=cM h
  obtain⟨sz,e,off,h3,h4⟩:=A7 h2
  obtain⟨r,h5,h6⟩:=JC h3
  refine⟨_,_,h5,fun hg=>⟨fun _ y hy=>by simp[dJ.eI] at hy;subst hy;exact h1 hg,fun f hf=> ?_⟩⟩
  simp only[cA,hf x (h1 hg),h4 hg,h6 hg,Option.map_some]
 case st ag k x y=>
  obtain⟨h1,h2⟩:=cM h
  obtain⟨h3,h4⟩:=cM h2
  split at h4
  ·rename_i b len i off hx
   obtain⟨e,sz,d,es,g1,g2,g3⟩:=h4.ok
   obtain⟨e',g4,g5⟩:=g3.ok.ok
   refine⟨_,_,g5,fun hg=>⟨fun _ z hz=>by simp[dJ.eI] at hz;rcases hz with rfl|rfl;exact h1 hg;exact h3 hg,fun f hf=> ?_⟩⟩
   simp only[cA,hf x (h1 hg),hf y (h3 hg),hx,g1,g4]
   rw[if_pos (cV.1 g2 hg)]
  ·exact h4.elim
 case V1 x=>
  obtain⟨h1,h2⟩:=cM h
  split at h2
  all_goals first
   |exact h2.elim
   |(rename_i hx;exact⟨_,_,h2,fun hg=>⟨fun hr=>by simp[dJ.rd] at hr,fun f hf=>by simp only[cA,hf x (h1 hg),hx]⟩⟩)
 case bin op x y=>
  obtain⟨h1,h2⟩:=cM h
  obtain⟨h3,h4⟩:=cM h2
  split at h4
  all_goals first
   |exact h4.elim
   |(rename_i hx hy;obtain⟨q1,q2⟩:=h4;obtain⟨m,q3,q4⟩:=q2.ok;refine⟨_,_,q4,fun hg=>⟨fun hr=>by simp[dJ.rd] at hr,fun f hf=> ?_⟩⟩;simp only[cA,hf x (h1 hg),hf y (h3 hg),hx,hy,HV];rw[if_pos (cV.1 q1 hg),q3 hg];rfl)
   |(rename_i hx hy;refine⟨_,_,h4.2,fun hg=>⟨fun hr=>by simp[dJ.rd] at hr,fun f hf=> ?_⟩⟩;simp only[cA,hf x (h1 hg),hf y (h3 hg),hx,hy,HV];rw[if_pos (cV.1 h4.1 hg)];rfl)
 case WY neg x y=>
  obtain⟨h1,h2⟩:=cM h
  obtain⟨h3,h4⟩:=cM h2
  split at h4
  ·rename_i p q hx hy
   cases neg
   all_goals exact⟨_,_,h4,fun hg=>⟨fun hr=>by simp[dJ.rd] at hr,fun f hf=>by simp[cA,hf x (h1 hg),hf y (h3 hg),hx,hy]⟩⟩
  ·exact h4.elim
 case wD neg x y=>
  obtain⟨h1,h2⟩:=cM h
  obtain⟨h3,h4⟩:=cM h2
  split at h4
  ·rename_i p q hx hy
   cases neg
   all_goals exact⟨_,_,h4,fun hg=>⟨fun hr=>by simp[dJ.rd] at hr,fun f hf=>by simp[cA,hf x (h1 hg),hf y (h3 hg),hx,hy]⟩⟩
  ·exact h4.elim
 case HX op x y=>
  obtain⟨h1,h2⟩:=cM h
  obtain⟨h3,h4⟩:=cM h2
  split at h4
  ·rename_i p q hx hy
   cases op
   case add=>exact⟨_,_,h4.2,fun hg=>⟨fun hr=>by simp[dJ.rd] at hr,fun f hf=>by simp only[cA,hf x (h1 hg),hf y (h3 hg),hx,hy,QE];rw[if_pos (cV.1 h4.1 hg)];rfl⟩⟩
   case lss=>exact⟨_,_,h4,fun hg=>⟨fun hr=>by simp[dJ.rd] at hr,fun f hf=>by simp only[cA,hf x (h1 hg),hf y (h3 hg),hx,hy,QE];rfl⟩⟩
   all_goals exact h4.elim
  ·exact h4.elim
 case RP sz ag z x=>
  obtain⟨h1,h2⟩:=cM h
  split at h2
  ·rename_i b len lo n hx
   obtain⟨e,s,d,es,q1,q2,q3⟩:=h2.ok
   exact⟨_,_,q3,fun hg=>⟨fun hr y hy=>by simp[dJ.eI] at hy;subst hy;exact h1 hg,fun f hf=>by
    simp only[cA,hf x (h1 hg),hx,q1];rw[if_pos (cV.1 q2 hg)]⟩⟩
  ·exact h2.elim
 case VA x=>
  obtain⟨h1,h2⟩:=cM h
  obtain⟨xs,h3,h4⟩:=la h2
  obtain⟨ns,h5,h6⟩:=h3.ok
  exact⟨_,_,h6,fun hg=>⟨fun hr y hy=>by simp[dJ.eI] at hy;subst hy;exact h1 hg,fun f hf=>by
   obtain⟨q1,q2⟩:=h4 hg
   simp only[cA,hf x (h1 hg),q1,q2,if_true,h5 hg,Option.map_some]⟩⟩
 case un op x=>
  obtain⟨h1,h2⟩:=cM h
  split at h2
  all_goals first
   |exact h2.elim
   |(rename_i hx;obtain⟨m,q3,q4⟩:=h2.ok;exact⟨_,_,q4,fun hg=>⟨fun hr=>by simp[dJ.rd] at hr,fun f hf=>by simp only[cA,hf x (h1 hg),hx,YJ,Option.map_some,q3 hg]⟩⟩)
   |(rename_i hx;exact⟨_,_,h2,fun hg=>⟨fun hr=>by simp[dJ.rd] at hr,fun f hf=>by simp only[cA,hf x (h1 hg),hx,YJ,Option.map_some]⟩⟩)
 case XI k x=>
  obtain⟨h1,h2⟩:=cM h
  split at h2
  all_goals first
   |exact h2.elim
   |(rename_i hx;obtain⟨m,q3,q4⟩:=h2.ok;exact⟨_,_,q4,fun hg=>⟨fun hr=>by simp[dJ.rd] at hr,fun f hf=>by simp only[cA,hf x (h1 hg),hx,q3 hg]⟩⟩)
 case fa off x=>
  obtain⟨h1,h2⟩:=cM h
  have hr:Gd g->((dJ.fa off x).rd=true->∀y∈(dJ.fa off x).eI,JV R y):=fun hg _ y hy=>by simp[dJ.eI] at hy;subst hy;exact h1 hg
  split at h2
  ·rename_i hx
   refine⟨_,_,h2.2,fun hg=>⟨hr hg,fun f hf=> ?_⟩⟩
   simp only[cA,hf x (h1 hg),hx];rw[if_pos (cV.1 h2.1 hg)]
  ·rename_i hx
   obtain⟨e,sz,d,es,g1,g2,g3⟩:=h2.ok
   refine⟨_,_,g3,fun hg=>⟨hr hg,fun f hf=> ?_⟩⟩
   simp only[cA,hf x (h1 hg),hx,g1];rw[if_pos (cV.1 g2 hg)]
  ·exact h2.elim
 case ia k n x i=>
  obtain⟨h1,h2⟩:=cM h
  obtain⟨h3,h4⟩:=cM h2
  have hr:Gd g->((dJ.ia k n x i).rd=true->∀y∈(dJ.ia k n x i).eI,JV R y):=fun hg _ y hy=>by simp[dJ.eI] at hy;rcases hy with rfl|rfl;exact h1 hg;exact h3 hg
  split at h4
  ·rename_i kk j hi
   cases n with
   |none=>
    simp only at h4
    split at h4
    ·rename_i hx
     refine⟨_,_,h4.2.2,fun hg=>⟨hr hg,fun f hf=> ?_⟩⟩
     simp only[cA,hf x (h1 hg),hf i (h3 hg),hx,hi,KT]
     rw[if_pos ⟨cV.1 h4.1 hg,cV.1 h4.2.1 hg⟩];rfl
    ·rename_i hx
     obtain⟨e,sz,d,es,g1,g2,g3,g4⟩:=h4.ok
     refine⟨_,_,g4,fun hg=>⟨hr hg,fun f hf=> ?_⟩⟩
     obtain⟨q1,q2⟩:=cV.1 g2 hg
     simp only[cA,hf x (h1 hg),hf i (h3 hg),hx,hi,KT,g1]
     rw[if_pos ⟨q1,q2,cV.1 g3 hg⟩];rfl
    ·rename_i hx
     obtain⟨e,sz,d,es,g1,g2,g3,g4⟩:=h4.ok
     refine⟨_,_,g4,fun hg=>⟨hr hg,fun f hf=> ?_⟩⟩
     obtain⟨q1,q2⟩:=cV.1 g2 hg
     simp only[cA,hf x (h1 hg),hf i (h3 hg),hx,hi,KT,g1]
     rw[if_pos ⟨q1,q2,cV.1 g3 hg⟩];rfl
    ·exact h4.elim
   |some m=>
    simp only at h4
    split at h4
    ·rename_i hx
     refine⟨_,_,h4.2.2,fun hg=>⟨hr hg,fun f hf=> ?_⟩⟩
     simp only[cA,hf x (h1 hg),hf i (h3 hg),hx,hi,KT]
     rw[if_pos ⟨cV.1 h4.1 hg,cV.1 h4.2.1 hg⟩];rfl
    ·rename_i hx
     obtain⟨e,sz,d,es,g1,g2,g3,g4⟩:=h4.ok
     refine⟨_,_,g4,fun hg=>⟨hr hg,fun f hf=> ?_⟩⟩
     obtain⟨q1,q2⟩:=cV.1 g2 hg
     simp only[cA,hf x (h1 hg),hf i (h3 hg),hx,hi,KT,g1]
     rw[if_pos ⟨q1,q2,cV.1 g3 hg⟩];rfl
    ·exact h4.elim
  ·exact h4.elim
 case XO off k ag x=>
  obtain⟨h1,h2⟩:=cM h
  split at h2
  ·rename_i cs hx
   cases ag with
   |true=>
    refine⟨_,_,h2.2,fun hg=>⟨fun hr=>by simp[dJ.rd] at hr,fun f hf=> ?_⟩⟩
    simp only[cA,hf x (h1 hg),hx,if_true];rw[if_pos (cV.1 h2.1 hg)]
   |false=>
    have h3:=h2.2.ok
    rw[fC] at h3
    refine⟨_,_,h3,fun hg=>⟨fun hr=>by simp[dJ.rd] at hr,fun f hf=> ?_⟩⟩
    obtain⟨q1,q2⟩:=cV.1 h2.1 hg
    simp only[cA,hf x (h1 hg),hx,Bool.false_eq_true,if_false];rw[if_pos q1,if_pos q2]
  ·exact h2.elim
 case ix k ag n x i=>
  obtain⟨h1,h2⟩:=cM h
  obtain⟨h3,h4⟩:=cM h2
  split at h4
  ·rename_i cs kk j hx hi
   obtain⟨p1,p2,p3⟩:=h4
   cases ag with
   |true=>
    refine⟨_,_,p3,fun hg=>⟨fun hr=>by simp[dJ.rd] at hr,fun f hf=> ?_⟩⟩
    have q2:=cV.1 p2 hg
    simp only[cA,hf x (h1 hg),hf i (h3 hg),hx,hi,if_true];rw[if_pos ⟨q2.1,q2.2,cV.1 p1 hg⟩]
   |false=>
    have h5:=p3.2.ok
    rw[fC] at h5
    refine⟨_,_,h5,fun hg=>⟨fun hr=>by simp[dJ.rd] at hr,fun f hf=> ?_⟩⟩
    have q2:=cV.1 p2 hg
    simp only[cA,hf x (h1 hg),hf i (h3 hg),hx,hi,Bool.false_eq_true,if_false];rw[if_pos ⟨q2.1,q2.2,cV.1 p1 hg⟩,if_pos (cV.1 p3.1 hg)]
  ·exact h4.elim
 case XX x i=>
  obtain⟨h1,h2⟩:=cM h
  obtain⟨h3,h4⟩:=cM h2
  split at h4
  ·rename_i hx hi
   refine⟨_,_,h4.2,fun hg=>⟨fun hr=>by simp[dJ.rd] at hr,fun f hf=> ?_⟩⟩
   simp only[cA,hf x (h1 hg),hf i (h3 hg),hx,hi];rw[if_pos (cV.1 h4.1 hg)]
  ·exact h4.elim
 case lens x=>
  obtain⟨h1,h2⟩:=cM h
  split at h2
  all_goals first
   |exact h2.elim
   |(rename_i hx;exact⟨_,_,h2,fun hg=>⟨fun hr=>by simp[dJ.rd] at hr,fun f hf=>by simp only[cA,hf x (h1 hg),hx]⟩⟩)
 case VZ e sz bytes ag z l c=>
  obtain⟨h1,h2⟩:=cM h
  obtain⟨h3,h4⟩:=cM h2
  split at h4
  ·rename_i hx hi
   refine⟨_,_,h4.2.2,fun hg=>⟨fun hr=>by simp[dJ.rd] at hr,fun f hf=> ?_⟩⟩
   obtain⟨q1,q2⟩:=cV.1 h4.1 hg
   obtain⟨q3,q4,q5⟩:=cV.1 h4.2.1 hg
   simp only[cA,hf l (h1 hg),hf c (h3 hg),hx,hi];rw[if_pos ⟨q1,q3,q2,q4,q5⟩]
  ·exact h4.elim
 case ext i x=>
  obtain⟨h1,h2⟩:=cM h
  split at h2
  ·rename_i hx
   have h3:=h2.2.ok
   rw[fC] at h3
   refine⟨_,_,h3,fun hg=>⟨fun hr=>by simp[dJ.rd] at hr,fun f hf=> ?_⟩⟩
   simp only[cA,hf x (h1 hg),hx];rw[if_pos (cV.1 h2.1 hg)]
  ·exact h2.elim
 case W3 fn first caps=>
  obtain⟨h1,h2⟩:=fR h
  obtain⟨h3,h4⟩:=fR h2
  refine⟨_,_,h4,fun hg=>⟨fun hr=>by simp[dJ.rd] at hr,fun f hf=> ?_⟩⟩
  simp only[cA]
  rw[lg (R:=R) fun x hx=>hf x (h1 hg x hx),lg (R:=R) fun x hx=>hf x (h3 hg x hx)]
 case X7 t x=>
  obtain⟨h1,h2⟩:=cM h
  exact⟨_,_,h2,fun hg=>⟨fun hr=>by simp[dJ.rd] at hr,fun f hf=>by simp only[cA,hf x (h1 hg)]⟩⟩
 case len x=>
  obtain⟨h1,h2⟩:=cM h
  have hr:Gd g->((dJ.len x).rd=true->∀y∈(dJ.len x).eI,JV R y):=fun hg _ y hy=>by simp[dJ.eI] at hy;subst hy;exact h1 hg
  split at h2
  ·rename_i hx;exact⟨_,_,h2,fun hg=>⟨hr hg,fun f hf=>by simp only[cA,hf x (h1 hg),hx,uM]⟩⟩
  ·rename_i hx
   obtain⟨e,sz,d,es,g1,g2,g3⟩:=h2.ok
   refine⟨_,_,g3,fun hg=>⟨hr hg,fun f hf=> ?_⟩⟩
   simp only[cA,hf x (h1 hg),hx,uM,g1];rw[if_pos (cV.1 g2 hg)]
  ·rename_i hx;exact⟨_,_,h2,fun hg=>⟨hr hg,fun f hf=>by simp[cA,hf x (h1 hg),hx,uM]⟩⟩
  ·rename_i hx;exact⟨_,_,h2,fun hg=>⟨hr hg,fun f hf=>by simp[cA,hf x (h1 hg),hx,uM]⟩⟩
  ·rename_i hx;exact⟨_,_,h2,fun hg=>⟨hr hg,fun f hf=>by simp only[cA,hf x (h1 hg),hx,uM]⟩⟩
  ·exact h2.elim
 case app e sz bytes ag z s x=>
  obtain⟨h1,h2⟩:=cM h
  obtain⟨h3,h4⟩:=cM h2
  obtain⟨xs,⟨h5,h5'⟩,h6⟩:=la h4
  have hr:Gd g->((dJ.app e sz bytes ag z s x).rd=true->∀y∈(dJ.app e sz bytes ag z s x).eI,JV R y):=fun hg _ y hy=>by simp[dJ.eI] at hy;rcases hy with rfl|rfl;exact h1 hg;exact h3 hg
  split at h5'
  ·rename_i hx
   refine⟨_,_,h5'.2,fun hg=>⟨hr hg,fun f hf=> ?_⟩⟩
   obtain⟨q1,q2⟩:=h6 hg
   simp only[cA,hf s (h1 hg),hf x (h3 hg),hx,q1];rw[if_pos ⟨q2,cV.1 h5 hg⟩,if_pos (cV.1 h5'.1 hg)]
  ·rename_i hx
   obtain⟨e',sz',d,es,g1,g2,g3,g4⟩:=h5'.ok
   refine⟨_,_,g4,fun hg=>⟨hr hg,fun f hf=> ?_⟩⟩
   obtain⟨q1,q2⟩:=h6 hg
   obtain⟨q3,q4,q5⟩:=cV.1 g2 hg
   simp only[cA,hf s (h1 hg),hf x (h3 hg),hx,q1,g1];rw[if_pos ⟨q2,cV.1 h5 hg⟩,if_pos ⟨q3,q4,q5,cV.1 g3 hg⟩]
  ·exact h5'.elim
 case LA e bytes z s x=>
  obtain⟨h1,h2⟩:=cM h
  obtain⟨h3,h4⟩:=cM h2
  have hr:Gd g->((dJ.LA e bytes z s x).rd=true->∀y∈(dJ.LA e bytes z s x).eI,JV R y):=fun hg _ y hy=>by simp[dJ.eI] at hy;rcases hy with rfl|rfl;exact h1 hg;exact h3 hg
  split at h4
  ·rename_i q hq
   split at h4
   ·rename_i hx
    refine⟨_,_,h4.2,fun hg=>⟨hr hg,fun f hf=> ?_⟩⟩
    simp only[cA,hf s (h1 hg),hf x (h3 hg),hx,hq];rw[if_pos (cV.1 h4.1 hg)]
   ·rename_i hx
    obtain⟨e',sz',d,es,g1,g2,g3,g4⟩:=h4.ok
    refine⟨_,_,g4,fun hg=>⟨hr hg,fun f hf=> ?_⟩⟩
    obtain⟨q3,q4,q5⟩:=cV.1 g2 hg
    simp only[cA,hf s (h1 hg),hf x (h3 hg),hx,hq,g1];rw[if_pos ⟨q3,q4,q5,cV.1 g3 hg⟩]
   ·exact h4.elim
  ·exact h4.elim
 case JS neg x=>
  obtain⟨h1,h2⟩:=cM h
  split at h2
  all_goals first
   |exact h2.elim
   |(rename_i hx;exact⟨_,_,h2,fun hg=>⟨fun hr=>by simp[dJ.rd] at hr,fun f hf=>by simp only[cA,hf x (h1 hg),hx]⟩⟩)
 case BK neg x=>
  obtain⟨h1,h2⟩:=cM h
  obtain⟨t,h3,h4⟩:=h2.ok
  rw[fC] at h4
  refine⟨_,_,h4,fun hg=>⟨fun _ y hy=>by simp[dJ.eI] at hy;subst hy;exact h1 hg,fun f hf=> ?_⟩⟩
  simp only[cA,hf x (h1 hg),h3]
 case eqs neg ks x y=>
  obtain⟨h1,h2⟩:=cM h
  obtain⟨h3,h4⟩:=cM h2
  split at h4
  ·rename_i hx hy
   obtain⟨t,g1,g2⟩:=h4.ok
   cases neg
   all_goals exact⟨_,_,g2,fun hg=>⟨fun hr=>by simp[dJ.rd] at hr,fun f hf=>by simp[cA,hf x (h1 hg),hf y (h3 hg),hx,hy,g1]⟩⟩
  ·exact h4.elim
 case TK sz x lo hi=>
  obtain⟨h1,h2⟩:=cM h
  obtain⟨h3,h4⟩:=fR h2
  obtain⟨r,g1,g2⟩:=h4.ok
  rw[fC] at g2
  refine⟨_,_,g2,fun hg=>⟨fun _ y hy=> ?_,fun f hf=> ?_⟩⟩
  ·simp only[dJ.eI,List.mem_append,List.mem_singleton] at hy
   rcases hy with(rfl|hy)|hy
   ·exact h1 hg
   ·exact h3 hg y (by simp only[List.mem_append];exact .inl hy)
   ·exact h3 hg y (by simp only[List.mem_append];exact .inr hy)
  ·simp only[cA,hf x (h1 hg)]
   have e1:∀y∈lo.toList++hi.toList,ev f y=(R y).2:=fun y hy=>hf y (h3 hg y hy)
   cases lo<;>cases hi<;>simp_all
 case VQ n x i=>
  obtain⟨h1,h2⟩:=cM h
  obtain⟨h3,h4⟩:=cM h2
  split at h4
  ·rename_i b len kk j hx hi
   obtain⟨e,sz,d,es,g1,g2,g3,g4⟩:=h4.ok
   refine⟨_,_,g4,fun hg=>⟨fun _ y hy=>by simp[dJ.eI] at hy;rcases hy with rfl|rfl;exact h1 hg;exact h3 hg,fun f hf=> ?_⟩⟩
   obtain⟨q1,q2,q3⟩:=cV.1 g2 hg
   obtain⟨q4,q5⟩:=cV.1 g3 hg
   simp only[cA,hf x (h1 hg),hf i (h3 hg),hx,hi,DU,g1]
   rw[if_pos ⟨q1,q2,q3,q4,q5⟩];rfl
  ·exact h4.elim
 case WA n x i=>
  obtain⟨h1,h2⟩:=cM h
  obtain⟨h3,h4⟩:=cM h2
  split at h4
  ·rename_i b len kk j hx hi
   obtain⟨e,sz,d,es,g1,g2,g3,g4⟩:=h4.ok
   refine⟨_,_,g4,fun hg=>⟨fun _ y hy=>by simp[dJ.eI] at hy;rcases hy with rfl|rfl;exact h1 hg;exact h3 hg,fun f hf=> ?_⟩⟩
   obtain⟨q1,q2,q3⟩:=cV.1 g2 hg
   obtain⟨q4,q5⟩:=cV.1 g3 hg
   simp only[cA,hf x (h1 hg),hf i (h3 hg),hx,hi,E6,g1]
   rw[if_pos ⟨q1,q2,q3,q4,q5⟩];rfl
  ·exact h4.elim
 case bad=>exact h.elim
 case T8 e n=>exact⟨_,_,h,fun hg=>⟨fun hr=>by simp[dJ.rd] at hr,fun f hf=>rfl⟩⟩
 case W4 sz x a b=>
  obtain⟨h1,h2⟩:=cM h
  obtain⟨h3,h4⟩:=cM h2
  obtain⟨h5,h6⟩:=cM h4
  obtain⟨r,g1,g2⟩:=h6.ok
  rw[fC] at g2
  refine⟨_,_,g2,fun hg=>⟨fun _ y hy=> ?_,fun f hf=> ?_⟩⟩
  ·simp only[dJ.eI,List.mem_cons,List.not_mem_nil,or_false] at hy
   rcases hy with rfl|rfl|rfl
   ·exact h1 hg
   ·exact h3 hg
   ·exact h5 hg
  ·simp only[cA,hf x (h1 hg),hf a (h3 hg),hf b (h5 hg),g1]
   rfl
 case RW sz x y=>
  obtain⟨h1,h2⟩:=cM h
  obtain⟨h3,h4⟩:=cM h2
  split at h4
  ·rename_i b len hx
   obtain⟨xs,h5,h6⟩:=la h4
   obtain⟨e,s,d,es,g1,g2,g3⟩:=h5.ok
   refine⟨_,_,g3,fun hg=>⟨fun _ z hz=>by simp[dJ.eI] at hz;rcases hz with rfl|rfl;exact h1 hg;exact h3 hg,fun f hf=> ?_⟩⟩
   obtain⟨q1,q2⟩:=h6 hg
   obtain⟨q3,q4⟩:=cV.1 g2 hg
   simp only[cA,hf x (h1 hg),hf y (h3 hg),hx,q1,g1];rw[if_pos ⟨q3,q4,q2⟩]
  ·exact h4.elim
 case call f as=>exact h.elim
 case UK kt=>exact⟨_,_,h,fun hg=>⟨fun hr=>by simp[dJ.rd] at hr,fun f hf=>rfl⟩⟩
 case HW sz v=>exact⟨_,_,h,fun hg=>⟨fun hr=>by simp[dJ.rd] at hr,fun f hf=>rfl⟩⟩
 case y9 e sz v=>exact⟨_,_,h,fun hg=>⟨fun hr=>by simp[dJ.rd] at hr,fun f hf=>rfl⟩⟩
 case DZ x=>
  obtain⟨h1,h2⟩:=cM h
  obtain⟨b,e,d,es,h3,h4⟩:=lX h2
  exact⟨_,_,h4,fun hg=>⟨fun _ y hy=>by simp[dJ.eI] at hy;subst hy;exact h1 hg,fun f hf=>by simp only[cA,hf x (h1 hg),h3]⟩⟩
 case SS str ag z ok x k=>
  obtain⟨h1,h2⟩:=cM h
  obtain⟨h3,h4⟩:=cM h2
  have hr:Gd g->((dJ.SS str ag z ok x k).rd=true->∀y∈(dJ.SS str ag z ok x k).eI,JV R y):=fun hg _ y hy=>by simp[dJ.eI] at hy;rcases hy with rfl|rfl;exact h1 hg;exact h3 hg
  split at h4
  ·rename_i kv hk
   obtain⟨b,e,d,es,h5,h6,h7⟩:=lX h4
   obtain⟨p,h8,h9⟩:=h7.ok
   cases ok with
   |true=>
    refine⟨_,_,h9,fun hg=>⟨hr hg,fun f hf=> ?_⟩⟩
    have h10:=h8 hg
    unfold qB at h10
    simp only[cA,hf x (h1 hg),hf k (h3 hg),h5,hk]
    rw[if_pos (cV.1 h6 hg)]
    split at h10<;>simp only[Option.some.injEq,reduceCtorEq] at h10
    ·subst h10;simp_all
    ·subst h10;simp_all
   |false=>
    simp only[fC] at h9
    refine⟨_,_,h9,fun hg=>⟨hr hg,fun f hf=> ?_⟩⟩
    have h10:=h8 hg
    unfold qB at h10
    simp only[cA,hf x (h1 hg),hf k (h3 hg),h5,hk]
    rw[if_pos (cV.1 h6 hg)]
    split at h10<;>simp only[Option.some.injEq,reduceCtorEq] at h10
    ·subst h10;simp_all
    ·subst h10;simp_all
  ·exact h4.elim
 case KU str x k y=>
  obtain⟨h1,h2⟩:=cM h
  obtain⟨h3,h4⟩:=cM h2
  obtain⟨h3',h4'⟩:=cM h4
  have hr:Gd g->((dJ.KU str x k y).rd=true->∀w∈(dJ.KU str x k y).eI,JV R w):=fun hg _ w hy=>by simp[dJ.eI] at hy;rcases hy with rfl|rfl|rfl;exact h1 hg;exact h3 hg;exact h3' hg
  split at h4'
  ·rename_i kv hk
   obtain⟨b,e,d,es,h5,h6,h7⟩:=lX h4'
   obtain⟨p,h8,h9⟩:=h7.ok
   refine⟨_,_,h9,fun hg=>⟨hr hg,fun f hf=> ?_⟩⟩
   have h10:=h8 hg
   unfold sO at h10
   simp only[cA,hf x (h1 hg),hf k (h3 hg),hf y (h3' hg),h5,hk]
   rw[if_pos (cV.1 h6 hg)]
   split at h10<;>simp only[Option.some.injEq,reduceCtorEq] at h10
   ·subst h10;simp_all[CN]
   ·subst h10;simp_all[CN]
  ·exact h4'.elim
 case del str x k=>
  obtain⟨h1,h2⟩:=cM h
  obtain⟨h3,h4⟩:=cM h2
  have hr:Gd g->((dJ.del str x k).rd=true->∀y∈(dJ.del str x k).eI,JV R y):=fun hg _ y hy=>by simp[dJ.eI] at hy;rcases hy with rfl|rfl;exact h1 hg;exact h3 hg
  split at h4
  ·rename_i kv hk
   obtain⟨b,e,d,es,h5,h6,h7⟩:=lX h4
   obtain⟨p,h8,h9⟩:=h7.ok
   refine⟨_,_,h9,fun hg=>⟨hr hg,fun f hf=> ?_⟩⟩
   have h10:=h8 hg
   unfold PE at h10
   simp only[cA,hf x (h1 hg),hf k (h3 hg),h5,hk]
   rw[if_pos (cV.1 h6 hg)]
   split at h10<;>simp only[Option.some.injEq,reduceCtorEq] at h10
   ·subst h10;simp_all
   ·subst h10;simp_all
  ·exact h4.elim
 case YG t ok ag z x=>
  obtain⟨h1,h2⟩:=cM h
  split at h2
  ·rename_i t' v hx
   cases hb:Nat.beq t' t with
   |true=>
    rw[hb] at h2
    have e:=Nat.eq_of_beq_eq_true hb
    cases ok with
    |true=>
     simp only[cond_true] at h2
     exact⟨_,_,h2,fun hg=>⟨fun hr=>by simp[dJ.rd] at hr,fun f hf=>by simp only[cA,hf x (h1 hg),hx];rw[if_pos e];rfl⟩⟩
    |false=>
     simp only[cond_true,fC] at h2
     exact⟨_,_,h2,fun hg=>⟨fun hr=>by simp[dJ.rd] at hr,fun f hf=>by simp only[cA,hf x (h1 hg),hx];rw[if_pos e];rfl⟩⟩
   |false=>
    rw[hb] at h2
    have e:¬t'=t:=fun e=>by rw[e] at hb;simp at hb
    cases ok with
    |true=>
     simp only[cond_false] at h2
     exact⟨_,_,h2,fun hg=>⟨fun hr=>by simp[dJ.rd] at hr,fun f hf=>by simp only[cA,hf x (h1 hg),hx];rw[if_neg e];rfl⟩⟩
    |false=>exact h2.elim
  ·exact h2.elim
end Go.cw
/- Code as a whole, run by reduction alone; it is so. -/
namespace Go.cw
open Go.RowKit
structure fV (t:Bool) (A B:Prop):Prop where
 ok:(t=true->A)/\(t=false->B)
theorem fV.lt {A B:Prop} (h:A):fV true A B:=⟨⟨fun _=>h,fun h=>(by cases h)⟩⟩
theorem fV.lf {A B:Prop} (h:B):fV false A B:=⟨⟨fun h=>(by cases h),fun _=>h⟩⟩
theorem fV.of {t:Bool} {A B:Prop} (h1:t=true->A) (h2:t=false->B):fV t A B:=⟨⟨h1,h2⟩⟩
structure eN (t want:Bool) (A B J:Prop):Prop where
 ok:((t=want->A)/\(t≠want->B))\/J
theorem eN.tt {A B J:Prop} (h:A):eN true true A B J:=⟨.inl ⟨fun _=>h,fun h=>absurd rfl h⟩⟩
theorem eN.tf {A B J:Prop} (h:B):eN true false A B J:=⟨.inl ⟨fun h=>(by cases h),fun _=>h⟩⟩
theorem eN.join {t want:Bool} {A B J:Prop} (h:J):eN t want A B J:=⟨.inr h⟩
theorem eN.split {t want:Bool} {A B J:Prop} (h1:t=want->A) (h2:t= !want->B):eN t want A B J:=⟨.inl ⟨h1,fun h=>h2 (by cases t<;>cases want<;>simp_all)⟩⟩
structure jE (P:Program) (f:FuncId) (args:List AV) (H:Hp) (nx:Nat) (K:AV->Hp->Nat->Prop):Prop where
 ok:cQ P f args H nx K
structure pN (P:Program) (g:Bool) (f:FuncId) (args:List AV) (H:Hp) (nx:Nat) (K:AV->Prop):Prop where
 ok:∃r,(g=true->∀(K':AV->Hp->Nat->Prop),K' r H (nx+1)->cQ P f args H nx K')/\K r
structure mI (P:Program) (id:Nat) (f:FuncId) (args:List AV) (H:Hp) (K:AV->Option (Nat×fA)->List Nat->Prop):Prop where
 ok:∃r u S,oF P id (.fn (.func f) [] []) args H r u S/\K r u S
structure W8 (P:Program) (t:TypeId) (v:AV) (nm:String) (args:List AV) (H:Hp) (nx:Nat) (K:AV->Hp->Nat->Prop):Prop where
 ok:ve P t v nm args H nx K
structure sk (P:Program) (g:Bool) (id:Nat) (f:FuncId) (args:List AV) (H:Hp) (K:AV->List Nat->Prop):Prop where
 ok:∃r S,(g=true->oF P id (.fn (.func f) [] []) args H r none S)/\K r S
theorem Pure.VC {P:Program} {f:FuncId} {args:List AV} {R:AV->Prop} {H:Hp} {nx:Nat} {K:AV->Hp->Nat->Prop} (h:Pure P f args R) (hf:cT 0 args) (hK:∀r,R r->K r H (nx+1)):cQ P f args H nx K:=by
 have:=h.dK (H:=H) (nx:=nx) (K:=fun r H' n=>∃n',n<=n'/\K r H' n') hf fun r hr=>⟨_,Nat.le_succ _,hK r hr⟩
 refine⟨this.1,fun w0 c vs a1 a2 a3 a4=>(this.2 w0 c vs a1 a2 a3 a4).mono ?_⟩
 rintro e w' ⟨v,r,H',nx',ρ,U,he,⟨n',hn,hR⟩,hU,hrest⟩
 exact⟨v,r,H',n',ρ,U,he,hR,fun b hb=>Nat.lt_of_lt_of_le (hU b hb) hn,hrest⟩
theorem jE.pure {P:Program} {f:FuncId} {args:List AV} {R:AV->Prop} {H:Hp} {nx:Nat} {K:AV->Hp->Nat->Prop} (h:Pure P f args R) (hf:cT 0 args) (hK:∀r,R r->K r H nx):jE P f args H nx K:=⟨h.dK hf hK⟩
theorem jE.Q5 {P:Program} {f:FuncId} {args:List AV} {r:AV} {H:Hp} {nx:Nat} {K:AV->Hp->Nat->Prop} (h:Pure P f args (fun x=>x=r)) (hf:cT 0 args) (hK:K r H nx):jE P f args H nx K:=⟨h.dK hf fun x hx=>by rw[hx];exact hK⟩
theorem jE.of {P:Program} {f:FuncId} {args:List AV} {H:Hp} {nx:Nat} {R K:AV->Hp->Nat->Prop} (h:cQ P f args H nx R) (hK:∀r H' nx',R r H' nx'->K r H' nx'):jE P f args H nx K:=⟨h.mono hK⟩
theorem pN.Q5 {P:Program} {g:Bool} {f:FuncId} {args:List AV} {r:AV} {H:Hp} {nx:Nat} {K:AV->Prop} (h:g=true->Pure P f args (fun x=>x=r)) (hf:cT 0 args) (hK:K r):pN P g f args H nx K:=
 ⟨⟨r,fun hg K' hK'=>(h hg).VC hf fun x hx=>by rw[hx];exact hK',hK⟩⟩
theorem mI.Q5 {P:Program} {id:Nat} {f:FuncId} {args:List AV} {H:Hp} {r:AV} {K:AV->Option (Nat×fA)->List Nat->Prop} (h:Pure P f args (fun x=>x=r)) (hf:cT 0 args) (hK:K r none []):mI P id f args H K:=
 ⟨⟨r,none,[],Pure.P1 (by simpa using hf) (by simpa using h),hK⟩⟩
theorem sk.Q5 {P:Program} {g:Bool} {id:Nat} {f:FuncId} {args:List AV} {H:Hp} {r:AV} {K:AV->List Nat->Prop} (h:g=true->Pure P f args (fun x=>x=r)) (hf:cT 0 args) (hK:K r []):sk P g id f args H K:=
 ⟨⟨r,[],fun hg=>Pure.P1 (by simpa using hf) (by simpa using h hg),hK⟩⟩
theorem mI.fresh {P:Program} {id:Nat} {f:FuncId} {args:List AV} {H:Hp} {r:AV} {u:Option (Nat×fA)} (S:List Nat) {K:AV->Option (Nat×fA)->List Nat->Prop}
 (h:∀H1,(∀b∈S,bo H1 b=bo H b)->pM P f args H1 id (fun r' H'=>r'=r/\H'=dI H1 u)) (hu:∀b q,u=some (b,q)->b=id) (hK:K r u S):mI P id f args H K:=
 ⟨⟨r,u,S,⟨by simpa using h,hu⟩,hK⟩⟩
section
variable (P:Program)
noncomputable def y0 (nx:Nat) (R:Raw) (H:Hp) (op:dJ) (K:AV->Hp->Nat->Prop):Prop:=
 match op with
 | .call f args=>dA none R f fun fv=>kW none R args fun as=>match fv with
  | .fn (.func g) first caps=>ql (first++as++caps) fun as=>jE P g as H nx K
  | .fn (.method nm) [.mq t v] []=>ql as fun as=>W8 P t v nm as H nx K
  |_=>False
 |op=>qS none H R nx op fun r u=>K r (dI H u) (nx+1)
noncomputable def mY (nx:Nat) (g:Bool) (R:Raw) (H:Hp) (op:dJ) (K:AV->Prop):Prop:=
 match op with
 | .call f args=>dA (some g) R f fun fv=>kW (some g) R args fun as=>match fv with
  | .fn (.func q) first caps=>ql (first++as++caps) fun as=>pN P g q as H nx K
  |_=>False
 |op=>qS (some g) H R nx op fun r u=>match u with
  |none=>K r
  |some _=>False
abbrev FT:=Nat->Ov->Fr->Hp->(Ov->Hp->Nat->Prop)->Prop
def y7 (nx:Nat) (ov:Ov) (_:Fr) (H:Hp) (K:Ov->Hp->Nat->Prop):Prop:=K ov H nx
noncomputable def qa (g:gp) (_:List gp) (ih:FT) (nx:Nat) (ov:Ov) (fr:Fr) (H:Hp) (K:Ov->Hp->Nat->Prop):Prop:=match g.guard with
 |none=>y0 P nx (fO ov fr) H g.op fun r H' nx'=>ih nx' (iJ ov g.dst none r) fr H' K
 |some (d,want)=>match qm ov fr d with
  |(none, .sc (.bool t))=>eN t want (y0 P nx (fO ov fr) H g.op fun r H' nx'=>ih nx' (iJ ov g.dst none r) fr H' K) (ih (nx+1) (iJ ov g.dst none (.sc undef)) fr H K)
   (match want with
    |true=>mY P nx t (fO ov fr) H g.op fun r=>ih (nx+1) (iJ ov g.dst (some t) r) fr H K
    |false=>mY P nx (!t) (fO ov fr) H g.op fun r=>ih (nx+1) (iJ ov g.dst (some !t) r) fr H K)
  |(some q, .sc (.bool t))=>(match want with
   |true=>mY P nx (q&&t) (fO ov fr) H g.op fun r=>ih (nx+1) (iJ ov g.dst (some (q&&t)) r) fr H K
   |false=>mY P nx (q&& !t) (fO ov fr) H g.op fun r=>ih (nx+1) (iJ ov g.dst (some (q&& !t)) r) fr H K)
  |(none, .sc (.tuple _))=>ih (nx+1) (iJ ov g.dst none (.sc undef)) fr H K
  |_=>False
noncomputable def HN (nx:Nat) (gs:List gp) (ov:Ov) (fr:Fr) (H:Hp) (K:Ov->Hp->Nat->Prop):Prop:=List.rec (motive:=fun _=>FT) y7 (qa P) gs nx ov fr H K
def I9 (R:Raw) (op:dJ):List Nat:=if op.rd then op.eI.flatMap (fun x=>gx (R x).2) else[]
noncomputable def oX (id:Nat) (R:Raw) (H:Hp) (op:dJ) (K:AV->Option (Nat×fA)->List Nat->Prop):Prop:=
 match op with
 | .call f args=>dA none R f fun fv=>kW none R args fun as=>match fv with
  | .fn (.func g) first caps=>ql (first++as++caps) fun as=>mI P id g as H K
  |_=>False
 |op=>qS none H R id op fun r u=>K r u (I9 R op)
noncomputable def jO (id:Nat) (g:Bool) (R:Raw) (H:Hp) (op:dJ) (K:AV->List Nat->Prop):Prop:=
 match op with
 | .call f args=>dA (some g) R f fun fv=>kW (some g) R args fun as=>match fv with
  | .fn (.func q) first caps=>ql (first++as++caps) fun as=>sk P g id q as H K
  |_=>False
 |op=>qS (some g) H R id op fun r u=>match u with
  |none=>K r (I9 R op)
  |some _=>False
abbrev YS:=Nat->Ov->Fr->Hp->Tr->(Ov->Hp->Tr->Prop)->Prop
def KZ (_:Nat) (ov:Ov) (_:Fr) (H:Hp) (tr:Tr) (K:Ov->Hp->Tr->Prop):Prop:=K ov H tr
noncomputable def pS (g:gp) (_:List gp) (ih:YS) (id:Nat) (ov:Ov) (fr:Fr) (H:Hp) (tr:Tr) (K:Ov->Hp->Tr->Prop):Prop:=match g.guard with
 |none=>oX P id (fO ov fr) H g.op fun r u S=>ih (id+1) (iJ ov g.dst none r) fr (dI H u) (tr++[(S,u.map (·.1))]) K
 |some (d,want)=>match qm ov fr d with
  |(none, .sc (.bool t))=>eN t want (oX P id (fO ov fr) H g.op fun r u S=>ih (id+1) (iJ ov g.dst none r) fr (dI H u) (tr++[(S,u.map (·.1))]) K) (ih (id+1) (iJ ov g.dst none (.sc undef)) fr H (tr++[([],none)]) K)
   (match want with
    |true=>jO P id t (fO ov fr) H g.op fun r S=>ih (id+1) (iJ ov g.dst (some t) r) fr H (tr++[(S,none)]) K
    |false=>jO P id (!t) (fO ov fr) H g.op fun r S=>ih (id+1) (iJ ov g.dst (some !t) r) fr H (tr++[(S,none)]) K)
  |(some q, .sc (.bool t))=>(match want with
   |true=>jO P id (q&&t) (fO ov fr) H g.op fun r S=>ih (id+1) (iJ ov g.dst (some (q&&t)) r) fr H (tr++[(S,none)]) K
   |false=>jO P id (q&& !t) (fO ov fr) H g.op fun r S=>ih (id+1) (iJ ov g.dst (some (q&& !t)) r) fr H (tr++[(S,none)]) K)
  |(none, .sc (.tuple _))=>ih (id+1) (iJ ov g.dst none (.sc undef)) fr H (tr++[([],none)]) K
  |_=>False
noncomputable def WD (id:Nat) (gs:List gp) (ov:Ov) (fr:Fr) (H:Hp) (tr:Tr) (K:Ov->Hp->Tr->Prop):Prop:=List.rec (motive:=fun _=>YS) KZ (pS P) gs id ov fr H tr K
noncomputable def V2 (S:List Nat):(List Nat->Prop)->Prop:=List.rec (motive:=fun _=>(List Nat->Prop)->Prop) (fun K=>K []) (fun b _ ih K=>ih fun S'=>K (b::S')) S
theorem rB:∀(S:List Nat) (K:List Nat->Prop),V2 S K=K S
 |[],_=>rfl
 |b::S,K=>rB S fun S'=>K (b::S')
def uW (u:Option (Nat×fA)) (K:Option Nat->Prop):Prop:=match u with
 |none=>K none
 |some (b,_)=>K (some b)
theorem YI (u:Option (Nat×fA)) (K:Option Nat->Prop):uW u K=K (u.map (·.1)):=by
 cases u<;>rfl
noncomputable def xI (g:gp) (_:List gp) (ih:YS) (id:Nat) (ov:Ov) (fr:Fr) (H:Hp) (tr:Tr) (K:Ov->Hp->Tr->Prop):Prop:=match g.guard with
 |none=>oX P id (fO ov fr) H g.op fun r u S=>V2 S fun S=>uW u fun x=>ih (id+1) (iJ ov g.dst none r) fr (dI H u) ((S,x)::tr) K
 |some (d,want)=>match qm ov fr d with
  |(none, .sc (.bool t))=>eN t want (oX P id (fO ov fr) H g.op fun r u S=>V2 S fun S=>uW u fun x=>ih (id+1) (iJ ov g.dst none r) fr (dI H u) ((S,x)::tr) K) (ih (id+1) (iJ ov g.dst none (.sc undef)) fr H (([],none)::tr) K)
   (match want with
    |true=>jO P id t (fO ov fr) H g.op fun r S=>V2 S fun S=>ih (id+1) (iJ ov g.dst (some t) r) fr H ((S,none)::tr) K
    |false=>jO P id (!t) (fO ov fr) H g.op fun r S=>V2 S fun S=>ih (id+1) (iJ ov g.dst (some !t) r) fr H ((S,none)::tr) K)
  |(some q, .sc (.bool t))=>(match want with
   |true=>jO P id (q&&t) (fO ov fr) H g.op fun r S=>V2 S fun S=>ih (id+1) (iJ ov g.dst (some (q&&t)) r) fr H ((S,none)::tr) K
   |false=>jO P id (q&& !t) (fO ov fr) H g.op fun r S=>V2 S fun S=>ih (id+1) (iJ ov g.dst (some (q&& !t)) r) fr H ((S,none)::tr) K)
  |(none, .sc (.tuple _))=>ih (id+1) (iJ ov g.dst none (.sc undef)) fr H (([],none)::tr) K
  |_=>False
noncomputable def WE (id:Nat) (gs:List gp) (ov:Ov) (fr:Fr) (H:Hp) (tr:Tr) (K:Ov->Hp->Tr->Prop):Prop:=List.rec (motive:=fun _=>YS) KZ (xI P) gs id ov fr H tr K
theorem yZ:∀(gs:List gp) (id:Nat) (ov:Ov) (fr:Fr) (H:Hp) (tr:Tr) (K:Ov->Hp->Tr->Prop),WE P id gs ov fr H tr K=WD P id gs ov fr H tr.reverse fun ov H t=>K ov H t.reverse
 |[],id,ov,fr,H,tr,K=>by
  show K ov H tr=K ov H tr.reverse.reverse
  rw[List.reverse_reverse]
 |g::gs,id,ov,fr,H,tr,K=>by
  have ih:=yZ gs
  show xI P g gs (fun id ov fr H tr K=>WE P id gs ov fr H tr K) id ov fr H tr K=pS P g gs (fun id ov fr H tr K=>WD P id gs ov fr H tr K) id ov fr H tr.reverse fun ov H t=>K ov H t.reverse
  simp only[xI,pS,rB,YI,ih,List.reverse_cons]
noncomputable def RE (s:ss) (_:List ss) (ih:FT) (nx:Nat) (ov:Ov) (fr:Fr) (H:Hp) (K:Ov->Hp->Nat->Prop):Prop:=match s.ops with
 |[g]=>HN P nx [g] ov fr H fun ov' H' nx'=>ih nx' ov' fr H' K
 |gs=>WE P nx gs ov fr H [] fun ov' H' tr=>(match s.ps with
  |[]=>ih (nx+gs.length) ov' fr H' K
  |p::ps=>Ask (iy tr.reverse (p::ps))/\ih (nx+gs.length) ov' fr H' K)
noncomputable def WS (nx:Nat) (segs:List ss) (ov:Ov) (fr:Fr) (H:Hp) (K:Ov->Hp->Nat->Prop):Prop:=List.rec (motive:=fun _=>FT) y7 (RE P) segs nx ov fr H K
structure jF (n lo:Nat) (x:LC) (fr:Fr) (H:Hp) (nx:Nat) (Q:QT):Prop where
 ok:WL P n lo (.loop x) fr H nx Q
abbrev WT:=Fr->Hp->Nat->QT->Prop
def U5 (fr:Fr) (H:Hp) (nx:Nat) (Q:QT):Prop:=Q .normal fr H nx
noncomputable def K0 (gs:List gp) (fr:Fr) (H:Hp) (nx:Nat) (Q:QT):Prop:=HN P nx gs [] fr H fun ov H' nx'=>Q .normal (iT ov fr) H' nx'
structure iZ (segs:List ss) (fr:Fr) (H:Hp) (nx:Nat) (Q:QT):Prop where
 ok:∀n lo,WL P n lo (.drawn segs) fr H nx Q
def RG (segs:List ss) (fr:Fr) (H:Hp) (nx:Nat) (Q:QT):Prop:=iZ P segs fr H nx Q
def XA (_ _:LC) (ia ib:WT) (fr:Fr) (H:Hp) (nx:Nat) (Q:QT):Prop:=ia fr H nx (jt (fun fr H nx=>ib fr H nx Q) Q)
def CS (c:eE) (_ _:LC) (ia ib:WT) (fr:Fr) (H:Hp) (nx:Nat) (Q:QT):Prop:=match ev fr c with
 | .sc (.bool t)=>fV t (ia fr H nx Q) (ib fr H nx Q)
 | .ab=>ia fr H nx Q/\ib fr H nx Q
 |_=>False
def RF (id:Nat) (_:LC) (ia:WT) (fr:Fr) (H:Hp) (nx:Nat) (Q:QT):Prop:=ia fr H nx (xV id Q)
def U4 (n lo:Nat) (a:LC) (_:WT) (fr:Fr) (H:Hp) (nx:Nat) (Q:QT):Prop:=jF P n lo a fr H nx Q
def UZ (id:Nat) (fr:Fr) (H:Hp) (nx:Nat) (Q:QT):Prop:=Q (.exit id) fr H nx
def W9 (fr:Fr) (H:Hp) (nx:Nat) (Q:QT):Prop:=Q .ret fr H nx
noncomputable def W (n lo:Nat) (lc:LC):WT:=LC.rec (motive:=fun _=>WT) U5 (K0 P) (RG P) XA CS RF (U4 P n lo) UZ W9 lc
end
section
variable {P:Program}
theorem rV {nx:Nat} {ov:Ov} {f fr:Fr} {H:Hp} {op:dJ} {K:AV->Hp->Nat->Prop} (hF:q8 f ov fr) (h:y0 P nx (fO ov fr) H op K):dw P nx f H op K:=by
 by_cases hc:∃g as,op= .call g as
 ·obtain⟨fo,as,rfl⟩:=hc
  simp only[y0] at h
  obtain⟨h1,h2⟩:=cM h
  obtain⟨h3,h4⟩:=fR h2
  simp only[dw]
  rw[hF.raw fo (h1 trivial),lg (R:=fO ov fr) fun x hx=>hF.raw x (h3 trivial x hx)]
  split at h4
  ·rename_i he
   rw[he]
   rw[iz] at h4
   exact h4.ok
  ·rename_i he
   rw[he]
   rw[iz] at h4
   exact h4.ok
  ·exact h4.elim
 ·have e1:y0 P nx (fO ov fr) H op K=qS none H (fO ov fr) nx op fun r u=>K r (dI H u) (nx+1):=by cases op<;>first|rfl|exact absurd ⟨_,_,rfl⟩ hc
  have e2:dw P nx f H op K=jy (cA nx f H op) fun p=>K p.1 (dI H p.2) (nx+1):=by cases op<;>first|rfl|exact absurd ⟨_,_,rfl⟩ hc
  rw[e1] at h
  obtain⟨r,u,h1,h2⟩:=kQ h
  rw[e2,(h2 trivial).2 f fun x hx=>hF.raw x hx]
  exact h1
theorem xK {nx:Nat} {g:Bool} {ov:Ov} {fr:Fr} {H:Hp} {op:dJ} {K:AV->Prop} (h:mY P nx g (fO ov fr) H op K):
 ∃r,K r/\(g=true->∀f,q8 f ov fr->∀K':AV->Hp->Nat->Prop,K' r H (nx+1)->dw P nx f H op K'):=by
 by_cases hc:∃g as,op= .call g as
 ·obtain⟨fo,as,rfl⟩:=hc
  simp only[mY] at h
  obtain⟨h1,h2⟩:=cM h
  obtain⟨h3,h4⟩:=fR h2
  split at h4
  ·rename_i he
   rw[iz] at h4
   obtain⟨r,h5,h6⟩:=h4.ok
   refine⟨r,h6,fun hg f hF K' hK'=> ?_⟩
   simp only[dw]
   rw[hF.raw fo (h1 hg),lg (R:=fO ov fr) fun x hx=>hF.raw x (h3 hg x hx),he]
   exact h5 hg K' hK'
  ·exact h4.elim
 ·have e1:mY P nx g (fO ov fr) H op K=qS (some g) H (fO ov fr) nx op fun r u=>match u with|none=>K r|some _=>False:=by cases op<;>first|rfl|exact absurd ⟨_,_,rfl⟩ hc
  rw[e1] at h
  obtain⟨r,u,h1,h2⟩:=kQ h
  cases u with
  |some p=>exact h1.elim
  |none=>
   refine⟨r,h1,fun hg f hF K' hK'=> ?_⟩
   have e2:dw P nx f H op K'=jy (cA nx f H op) fun p=>K' p.1 (dI H p.2) (nx+1):=by cases op<;>first|rfl|exact absurd ⟨_,_,rfl⟩ hc
   rw[e2,(h2 hg).2 f fun x hx=>hF.raw x hx]
   exact hK'
theorem fp:∀{gs:List gp} {nx:Nat} {ov:Ov} {f fr:Fr} {H:Hp} {K:Ov->Hp->Nat->Prop},q8 f ov fr->HN P nx gs ov fr H K->fE P nx gs f H (fun f1 H1 nx1=>∃ov1,q8 f1 ov1 fr/\K ov1 H1 nx1)
 |[],nx,ov,f,fr,H,K,hF,h=>⟨ov,hF,h⟩
 |g::gs,nx,ov,f,fr,H,K,hF,h=>by
  have join:∀{q t:Bool} {d:Nat} {want:Bool},g.guard=some (d,want)->(q=true->cd f d= .sc (.bool t))->(q=false->cd f d= .sc undef)->∀{gg:Bool},(gg=true↔(q=true/\t=want))->
   (mY P nx gg (fO ov fr) H g.op fun r=>HN P (nx+1) gs (iJ ov g.dst (some gg) r) fr H K)->fE P nx (g::gs) f H (fun f1 H1 nx1=>∃ov1,q8 f1 ov1 fr/\K ov1 H1 nx1):=by
   intro q t d want hg hq1 hq2 gg hgg hJ
   obtain⟨r,h1,h2⟩:=xK hJ
   simp only[fE,hg,dM]
   cases q with
   |true=>
    simp only[hq1 rfl]
    by_cases ht:t=want
    ·rw[if_pos ht]
     have hgt:=hgg.2 ⟨rfl,ht⟩
     exact h2 hgt f hF _ (fp (hF.ud g.dst (u:=r) (fun _=>rfl) fun h=>by rw[hgt] at h;cases h) h1)
    ·rw[if_neg ht]
     have hgf:gg=false:=by cases hgg':gg<;>simp_all
     exact fp (hF.ud g.dst (u:= .sc undef) (fun h=>by rw[hgf] at h;cases h) fun _=>rfl) h1
   |false=>
    simp only[hq2 rfl]
    have hgf:gg=false:=by cases hgg':gg<;>simp_all
    have:=fp (hF.ud g.dst (u:= .sc undef) (q:=gg) (fun h=>by rw[hgf] at h;cases h) fun _=>rfl) h1
    exact this
  have h:qa P g gs (fun nx ov fr H K=>HN P nx gs ov fr H K) nx ov fr H K:=h
  simp only[qa] at h
  split at h
  ·rename_i hg
   simp only[fE,hg,dM]
   exact(rV hF h).mono fun r H' nx' hh=>fp (hF.put g.dst r) hh
  ·rename_i d want hg
   have hd:=hF d
   split at h
   ·rename_i t he
    rw[he] at hd
    simp only at hd
    rcases h.ok with⟨hA,hB⟩|hJ
    ·simp only[fE,hg,dM,hd]
     by_cases ht:t=want
     ·rw[if_pos ht]
      exact(rV hF (hA ht)).mono fun r H' nx' hh=>fp (hF.put g.dst r) hh
     ·rw[if_neg ht]
      exact fp (hF.put g.dst _) (hB ht)
    ·cases want with
     |true=>exact join (q:=true) hg (fun _=>hd) (fun h=>by cases h) (gg:=t) (by simp) hJ
     |false=>exact join (q:=true) hg (fun _=>hd) (fun h=>by cases h) (gg:= !t) (by simp) hJ
   ·rename_i q t he
    rw[he] at hd
    simp only at hd
    cases want with
    |true=>exact join hg hd.1 hd.2 (gg:=q&&t) (by simp) h
    |false=>exact join hg hd.1 hd.2 (gg:=q&& !t) (by simp) h
   ·rename_i v he
    rw[he] at hd
    simp only at hd
    simp only[fE,hg,dM,hd]
    exact fp (hF.put g.dst _) h
   ·exact h.elim
def HL:Tr->Tr->Prop
 |[],[]=>True
 |a::r,b::s=>(∀x∈a.1,x∈b.1)/\a.2=b.2/\HL r s
 |_,_=>False
theorem HL.snoc {a b:List Nat} {u:Option Nat} (h1:∀x∈a,x∈b):∀{r s:Tr},HL r s->HL (r++[(a,u)]) (s++[(b,u)])
 |[],[],_=>⟨h1,rfl,trivial⟩
 |x::r,y::s,h=>⟨h.1,h.2.1,HL.snoc h1 h.2.2⟩
 |[],_::_,h=>h.elim
 |_::_,[],h=>h.elim
theorem HL.get:∀{r s:Tr},HL r s->∀k,(∀x∈(r.getD k ([],none)).1,x∈(s.getD k ([],none)).1)/\(r.getD k ([],none)).2=(s.getD k ([],none)).2
 |[],[],_,k=>by simp
 |x::r,y::s,h,0=>⟨h.1,h.2.1⟩
 |x::r,y::s,h,k+1=>by simpa using HL.get h.2.2 k
 |[],_::_,h,_=>h.elim
 |_::_,[],h,_=>h.elim
theorem HL.DC {r s:Tr} (h:HL r s) {ps:List (Nat×Nat)} (hf:iy s ps):iy r ps:=by
 intro p hp
 obtain⟨h1,h2,h3⟩:=hf p hp
 obtain⟨a1,a2⟩:=h.get p.1
 obtain⟨b1,b2⟩:=h.get p.2
 exact⟨fun b hb hm=>h1 b (by rw[<-a2];exact hb) (b1 b hm),fun b hb hm=>h2 b (by rw[<-b2];exact hb) (a1 b hm),fun b hb=>h3 b ⟨by rw[<-a2];exact hb.1,by rw[<-b2];exact hb.2⟩⟩
theorem GH {ov:Ov} {f fr:Fr} {op:dJ} (hF:q8 f ov fr) (h:op.rd=true->∀y∈op.eI,JV (fO ov fr) y):∀x∈eZ f op,x∈I9 (fO ov fr) op:=by
 intro x hx
 unfold eZ at hx
 unfold I9
 split at hx
 ·rename_i hr
  rw[if_pos hr]
  obtain⟨y,hy,hm⟩:=List.mem_flatMap.1 hx
  exact List.mem_flatMap.2 ⟨y,hy,by rw[<-hF.raw y (h hr y hy)];exact hm⟩
 ·cases hx
theorem pT {id:Nat} {ov:Ov} {fr:Fr} {H:Hp} {op:dJ} {K:AV->Option (Nat×fA)->List Nat->Prop} (h:oX P id (fO ov fr) H op K) {f:Fr} (hF:q8 f ov fr):
 jz P id f H op (fun r u S'=>∃S,(∀x∈S',x∈S)/\K r u S):=by
 by_cases hc:∃g as,op= .call g as
 ·obtain⟨fo,as,rfl⟩:=hc
  simp only[oX] at h
  obtain⟨h1,h2⟩:=cM h
  obtain⟨h3,h4⟩:=fR h2
  split at h4
  ·rename_i he
   rw[iz] at h4
   obtain⟨r,u,S,h5,h6⟩:=h4.ok
   refine⟨r,u,S, ?_,S,fun _ h=>h,h6⟩
   rw[hF.raw fo (h1 trivial),lg (R:=fO ov fr) fun x hx=>hF.raw x (h3 trivial x hx),he]
   simpa[oF] using h5
  ·exact h4.elim
 ·have e1:oX P id (fO ov fr) H op K=qS none H (fO ov fr) id op fun r u=>K r u (I9 (fO ov fr) op):=by cases op<;>first|rfl|exact absurd ⟨_,_,rfl⟩ hc
  rw[e1] at h
  obtain⟨r,u,h1,h2⟩:=kQ h
  obtain⟨h3,h4⟩:=h2 trivial
  have e2:∀K',jz P id f H op K'=jy (cA id f H op) fun p=>K' p.1 p.2 (eZ f op):=by intro K';cases op<;>first|rfl|exact absurd ⟨_,_,rfl⟩ hc
  rw[e2,h4 f fun x hx=>hF.raw x hx]
  exact⟨_,GH hF h3,h1⟩
theorem xJ {id:Nat} {g:Bool} {ov:Ov} {fr:Fr} {H:Hp} {op:dJ} {K:AV->List Nat->Prop} (h:jO P id g (fO ov fr) H op K):
 ∃r S,K r S/\(g=true->∀f,q8 f ov fr->∀K':AV->Option (Nat×fA)->List Nat->Prop,(∀S',(∀x∈S',x∈S)->K' r none S')->jz P id f H op K'):=by
 by_cases hc:∃g as,op= .call g as
 ·obtain⟨fo,as,rfl⟩:=hc
  simp only[jO] at h
  obtain⟨h1,h2⟩:=cM h
  obtain⟨h3,h4⟩:=fR h2
  split at h4
  ·rename_i he
   rw[iz] at h4
   obtain⟨r,S,h5,h6⟩:=h4.ok
   refine⟨r,S,h6,fun hg f hF K' hK'=>⟨r,none,S, ?_,hK' S fun _ h=>h⟩⟩
   rw[hF.raw fo (h1 hg),lg (R:=fO ov fr) fun x hx=>hF.raw x (h3 hg x hx),he]
   simpa[oF] using h5 hg
  ·exact h4.elim
 ·have e1:jO P id g (fO ov fr) H op K=qS (some g) H (fO ov fr) id op fun r u=>match u with|none=>K r (I9 (fO ov fr) op)|some _=>False:=by cases op<;>first|rfl|exact absurd ⟨_,_,rfl⟩ hc
  rw[e1] at h
  obtain⟨r,u,h1,h2⟩:=kQ h
  cases u with
  |some p=>exact h1.elim
  |none=>
   refine⟨r,_,h1,fun hg f hF K' hK'=> ?_⟩
   obtain⟨h3,h4⟩:=h2 hg
   have e2:jz P id f H op K'=jy (cA id f H op) fun p=>K' p.1 p.2 (eZ f op):=by cases op<;>first|rfl|exact absurd ⟨_,_,rfl⟩ hc
   rw[e2,h4 f fun x hx=>hF.raw x hx]
   exact hK' _ (GH hF h3)
theorem gH:∀{gs:List gp} {id:Nat} {ov:Ov} {f fr:Fr} {H:Hp} {tr tr':Tr} {K:Ov->Hp->Tr->Prop},q8 f ov fr->HL tr' tr->WD P id gs ov fr H tr K->ig P id gs f H tr' (fun f1 H1 tr1=>∃ov1 trj,q8 f1 ov1 fr/\HL tr1 trj/\K ov1 H1 trj)
 |[],id,ov,f,fr,H,tr,tr',K,hF,hT,h=>⟨ov,tr,hF,hT,h⟩
 |g::gs,id,ov,f,fr,H,tr,tr',K,hF,hT,h=>by
  have join:∀{q t:Bool} {d:Nat} {want:Bool},g.guard=some (d,want)->(q=true->cd f d= .sc (.bool t))->(q=false->cd f d= .sc undef)->∀{gg:Bool},(gg=true↔(q=true/\t=want))->
   (jO P id gg (fO ov fr) H g.op fun r S=>WD P (id+1) gs (iJ ov g.dst (some gg) r) fr H (tr++[(S,none)]) K)->ig P id (g::gs) f H tr' (fun f1 H1 tr1=>∃ov1 trj,q8 f1 ov1 fr/\HL tr1 trj/\K ov1 H1 trj):=by
   intro q t d want hg hq1 hq2 gg hgg hJ
   obtain⟨r,S,h1,h2⟩:=xJ hJ
   simp only[ig,hg,dM]
   cases q with
   |true=>
    simp only[hq1 rfl]
    by_cases ht:t=want
    ·rw[if_pos ht]
     have hgt:=hgg.2 ⟨rfl,ht⟩
     refine h2 hgt f hF _ fun S' hS=> ?_
     exact gH (hF.ud g.dst (u:=r) (fun _=>rfl) fun h=>by rw[hgt] at h;cases h) (hT.snoc hS) h1
    ·rw[if_neg ht]
     have hgf:gg=false:=by cases hgg':gg<;>simp_all
     exact gH (hF.ud g.dst (u:= .sc undef) (fun h=>by rw[hgf] at h;cases h) fun _=>rfl) (hT.snoc (a:=[]) (b:=S) (fun _ h=>by cases h)) h1
   |false=>
    simp only[hq2 rfl]
    have hgf:gg=false:=by cases hgg':gg<;>simp_all
    have:=gH (hF.ud g.dst (u:= .sc undef) (q:=gg) (fun h=>by rw[hgf] at h;cases h) fun _=>rfl) (hT.snoc (a:=[]) (b:=S) (fun _ h=>by cases h)) h1
    exact this
  have h:pS P g gs (fun id ov fr H tr K=>WD P id gs ov fr H tr K) id ov fr H tr K:=h
  simp only[pS] at h
  split at h
  ·rename_i hg
   simp only[ig,hg,dM]
   refine(pT h hF).mono ?_
   rintro r u S' ⟨S,hS,hh⟩
   exact gH (hF.put g.dst r) (hT.snoc hS) hh
  ·rename_i d want hg
   have hd:=hF d
   split at h
   ·rename_i t he
    rw[he] at hd
    simp only at hd
    rcases h.ok with⟨hA,hB⟩|hJ
    ·simp only[ig,hg,dM,hd]
     by_cases ht:t=want
     ·rw[if_pos ht]
      refine(pT (hA ht) hF).mono ?_
      rintro r u S' ⟨S,hS,hh⟩
      exact gH (hF.put g.dst r) (hT.snoc hS) hh
     ·rw[if_neg ht]
      exact gH (hF.put g.dst _) (hT.snoc (a:=[]) (b:=[]) (fun _ h=>h)) (hB ht)
    ·cases want with
     |true=>exact join (q:=true) hg (fun _=>hd) (fun h=>by cases h) (gg:=t) (by simp) hJ
     |false=>exact join (q:=true) hg (fun _=>hd) (fun h=>by cases h) (gg:= !t) (by simp) hJ
   ·rename_i q t he
    rw[he] at hd
    simp only at hd
    cases want with
    |true=>exact join hg hd.1 hd.2 (gg:=q&&t) (by simp) h
    |false=>exact join hg hd.1 hd.2 (gg:=q&& !t) (by simp) h
   ·rename_i v he
    rw[he] at hd
    simp only at hd
    simp only[ig,hg,dM,hd]
    exact gH (hF.put g.dst _) (hT.snoc (a:=[]) (b:=[]) (fun _ h=>h)) h
   ·exact h.elim
theorem kr:∀{segs:List ss} {nx:Nat} {ov:Ov} {f fr:Fr} {H:Hp} {K:Ov->Hp->Nat->Prop},q8 f ov fr->WS P nx segs ov fr H K->iI P nx segs f H (fun f1 H1 nx1=>∃ov1,q8 f1 ov1 fr/\K ov1 H1 nx1)
 |[],nx,ov,f,fr,H,K,hF,h=>⟨ov,hF,h⟩
 |⟨[g],ps⟩::rest,nx,ov,f,fr,H,K,hF,h=>by
  have h:HN P nx [g] ov fr H fun ov' H' nx'=>WS P nx' rest ov' fr H' K:=h
  refine fE.mono (K':=fun a b c=>iI P c rest a b _) (fp hF h) ?_
  rintro f1 H1 nx1 ⟨ov1,h1,h2⟩
  exact kr h1 h2
 |⟨[],[]⟩::rest,nx,ov,f,fr,H,K,hF,h=>by
  have h:WE P nx [] ov fr H [] fun ov' H' _=>WS P (nx+0) rest ov' fr H' K:=h
  rw[yZ,List.reverse_nil] at h
  simp only[iI]
  refine ig.mono (gH hF (tr':=[]) (tr:=[]) trivial h) ?_
  rintro f1 H1 tr1 ⟨ov1,trj,h1,h2,h3⟩
  exact⟨(fun p hp=>by cases hp),kr h1 h3⟩
 |⟨[],p::ps⟩::rest,nx,ov,f,fr,H,K,hF,h=>by
  have h:WE P nx [] ov fr H [] fun ov' H' tr=>Ask (iy tr.reverse (p::ps))/\WS P (nx+0) rest ov' fr H' K:=h
  rw[yZ,List.reverse_nil] at h
  simp only[List.reverse_reverse] at h
  simp only[iI]
  refine ig.mono (gH hF (tr':=[]) (tr:=[]) trivial h) ?_
  rintro f1 H1 tr1 ⟨ov1,trj,h1,h2,h3⟩
  exact⟨h2.DC h3.1.ok,kr h1 h3.2⟩
 |⟨g1::g2::gs,[]⟩::rest,nx,ov,f,fr,H,K,hF,h=>by
  have h:WE P nx (g1::g2::gs) ov fr H [] fun ov' H' _=>WS P (nx+(g1::g2::gs).length) rest ov' fr H' K:=h
  rw[yZ,List.reverse_nil] at h
  simp only[iI]
  refine ig.mono (gH hF (tr':=[]) (tr:=[]) trivial h) ?_
  rintro f1 H1 tr1 ⟨ov1,trj,h1,h2,h3⟩
  exact⟨(fun p hp=>by cases hp),kr h1 h3⟩
 |⟨g1::g2::gs,p::ps⟩::rest,nx,ov,f,fr,H,K,hF,h=>by
  have h:WE P nx (g1::g2::gs) ov fr H [] fun ov' H' tr=>Ask (iy tr.reverse (p::ps))/\WS P (nx+(g1::g2::gs).length) rest ov' fr H' K:=h
  rw[yZ,List.reverse_nil] at h
  simp only[List.reverse_reverse] at h
  simp only[iI]
  refine ig.mono (gH hF (tr':=[]) (tr:=[]) trivial h) ?_
  rintro f1 H1 tr1 ⟨ov1,trj,h1,h2,h3⟩
  exact⟨h2.DC h3.1.ok,kr h1 h3.2⟩
theorem Holds.less {w0:World} {M0:Nat->Prop} {c0:Cx} {lo n:Nat} {fr fr':Fr} {H:Hp} {nx:Nat} {a:Act} {w:World} (h:Holds w0 M0 c0 lo n fr H nx a w) (hf:∀t,cd fr' t= .any\/cd fr' t=cd fr t):Holds w0 M0 c0 lo n fr' H nx a w:=by
 obtain⟨h1,h2,ρ,U,hU,hS,hF,hT⟩:=h
 refine⟨h1,h2,ρ,U,hU,hS,fun t=> ?_,hT⟩
 rcases hf t with h|h
 ·rw[h,VR];trivial
 ·rw[h];exact hF t
theorem WL.less {n lo:Nat} {lc:LC} {fr:Fr} {H:Hp} {nx:Nat} {Q:QT} (h:WL P n lo lc fr H nx (fun e f H nx=>∃f',(∀t,cd f' t= .any\/cd f' t=cd f t)/\Q e f' H nx)):WL P n lo lc fr H nx Q:=
 fun code hc w0 M0 c0 a w hh=>Code.wp_mono (fun _ _ _ ⟨x,f,H,nx,he,⟨f',h1,h2⟩,hhh⟩=>⟨x,f',H,nx,he,h2,hhh.less h1⟩) (h code hc w0 M0 c0 a w hh)
theorem q8.less {f:Fr} {ov:Ov} {fr:Fr} (h:q8 f ov fr) (t:Nat):cd (iT ov fr) t= .any\/cd (iT ov fr) t=cd f t:=by
 rcases og (ov:=ov) (fr:=fr) (t:=t) with h1|⟨v,h1,h2⟩
 ·exact .inl h1
 ·have:=h t
  rw[h1] at this
  exact .inr (h2.trans this.symm)
theorem iZ.of {segs:List ss} {fr:Fr} {H:Hp} {nx:Nat} {Q:QT} (h:WS P nx segs [] fr H fun ov H' nx'=>Q .normal (iT ov fr) H' nx'):iZ P segs fr H nx Q:=
 ⟨fun _ _=>WL.less (WL.drawn (iI.mono (kr (q8.refl fr) h) fun _ _ _ ⟨_,h1,h2⟩=>⟨_,h1.less,h2⟩))⟩
theorem gR {n lo:Nat}:∀{lc:LC} {fr:Fr} {H:Hp} {nx:Nat} {Q:QT},W P n lo lc fr H nx Q->WL P n lo lc fr H nx Q
 | .skip,_,_,_,_,h=>WL.skip h
 | .ret,_,_,_,_,h=>WL.ret h
 | .exit _,_,_,_,_,h=>WL.exit h
 | .region gs,fr,H,nx,Q,h=>WL.less (WL.region (fE.mono (fp (q8.refl fr) h) fun _ _ _ ⟨_,h1,h2⟩=>⟨_,h1.less,h2⟩))
 | .drawn segs,fr,H,nx,Q,h=>iZ.ok (P:=P) h n lo
 | .seq a b,fr,H,nx,Q,h=>WL.seq ((gR (lc:=a) (Q:=jt (fun fr H nx=>W P n lo b fr H nx Q) Q) h).mono fun e fr H nx hh=>by
  cases e with
  |normal=>exact gR (lc:=b) hh
  |exit id=>exact hh
  |ret=>exact hh)
 | .cond c a b,fr,H,nx,Q,h=>by
  have h:CS c a b (W P n lo a) (W P n lo b) fr H nx Q:=h
  simp only[CS] at h
  split at h
  ·rename_i t ht
   exact WL.cond ht (fun h1=>gR (lc:=a) (h.ok.1 h1)) (fun h1=>gR (lc:=b) (h.ok.2 h1))
  ·rename_i ht
   exact WL.VD ht (gR (lc:=a) h.1) (gR (lc:=b) h.2)
  ·exact h.elim
 | .block id a,fr,H,nx,Q,h=>WL.block (gR (lc:=a) h)
 | .loop a,fr,H,nx,Q,h=>h.ok
theorem jF.inv {n lo:Nat} {x:LC} {fr:Fr} {H:Hp} {nx:Nat} {Q:QT} {σ:Type} (I:σ->Fr->Hp->Nat->Prop) (μ:σ->Nat) (s0:σ) (h0:∃fr',(∀t,cd fr' t= .any\/cd fr' t=cd fr t)/\I s0 fr' H nx)
 (round:∀s fr H nx,I s fr H nx->WL P n lo x fr H nx (jt (fun fr' H' nx'=>∃s',μ s'<μ s/\∃fr2,(∀t,cd fr2 t= .any\/cd fr2 t=cd fr' t)/\I s' fr2 H' nx') Q)):jF P n lo x fr H nx Q:=by
 refine⟨fun code hc w0 M0 c0 a w hh=> ?_⟩
 have:∃c1,code= .loop c1/\cr P n c1=some x:=by
  cases code<;>simp only[cr] at hc
  case loop c1=>
   simp only[Option.map_eq_some_iff,LC.loop.injEq] at hc
   obtain⟨x',h1,rfl⟩:=hc
   exact⟨c1,rfl,h1⟩
  all_goals (exfalso;repeat' (split at hc))<;>simp at hc
 obtain⟨c1,rfl,h1⟩:=this
 intro b k cs
 have key:∀m,∀s,μ s=m->∀fr H nx,I s fr H nx->∀a w,Holds w0 M0 c0 lo n fr H nx a w->
  ∃e a' w',LQ w0 M0 c0 lo n Q e a' w'/\Arrives P (lone (b.at a (.code c1:: .inLoop c1::k)) cs w) b k cs e a' w':=by
  intro m
  induction m using Nat.strongRecOn with
  |_ m ih=>
   intro s hs fr H nx hI a w hh
   obtain⟨e,a1,w1,hq,harr⟩:=round s fr H nx hI c1 h1 w0 M0 c0 a w hh b (.inLoop c1::k) cs
   obtain⟨x',fr',H',nx',rfl,hQ,hh'⟩:=hq
   cases x' with
   |normal=>
    obtain⟨s',hlt,fr2,hless,hI'⟩:=hQ
    obtain⟨e2,a2,w2,hq2,harr2⟩:=ih (μ s') (by omega) s' rfl fr2 H' nx' hI' a1 w1 (hh'.less hless)
    exact⟨e2,a2,w2,hq2, .of_steps (Steps.trans harr (.one step_inLoop)) harr2⟩
   |exit id=>exact⟨_,a1,w1,⟨.exit id,fr',H',nx',rfl,hQ,hh'⟩, .pass (x:= .inLoop c1) rfl (fun _ _=> .inl (by simp[Ex.to])) harr⟩
   |ret=>exact⟨_,a1,w1,⟨.ret,fr',H',nx',rfl,hQ,hh'⟩, .pass (x:= .inLoop c1) rfl (fun _ _=> .inl (by simp[Ex.to])) harr⟩
 obtain⟨fr',hless,hI⟩:=h0
 obtain⟨e,a',w',hq,harr⟩:=key _ s0 rfl fr' H nx hI a w (hh.less hless)
 exact⟨e,a',w',hq, .of_steps (.one step_loop) harr⟩
def kI (fr:Fr):Fr->Prop
 |[]=>True
 |(t,v)::r=>cd fr t=v/\kI fr r
theorem hC {fr:Fr}:∀{fr':Fr},kI fr fr'->∀t,cd fr' t= .any\/cd fr' t=cd fr t
 |[],_,t=> .inl rfl
 |(d,v)::r,h,t=>by
  simp only[cd]
  by_cases ht:t=d
  ·subst ht;rw[if_pos rfl];exact .inr h.1.symm
  ·rw[if_neg ht];exact hC h.2 t
theorem jF.fr {n lo:Nat} {x:LC} {fr:Fr} {H:Hp} {nx:Nat} {Q:QT} {σ:Type} (F:σ->Fr) (I:σ->Hp->Nat->Prop) (μ:σ->Nat) (s0:σ) (h0:kI fr (F s0)) (h1:I s0 H nx)
 (round:∀s H nx,I s H nx->W P n lo x (F s) H nx (jt (fun fr' H' nx'=>∃s',μ s'<μ s/\kI fr' (F s')/\I s' H' nx') Q)):jF P n lo x fr H nx Q:=by
 refine jF.inv (fun s fr H nx=>fr=F s/\I s H nx) μ s0 ⟨F s0,hC h0,rfl,h1⟩ ?_
 rintro s fr H nx ⟨rfl,hI⟩
 refine(gR (round s H nx hI)).mono ?_
 intro e fr' H' nx' hh
 cases e with
 |normal=>
  obtain⟨s',h2,h3,h4⟩:=hh
  exact⟨s',h2,F s',hC h3,rfl,h4⟩
 |exit id=>exact hh
 |ret=>exact hh
end
end Go.cw
end
