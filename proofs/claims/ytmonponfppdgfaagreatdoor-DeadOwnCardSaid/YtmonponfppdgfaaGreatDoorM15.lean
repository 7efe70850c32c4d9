import Derived.Test.YtmonponfppdgfaaGreatDoorM9
section
/- A run by reduction alone: the code is walked by the reducer; what is to be shown stands out as questions. -/
set_option linter.unusedSimpArgs false
set_option linter.unusedVariables false
namespace Go.dD
open Go.RowKit
structure Ask (p:Prop):Prop where
 ok:p
def dS:Option Bool->Prop->Prop
 |none,p=>Ask p
 |some g,p=>Ask (g=true->p)
def Gd:Option Bool->Prop
 |none=>True
 |some g=>g=true
theorem cN {g:Option Bool} {p:Prop}:dS g p↔(Gd g->p):=by
 cases g with
 |none=>exact⟨fun h _=>h.ok,fun h=>⟨h trivial⟩⟩
 |some g=>exact⟨fun h=>h.ok,fun h=>⟨h⟩⟩
abbrev Ov:=List (Nat×Option Bool×AV)
def pQ:Ov->Fr->Nat->Option Bool×AV
 |[],fr,t=>(none,cc fr t)
 |(d,c,v)::r,fr,t=>bif Nat.beq t d then(c,v) else pQ r fr t
def iH (ov:Ov) (d:Option Nat) (c:Option Bool) (v:AV):Ov:=
 match d with
 |some d=>(d,c,v)::ov
 |none=>ov
def iS:Ov->Fr->Fr
 |[],fr=>fr
 |(d,none,v)::r,fr=>(d,v)::iS r fr
 |(d,some _,_)::r,fr=>(d, .any)::iS r fr
def fU (ov:Ov) (fr:Fr):dZ->Option Bool×AV
 | .t n=>pQ ov fr n
 | .c v=>(none, .sc v)
 | .f n=>(none, .fn (.func n) [] [])
 | .m nm n=>match pQ ov fr n with
  |(g, .mO t v)=>(g, .fn (.method nm) [.mO t v] [])
  |(g,_)=>(g, .any)
theorem qi {t d:Nat} (h:¬t=d):Nat.beq t d=false:=by
 cases hb:Nat.beq t d with
 |false=>rfl
 |true=>exact absurd (Nat.eq_of_beq_eq_true hb) h
def pE (f:Fr) (ov:Ov) (fr:Fr):Prop:=
 ∀t,match pQ ov fr t with
  |(none,v)=>cc f t=v
  |(some q,v)=>(q=true->cc f t=v)/\(q=false->cc f t= .sc undef)
theorem pE.refl (fr:Fr):pE fr [] fr:=fun _=>rfl
theorem pE.put {f:Fr} {ov:Ov} {fr:Fr} (h:pE f ov fr) (d:Option Nat) (v:AV):pE (gP f d v) (iH ov d none v) fr:=by
 cases d with
 |none=>exact h
 |some d=>
  intro t
  simp only[iH,gP,pQ,cc]
  by_cases ht:t=d
  ·subst ht;simp
  ·have:Nat.beq t d=false:=qi ht
   rw[this,if_neg ht];exact h t
theorem pE.sS {f:Fr} {ov:Ov} {fr:Fr} (h:pE f ov fr) (d:Option Nat) {q:Bool} {u v:AV} (h1:q=true->u=v) (h2:q=false->u= .sc undef):pE (gP f d u) (iH ov d (some q) v) fr:=by
 cases d with
 |none=>exact h
 |some d=>
  intro t
  simp only[iH,gP,pQ,cc]
  by_cases ht:t=d
  ·subst ht;simpa using⟨h1,h2⟩
  ·have:Nat.beq t d=false:=qi ht
   rw[this,if_neg ht];exact h t
theorem pE.raw {f:Fr} {ov:Ov} {fr:Fr} (h:pE f ov fr) (x:dZ) (hq:∀q,(fU ov fr x).1=some q->q=true):ev f x=(fU ov fr x).2:=by
 cases x with
 |t n=>
  have:=h n
  simp only[ev,fU] at hq ⊢
  split at this
  ·rename_i v he;rw[this,he]
  ·rename_i q v he;rw[he] at hq ⊢;exact this.1 (hq q rfl)
 |c v=>rfl
 |f n=>rfl
 |m nm n=>
  have:=h n
  simp only[ev,fU] at hq ⊢
  generalize pQ ov fr n=x at this hq ⊢
  obtain⟨g,v⟩:=x
  have hv:cc f n=v:=by
   cases g with
   |none=>exact this
   |some q=>
    refine this.1 (hq q ?_)
    cases v<;>rfl
  rw[hv]
  cases v<;>rfl
theorem nf {fr:Fr} {t:Nat}:∀{ov:Ov},cc (iS ov fr) t= .any\/∃v,pQ ov fr t=(none,v)/\cc (iS ov fr) t=v
 |[]=> .inr ⟨_,rfl,rfl⟩
 |(d,none,v)::r=>by
  simp only[iS,cc,pQ]
  by_cases ht:t=d
  ·subst ht;simp
  ·have:Nat.beq t d=false:=qi ht
   rw[this,if_neg ht];exact nf
 |(d,some q,v)::r=>by
  simp only[iS,cc,pQ]
  by_cases ht:t=d
  ·subst ht;simp
  ·have:Nat.beq t d=false:=qi ht
   rw[this,if_neg ht];exact nf
abbrev Raw:=dZ->Option Bool×AV
def cr (g:Option Bool) (R:Raw) (x:dZ) (K:AV->Prop):Prop:=
 match R x with
 |(none,v)=>K v
 |(some q,v)=>dS g (q=true)/\K v
def C5 (R:Raw) (x:dZ):Prop:=∀q,(R x).1=some q->q=true
theorem cG {g:Option Bool} {R:Raw} {x:dZ} {K:AV->Prop} (h:cr g R x K):(Gd g->C5 R x)/\K (R x).2:=by
 unfold cr at h
 split at h
 ·rename_i v he;rw[he];exact⟨fun _ q hq=>(by rw[he] at hq;cases hq),h⟩
 ·rename_i q v he
  rw[he]
  exact⟨fun hg q' hq=>(by rw[he] at hq;cases hq;exact cN.1 h.1 hg),h.2⟩
def yd (K:List AV->Prop):Prop:=K []
def wH (g:Option Bool) (R:Raw) (x:dZ) (_:List dZ) (ih:(List AV->Prop)->Prop) (K:List AV->Prop):Prop:=cr g R x fun a=>ih fun as=>K (a::as)
noncomputable def kZ (g:Option Bool) (R:Raw) (xs:List dZ):(List AV->Prop)->Prop:=List.rec (motive:=fun _=>(List AV->Prop)->Prop) yd (wH g R) xs
theorem fX {g:Option Bool} {R:Raw}:∀{xs:List dZ} {K:List AV->Prop},kZ g R xs K->(Gd g->∀x∈xs,C5 R x)/\K (xs.map fun x=>(R x).2)
 |[],K,h=>⟨fun _ _ h=>(by cases h),h⟩
 |x::r,K,h=>by
  obtain⟨h1,h2⟩:=cG h
  obtain⟨h3,h4⟩:=fX h2
  refine⟨fun hg y hy=> ?_,h4⟩
  rcases List.mem_cons.1 hy with rfl|hy
  ·exact h1 hg
  ·exact h3 hg y hy
theorem lN {f:Fr} {R:Raw}:∀{xs:List dZ},(∀x∈xs,ev f x=(R x).2)->py f xs=xs.map fun x=>(R x).2
 |[],_=>rfl
 |x::r,h=>by
  simp only[py,List.map_cons]
  rw[h x (by simp),lN fun y hy=>h y (by simp[hy])]
def gU (v:AV) (K:AV->Prop):Prop:=
 match v with
 | .sc v=>K (.sc v)
 | .any=>K .any
 | .im a b c=>K (.im a b c)
 | .ip a b c d e=>K (.ip a b c d e)
 | .sl a b=>K (.sl a b)
 | .pt a b c d=>K (.pt a b c d)
 | .zc=>K .zc
 | .agg a=>K (.agg a)
 | .dK a=>K (.dK a)
 | .fn a b c=>K (.fn a b c)
 | .mO a b=>K (.mO a b)
 | .mp a=>K (.mp a)
 | .ab=>K .ab
 | .sv a b c d=>K (.sv a b c d)
theorem ew (v:AV) (K:AV->Prop):gU v K=K v:=by cases v<;>rfl
def yg (K:List AV->Prop):Prop:=K []
def wP (a:AV) (_:List AV) (ih:(List AV->Prop)->Prop) (K:List AV->Prop):Prop:=ih fun r'=>K (a::r')
noncomputable def pN (l:List AV):(List AV->Prop)->Prop:=List.rec (motive:=fun _=>(List AV->Prop)->Prop) yg wP l
theorem je:∀(l:List AV) (K:List AV->Prop),pN l K=K l
 |[],_=>rfl
 |a::r,K=>je r fun r'=>K (a::r')
structure gq (H:Hp) (b:Nat) (K:TypeId->Nat->AV->List AV->Prop):Prop where
 ok:∃e sz d es,bk H b=some (.row e sz d es)/\K e sz d es
theorem gq.of {H:Hp} {b:Nat} {K:TypeId->Nat->AV->List AV->Prop} {e:TypeId} {sz:Nat} {d:AV} {es:List AV} (h:bk H b=some (.row e sz d es)) (k:K e sz d es):gq H b K:=⟨⟨e,sz,d,es,h,k⟩⟩
structure pC (es:List AV) (i:Nat) (d:AV) (K:AV->Prop):Prop where
 ok:K (es.getD i d)
theorem pC.of {es:List AV} {i:Nat} {d:AV} {K:AV->Prop} {e:AV} (h:es.getD i d=e) (k:K e):pC es i d K:=⟨by rw[h];exact k⟩
structure jj {α:Type} (x:Option α) (K:α->Prop):Prop where
 ok:∃a,x=some a/\K a
theorem jj.of {α:Type} {x:Option α} {K:α->Prop} {a:α} (h:x=some a) (k:K a):jj x K:=⟨⟨a,h,k⟩⟩
structure jk {α:Type} (g:Option Bool) (x:Option α) (K:α->Prop):Prop where
 ok:∃a,(Gd g->x=some a)/\K a
theorem jk.of {α:Type} {g:Option Bool} {x:Option α} {K:α->Prop} {a:α} (h:Gd g->x=some a) (k:K a):jk g x K:=⟨⟨a,h,k⟩⟩
structure ph (H:Hp) (b:Nat) (K:TypeId->AV->List AV->Prop):Prop where
 ok:∃e d es,bk H b=some (.row e 0 d (mapA es))/\K e d es
theorem ph.of {H:Hp} {b:Nat} {K:TypeId->AV->List AV->Prop} {e:TypeId} {d:AV} {es:List AV} (h:bk H b=some (.row e 0 d (mapA es))) (k:K e d es):ph H b K:=⟨⟨e,d,es,h,k⟩⟩
def BC (H:Hp) (v:AV) (K:Nat->TypeId->AV->List AV->Prop):Prop:=
 match v with
 | .mp b=>ph H b (K b)
 |_=>False
theorem lF {H:Hp} {v:AV} {K:Nat->TypeId->AV->List AV->Prop} (h:BC H v K):∃b e d es,mapOf H v=some (b,e,d,es)/\K b e d es:=by
 cases v<;>simp only[BC] at h
 obtain⟨e,d,es,h1,h2⟩:=h.ok
 exact⟨_,e,d,es,by simp only[mapOf,h1,mapA],h2⟩
structure su (g:Option Bool) (k:IntKind) (n:Int) (K:Int->Prop):Prop where
 ok:∃m,(Gd g->k.wrap n=m)/\K m
theorem su.of {g:Option Bool} {k:IntKind} {n:Int} {K:Int->Prop} {m:Int} (h:Gd g->k.wrap n=m) (hK:K m):su g k n K:=⟨⟨m,h,hK⟩⟩
section
variable (g:Option Bool) (H:Hp)
def PF (ag:Bool) (k:Nat) (e:AV) (sz off:Nat) (K:AV->Prop):Prop:=
 match ag with
 |true=>match e with
  | .agg cs=>bif Nat.beq off 0&&Nat.beq k sz then K (.agg cs) else dS g (off+k<=cs.length)/\K (.agg ((cs.drop off).take k))
  |_=>False
 |false=>match e with
  | .agg cs=>pC cs off .any fun v=>gU v K
  | .any=>K .any
  |e=>bif one e then gU e K else False
def lookW (v:AV) (K:Nat->AV->Nat->Prop):Prop:=
 match v with
 | .ip sz d es i off=>pC es i d fun e=>K sz e off
 | .pt b len i off=>gq H b fun _ sz d es=>dS g (es.length=len)/\pC es i d fun e=>K sz e off
 |_=>False
def rO (k:Nat) (v:AV) (K:List AV->Prop):Prop:=
 match v with
 | .im sz _ es=>bif Nat.beq sz k then K es else False
 | .sl b len=>gq H b fun _ sz _ es=>dS g (es.length=len/\sz=k)/\K es
 | .sc (.slice none 0 0)=>K []
 | .zc=>K []
 | .sv b len lo n=>gq H b fun _ sz _ es=>dS g (es.length=len/\sz=k)/\K ((es.drop lo).take n)
 |_=>False
noncomputable def ot (R:Raw) (id:Nat) (op:cy) (K:AV->Option (Nat×eO)->Prop):Prop:=
 match op with
 | .mv x=>cr g R x fun a=>gU a fun a=>K a none
 | .pick c a b=>cr g R c fun v=>match v with
  | .sc (.bool t)=>
   let rest:=fun(_:Unit)=>gU (oh t (R a).2 (R b).2) fun v=>K v none
   let r2:=fun(_:Unit)=>match(R b).1 with
    |none=>rest ()
    |some q=>dS g (t=false->q=true)/\rest ()
   match(R a).1 with
   |none=>r2 ()
   |some q=>dS g (t=true->q=true)/\r2 ()
  |_=>False
 | .alloc e sz ag z=>dS g (z.length=sz)/\K (.pt id 1 0 0) (some (id, .row e sz (gw ag z) [gw ag z]))
 | .box e sz ag x=>cr g R x fun v=>dS g (fits ag sz v=true)/\K (.pt id 1 0 0) (some (id, .row e sz .any [v]))
 | .NH z parts=>kZ g R (parts.map (·.2.2)) fun as=>jj (pz (z.map .sc) (List.zipWith (fun p a=>(p.1,p.2.1,a)) parts as)) fun cs=>K (.agg cs) none
 | .LA e sz ag z n parts=>kZ g R (parts.map (·.2)) fun as=>
  dS g (z.length=sz/\(List.zipWith (fun p a=>(p.1,a)) parts as).all (fun p=>decide (p.1<n)&&fits ag sz p.2)=true)/\
  K (.sl id n) (some (id, .row e sz (gw ag z) ((List.zipWith (fun p a=>(p.1,a)) parts as).foldl (fun l p=>l.set p.1 p.2) (List.replicate n (gw ag z)))))
 | .ld ag k x=>cr g R x fun v=>lookW g H v fun sz e off=>PF g ag k e sz off fun r=>K r none
 | .st ag k x y=>cr g R x fun v=>cr g R y fun yv=>match v with
  | .pt b len i off=>gq H b fun e sz d es=>dS g (es.length=len)/\pC es i d fun iD=>jj (M4 ag k iD yv sz off) fun e'=>K .any (some (b, .row e sz d (es.set i e')))
  |_=>False
 | .OF x=>cr g R x fun v=>match v with
  | .pt b len i off=>K (.pt b len i off) none
  | .ip sz d es i off=>K (.ip sz d es i off) none
  | .fn (.func f) p q=>K (.fn (.func f) p q) none
  | .mO t v=>K (.mO t v) none
  |_=>False
 | .bin op x y=>cr g R x fun a=>cr g R y fun b=>match op,a,b with
  | .add, .sc (.int k a), .sc (.int k' b)=>dS g (k=k')/\su g k (a+b) fun m=>K (.sc (.int k m)) none
  | .sub, .sc (.int k a), .sc (.int k' b)=>dS g (k=k')/\su g k (a - b) fun m=>K (.sc (.int k m)) none
  | .mul, .sc (.int k a), .sc (.int k' b)=>dS g (k=k')/\su g k (a * b) fun m=>K (.sc (.int k m)) none
  | .eql, .sc (.int k a), .sc (.int k' b)=>dS g (k=k')/\K (.sc (.bool (decide (a=b)))) none
  | .neq, .sc (.int k a), .sc (.int k' b)=>dS g (k=k')/\K (.sc (.bool (decide (a≠b)))) none
  | .lss, .sc (.int k a), .sc (.int k' b)=>dS g (k=k')/\K (.sc (.bool (decide (a<b)))) none
  | .leq, .sc (.int k a), .sc (.int k' b)=>dS g (k=k')/\K (.sc (.bool (decide (a<=b)))) none
  | .gtr, .sc (.int k a), .sc (.int k' b)=>dS g (k=k')/\K (.sc (.bool (decide (b<a)))) none
  | .geq, .sc (.int k a), .sc (.int k' b)=>dS g (k=k')/\K (.sc (.bool (decide (b<=a)))) none
  | .quo, .sc (.int k a), .sc (.int k' b)=>dS g (k=k'/\b≠0)/\K (.sc (.int k (k.wrap (a.tdiv b)))) none
  | .rem, .sc (.int k a), .sc (.int k' b)=>dS g (k=k'/\b≠0)/\K (.sc (.int k (a.tmod b))) none
  | .and, .sc (.int k a), .sc (.int k' b)=>dS g (k=k')/\K (.sc (.int k (k.wrap (BitVec.ofInt k.bits a&&& BitVec.ofInt k.bits b).toNat))) none
  | .or, .sc (.int k a), .sc (.int k' b)=>dS g (k=k')/\K (.sc (.int k (k.wrap (BitVec.ofInt k.bits a|||BitVec.ofInt k.bits b).toNat))) none
  | .xor, .sc (.int k a), .sc (.int k' b)=>dS g (k=k')/\K (.sc (.int k (k.wrap (BitVec.ofInt k.bits a^^^BitVec.ofInt k.bits b).toNat))) none
  | .andNot, .sc (.int k a), .sc (.int k' b)=>dS g (k=k')/\K (.sc (.int k (k.wrap (BitVec.ofInt k.bits a&&& ~~~(BitVec.ofInt k.bits b)).toNat))) none
  | .shl, .sc (.int k a), .sc (.int _ b)=>dS g (0<=b)/\K (.sc (.int k (k.wrap (a * 2^(min b.toNat k.bits))))) none
  | .shr, .sc (.int k a), .sc (.int _ b)=>dS g (0<=b)/\K (.sc (.int k (a.fdiv (2^(min b.toNat k.bits))))) none
  |_,_,_=>False
 | .NI neg x y=>cr g R x fun a=>cr g R y fun b=>match a,b with
  | .sc (.bool p), .sc (.bool q)=>(match neg with
   |true=>K (.sc (.bool (p != q))) none
   |false=>K (.sc (.bool (p==q))) none)
  |_,_=>False
 | .tu neg x y=>cr g R x fun a=>cr g R y fun b=>match a,b with
  | .sc (.string p), .sc (.string q)=>(match neg with
   |true=>K (.sc (.bool (p != q))) none
   |false=>K (.sc (.bool (p==q))) none)
  |_,_=>False
 | .BP op x y=>cr g R x fun a=>cr g R y fun b=>match a,b with
  | .sc (.string p), .sc (.string q)=>(match op with
   | .add=>dS g (p.size+q.size<=9223372036854775807)/\K (.sc (.string (p++q))) none
   | .lss=>K (.sc (.bool (Op.bytesLess p.toList q.toList))) none
   |_=>False)
  |_,_=>False
 | .JY sz ag z x=>cr g R x fun v=>match v with
  | .sv b len lo n=>gq H b fun e s d es=>dS g (es.length=len/\s=sz/\lo+n<=len)/\K (.dK []) (some (b, .row e s d (es.take lo++List.replicate n (gw ag z)++es.drop (lo+n))))
  |_=>False
 | .L4 x=>cr g R x fun v=>rO g H 1 v fun xs=>jk g (lH xs) fun ns=>K (.sc (.string (K0 ns))) none
 | .un op x=>cr g R x fun a=>match op,a with
  | .not, .sc (.bool b)=>K (.sc (.bool !b)) none
  | .neg, .sc (.int k n)=>su g k (0 - n) fun m=>K (.sc (.int k m)) none
  |_,_=>False
 | .NW k x=>cr g R x fun a=>match a with
  | .sc (.int _ n)=>su g k n fun m=>K (.sc (.int k m)) none
  |_=>False
 | .fa off x=>cr g R x fun a=>match a with
  | .ip sz d es i o=>dS g (o+off<sz)/\K (.ip sz d es i (o+off)) none
  | .pt b len i o=>gq H b fun _ sz _ es=>dS g (es.length=len/\o+off<sz)/\K (.pt b len i (o+off)) none
  |_=>False
 | .ia k n x i=>cr g R x fun v=>cr g R i fun iv=>match iv with
  | .sc (.int _ j)=>
   (match n with
    |none=>match v with
     | .im sz d es=>dS g (k=sz)/\dS g (0<=j/\j<es.length)/\K (.ip sz d es j.toNat 0) none
     | .sl b len=>gq H b fun _ sz _ es=>dS g (es.length=len/\k=sz)/\dS g (0<=j/\j<len)/\K (.pt b len j.toNat 0) none
     | .sv b len lo m=>gq H b fun _ sz _ es=>dS g (es.length=len/\k=sz)/\dS g (0<=j/\j<m)/\K (.pt b len (lo+j.toNat) 0) none
     |_=>False
    |some m=>match v with
     | .ip sz d es i off=>dS g (off+m * k<=sz)/\dS g (0<=j/\j<m)/\K (.ip sz d es i (off+j.toNat * k)) none
     | .pt b len i off=>gq H b fun _ sz _ es=>dS g (es.length=len/\off+m * k<=sz)/\dS g (0<=j/\j<m)/\K (.pt b len i (off+j.toNat * k)) none
     |_=>False)
  |_=>False
 | .N4 off k ag x=>cr g R x fun v=>match v with
  | .agg cs=>(match ag with
   |true=>dS g (off+k<=cs.length)/\K (.agg ((cs.drop off).take k)) none
   |false=>dS g (off+k<=cs.length/\k=1)/\pC cs off .any fun v=>gU v fun v=>K v none)
  |_=>False
 | .ix k ag n x i=>cr g R x fun v=>cr g R i fun iv=>match v,iv with
  | .agg cs, .sc (.int _ j)=>dS g (n * k=cs.length)/\dS g (0<=j/\j<n)/\(match ag with
   |true=>K (.agg ((cs.drop (j.toNat * k)).take k)) none
   |false=>dS g (k=1)/\pC cs (j.toNat * k) .any fun v=>gU v fun v=>K v none)
  |_,_=>False
 | .OA x i=>cr g R x fun v=>cr g R i fun iv=>match v,iv with
  | .sc (.string s), .sc (.int _ j)=>dS g (0<=j/\j<s.size)/\K (.sc (.int .u8 (s.data.toList.getD j.toNat 0).toNat)) none
  |_,_=>False
 | .lens x=>cr g R x fun v=>match v with
  | .sc (.string s)=>K (.sc (.int .i64 s.size)) none
  |_=>False
 | .MQ e sz bytes ag z l c=>cr g R l fun lv=>cr g R c fun cv=>match lv,cv with
  | .sc (.int _ n), .sc (.int _ m)=>dS g (z.length=sz/\n=m)/\dS g (0<=n/\n * bytes<=281474976710656/\n<=9223372036854775807)/\
   K (.sl id n.toNat) (some (id, .row e sz (gw ag z) (List.replicate n.toNat (gw ag z))))
  |_,_=>False
 | .ext i x=>cr g R x fun v=>match v with
  | .dK vs=>dS g (i<vs.length)/\pC vs i .any fun v=>gU v fun v=>K v none
  |_=>False
 | .NK f first caps=>kZ g R first fun a=>kZ g R caps fun b=>K (.fn f a b) none
 | .OE t x=>cr g R x fun v=>K (.mO t v) none
 | .len x=>cr g R x fun v=>match v with
  | .im _ _ es=>K (.sc (.int .i64 (es.length:Int))) none
  | .sl b len=>gq H b fun _ _ _ es=>dS g (es.length=len)/\K (.sc (.int .i64 (len:Int))) none
  | .sc (.slice none 0 0)=>K (.sc (.int .i64 0)) none
  | .zc=>K (.sc (.int .i64 0)) none
  | .sv _ _ _ n=>K (.sc (.int .i64 (n:Int))) none
  |_=>False
 | .app e sz bytes ag z s x=>cr g R s fun sv=>cr g R x fun xv=>rO g H sz xv fun xs=>dS g (z.length=sz)/\match sv with
  | .sc (.slice none 0 0)=>dS g (xs.length * bytes<=jB)/\K (.sl id xs.length) (some (id, .row e sz (gw ag z) xs))
  | .sl b len=>gq H b fun e' sz' d es=>dS g (es.length=len/\e'=e/\sz'=sz)/\dS g ((len+xs.length) * bytes<=jB)/\K (.sl b (len+xs.length)) (some (b, .row e sz d (es++xs)))
  |_=>False
 | .D7 e bytes z s x=>cr g R s fun sv=>cr g R x fun xv=>match xv with
  | .sc (.string q)=>(match sv with
   | .sc (.slice none 0 0)=>dS g ((cO q).length * bytes<=jB)/\K (.sl id (cO q).length) (some (id, .row e 1 z (cO q)))
   | .sl b len=>gq H b fun e' sz' d es=>dS g (es.length=len/\e'=e/\sz'=1)/\dS g ((len+(cO q).length) * bytes<=jB)/\K (.sl b (len+(cO q).length)) (some (b, .row e 1 d (es++cO q)))
   |_=>False)
  |_=>False
 | .C2 neg x=>cr g R x fun v=>match v with
  | .pt _ _ _ _=>K (.sc (.bool neg)) none
  | .ip _ _ _ _ _=>K (.sc (.bool neg)) none
  | .sc (.pointer none)=>K (.sc (.bool !neg)) none
  |_=>False
 | .x9 neg x=>cr g R x fun v=>jj (sI H v) fun t=>gU (qV neg t) fun v=>K v none
 | .eqs neg ks x y=>cr g R x fun a=>cr g R y fun b=>match a,b with
  | .agg as, .agg bs=>jj (EG ks as bs) fun t=>(match neg with
   |true=>K (.sc (.bool !t)) none
   |false=>K (.sc (.bool t)) none)
  |_,_=>False
 | .K8 e n=>K (.pt id n 0 0) (some (id, .row e 1 (.sc (.int .u8 0)) (List.replicate n (.sc (.int .u8 0)))))
 | .bad=>False
 | .MH n x i=>cr g R x fun v=>cr g R i fun iv=>match v,iv with
  | .pt b len 0 0, .sc (.int _ j)=>gq H b fun _ sz _ es=>dS g (len=n/\es.length=n/\sz=1)/\dS g (0<=j/\j<n)/\K (.pt b n j.toNat 0) none
  |_,_=>False
 | .MZ n x i=>cr g R x fun v=>cr g R i fun iv=>match v,iv with
  | .pt b len 0 0, .sc (.int _ j)=>gq H b fun _ sz _ es=>dS g (len=n/\es.length=n/\sz=1)/\dS g (0<=j/\j<n)/\K (.sv b n j.toNat (n - j.toNat)) none
  |_,_=>False
 | .NL sz x h m=>cr g R x fun v=>cr g R h fun a=>cr g R m fun b=>jj (DI sz a b v) fun r=>gU r fun r=>K r none
 | .KY sz x lo hi=>cr g R x fun v=>kZ g R (lo.toList++hi.toList) fun bs=>
  jj (s8 H sz (match lo with|some _=>bs[0]?|none=>none) (match hi with|some _=>(match lo with|some _=>bs[1]?|none=>bs[0]?)|none=>none) v) fun r=>gU r fun r=>K r none
 | .JZ sz x y=>cr g R x fun xv=>cr g R y fun yv=>match xv with
  | .sl b len=>rO g H sz yv fun xs=>gq H b fun e s d es=>dS g (es.length=len/\s=sz)/\
   K (.sc (.int .i64 (Nat.min xs.length len:Nat))) (some (b, .row e s d (xs.take (Nat.min xs.length len)++es.drop (Nat.min xs.length len))))
  |_=>False
 | .call _ _=>False
 | .LL kt=>K (.mp id) (some (id, .row kt 0 .any (mapA [])))
 | .KG str ag z ok x k=>cr g R x fun v=>cr g R k fun kv=>match kv with
  | .sc kv=>BC H v fun _ _ _ es=>dS g (kp str kv=true)/\jk g (q6 str kv es (gw ag z)) fun p=>match ok with
   |true=>K (.dK [p.1, .sc (.bool p.2)]) none
   |false=>gU p.1 fun v=>K v none
  |_=>False
 | .DU str x k y=>cr g R x fun v=>cr g R k fun kv=>cr g R y fun yv=>match kv with
  | .sc kv=>BC H v fun b e d es=>dS g (kp str kv=true)/\jk g (tG str kv es yv) fun es'=>K .any (some (b, .row e 0 d (mapA es')))
  |_=>False
 | .zA x=>cr g R x fun v=>BC H v fun _ _ _ es=>K (.sc (.int .i64 (es.length:Nat))) none
 | .del str x k=>cr g R x fun v=>cr g R k fun kv=>match kv with
  | .sc kv=>BC H v fun b e d es=>dS g (kp str kv=true)/\jk g (IE str kv es) fun es'=>K (.dK []) (some (b, .row e 0 d (mapA es')))
  |_=>False
 | .BO sz v=>K (.agg (List.replicate sz (.sc v))) none
 | .vq e sz v=>K (.pt id 1 0 0) (some (id, .row e sz (.agg (List.replicate sz (.sc v))) [.agg (List.replicate sz (.sc v))]))
 | .OL t ok ag z x=>cr g R x fun v=>match v with
  | .mO t' v=>(bif Nat.beq t' t then(match ok with
   |true=>K (.dK [v, .sc (.bool true)]) none
   |false=>gU v fun v=>K v none) else(match ok with
   |true=>K (.dK [gw ag z, .sc (.bool false)]) none
   |false=>False))
  |_=>False
end
theorem AR {f:Fr} {R:Raw}:∀{ps:List (Nat×Nat×dZ)},(∀x∈ps.map (·.2.2),ev f x=(R x).2)->LD f ps=List.zipWith (fun p a=>(p.1,p.2.1,a)) ps ((ps.map (·.2.2)).map fun x=>(R x).2)
 |[],_=>rfl
 |(i,j,x)::ps,h=>by
  simp only[LD,List.map_cons,List.zipWith_cons_cons]
  rw[h x (by simp),AR fun y hy=>h y (by simp only[List.map_cons,List.mem_cons];exact .inr hy)]
theorem AT {f:Fr} {R:Raw}:∀{ps:List (Nat×dZ)},(∀x∈ps.map (·.2),ev f x=(R x).2)->AS f ps=List.zipWith (fun p a=>(p.1,a)) ps ((ps.map (·.2)).map fun x=>(R x).2)
 |[],_=>rfl
 |(i,x)::ps,h=>by
  simp only[AS,List.map_cons,List.zipWith_cons_cons]
  rw[h x (by simp),AT fun y hy=>h y (by simp only[List.map_cons,List.mem_cons];exact .inr hy)]
theorem CM {g:Option Bool} {ag:Bool} {k:Nat} {e:AV} {sz off:Nat} {K:AV->Prop} (h:PF g ag k e sz off K):∃r,K r/\(Gd g->yy ag k e sz off=some r):=by
 unfold PF at h
 cases ag with
 |true=>
  simp only at h
  cases e
  case agg cs=>
   simp only at h
   by_cases hb:off=0/\k=sz
   ·have hb':(Nat.beq off 0&&Nat.beq k sz)=true:=by
     obtain⟨rfl,rfl⟩:=hb;simp
    rw[hb'] at h
    exact⟨_,h,fun _=>by simp[yy,hb.1,hb.2]⟩
   ·have hb':(Nat.beq off 0&&Nat.beq k sz)=false:=by
     cases hc:(Nat.beq off 0&&Nat.beq k sz) with
     |false=>rfl
     |true=>
      rw[Bool.and_eq_true] at hc
      exact absurd ⟨Nat.eq_of_beq_eq_true hc.1,Nat.eq_of_beq_eq_true hc.2⟩ hb
    rw[hb'] at h
    simp only[cond_false] at h
    refine⟨_,h.2,fun hg=> ?_⟩
    have h1:=cN.1 h.1 hg
    simp only[yy,if_true]
    rw[if_neg hb,if_pos h1]
  all_goals exact h.elim
 |false=>
  have gen:∀e:AV,(bif one e then gU e K else False)->(yy false k e sz off=if one e then some e else none)->∃r,K r/\(Gd g->yy false k e sz off=some r):=by
   intro e h1 h2
   cases ho:one e with
   |true=>rw[ho,cond_true,ew] at h1;exact⟨_,h1,fun _=>by rw[h2,ho];rfl⟩
   |false=>rw[ho] at h1;exact h1.elim
  cases e
  case agg cs=>
   simp only at h
   have:=h.ok
   rw[ew] at this
   exact⟨_,this,fun _=>by simp[yy]⟩
  case any=>exact⟨_,h,fun _=>by simp[yy]⟩
  all_goals exact gen _ h rfl
theorem xP {g:Option Bool} {H:Hp} {v:AV} {K:Nat->AV->Nat->Prop} (h:lookW g H v K):∃sz e off,K sz e off/\(Gd g->lg H v=some (sz,e,off)):=by
 unfold lookW at h
 split at h
 ·exact⟨_,_,_,h.ok,fun _=>rfl⟩
 ·obtain⟨e,sz,d,es,h1,h2,h3⟩:=h.ok
  refine⟨_,_,_,h3.ok,fun hg=> ?_⟩
  simp only[lg,h1]
  rw[if_pos (cN.1 h2 hg)]
 ·exact h.elim
theorem lM {g:Option Bool} {H:Hp} {k:Nat} {v:AV} {K:List AV->Prop} (h:rO g H k v K):∃es,K es/\(Gd g->iL H v=some es/\yD H k v=true):=by
 unfold rO at h
 split at h
 ·rename_i sz d es
  cases hb:Nat.beq sz k with
  |true=>rw[hb] at h;exact⟨_,h,fun _=>⟨rfl,by simpa[yD] using hb⟩⟩
  |false=>rw[hb] at h;exact h.elim
 ·obtain⟨e,sz,d,es,h1,h2,h3⟩:=h.ok
  refine⟨_,h3,fun hg=> ?_⟩
  obtain⟨g1,g2⟩:=cN.1 h2 hg
  simp[iL,yD,h1,g1,g2]
 ·exact⟨_,h,fun _=>⟨rfl,rfl⟩⟩
 ·exact⟨_,h,fun _=>⟨rfl,rfl⟩⟩
 ·obtain⟨e,sz,d,es,h1,h2,h3⟩:=h.ok
  refine⟨_,h3,fun hg=> ?_⟩
  obtain⟨g1,g2⟩:=cN.1 h2 hg
  simp[iL,yD,h1,g1,g2]
 ·exact h.elim
set_option maxHeartbeats 4000000 in
theorem kR {g:Option Bool} {H:Hp} {R:Raw} {id:Nat} {op:cy} {K:AV->Option (Nat×eO)->Prop} (h:ot g H R id op K):
 ∃r u,K r u/\(Gd g->(op.rd=true->∀x∈op.dh,C5 R x)/\∀f,(∀x,C5 R x->ev f x=(R x).2)->cA id f H op=some (r,u)):=by
 cases op
 case mv x=>
  obtain⟨h1,h2⟩:=cG h
  rw[ew] at h2
  exact⟨_,_,h2,fun hg=>⟨fun hr=>by simp[cy.rd] at hr,fun f hf=>by simp only[cA,hf x (h1 hg)]⟩⟩
 case pick c a b=>
  obtain⟨h1,h2⟩:=cG h
  split at h2
  ·rename_i t ht
   simp only[ew] at h2
   have key:∀{q:Option Bool} {p:Prop} {A:Prop},(match q with|none=>A|some q=>dS g (p->q=true)/\A)->A/\(Gd g->p->∀q',q=some q'->q'=true):=by
    intro q p A h
    cases q with
    |none=>exact⟨h,fun _ _ _ hq=>by cases hq⟩
    |some q=>exact⟨h.2,fun hg hp q' hq=>by cases hq;exact cN.1 h.1 hg hp⟩
   obtain⟨h3,ha⟩:=key h2
   obtain⟨h4,hb⟩:=key h3
   refine⟨_,_,h4,fun hg=>⟨fun hr=>by simp[cy.rd] at hr,fun f hf=> ?_⟩⟩
   simp only[cA,hf c (h1 hg),ht]
   congr 2
   cases t with
   |true=>rw[sQ,sQ,hf a (ha hg rfl)]
   |false=>rw[qL,qL,hf b (hb hg rfl)]
  ·exact h2.elim
 case alloc e sz ag z=>
  refine⟨_,_,h.2,fun hg=>⟨fun hr=>by simp[cy.rd] at hr,fun f hf=> ?_⟩⟩
  simp only[cA];rw[if_pos (cN.1 h.1 hg)]
 case box e sz ag x=>
  obtain⟨h1,h2⟩:=cG h
  refine⟨_,_,h2.2,fun hg=>⟨fun hr=>by simp[cy.rd] at hr,fun f hf=> ?_⟩⟩
  simp only[cA,hf x (h1 hg)];rw[if_pos (cN.1 h2.1 hg)]
 case NH z ps=>
  obtain⟨h1,h2⟩:=fX h
  obtain⟨cs,h3,h4⟩:=h2.ok
  refine⟨_,_,h4,fun hg=>⟨fun hr=>by simp[cy.rd] at hr,fun f hf=> ?_⟩⟩
  simp only[cA]
  rw[AR (R:=R) fun x hx=>hf x (h1 hg x hx),h3]
 case LA e sz ag z n ps=>
  obtain⟨h1,h2⟩:=fX h
  refine⟨_,_,h2.2,fun hg=>⟨fun hr=>by simp[cy.rd] at hr,fun f hf=> ?_⟩⟩
  have h3:=cN.1 h2.1 hg
  simp only[cA]
  rw[AT (R:=R) fun x hx=>hf x (h1 hg x hx),if_pos h3]
 case ld ag k x=>
  obtain⟨h1,h2⟩:=cG h
  obtain⟨sz,e,off,h3,h4⟩:=xP h2
  obtain⟨r,h5,h6⟩:=CM h3
  refine⟨_,_,h5,fun hg=>⟨fun _ y hy=>by simp[cy.dh] at hy;subst hy;exact h1 hg,fun f hf=> ?_⟩⟩
  simp only[cA,hf x (h1 hg),h4 hg,h6 hg,Option.map_some]
 case st ag k x y=>
  obtain⟨h1,h2⟩:=cG h
  obtain⟨h3,h4⟩:=cG h2
  split at h4
  ·rename_i b len i off hx
   obtain⟨e,sz,d,es,g1,g2,g3⟩:=h4.ok
   obtain⟨e',g4,g5⟩:=g3.ok.ok
   refine⟨_,_,g5,fun hg=>⟨fun _ z hz=>by simp[cy.dh] at hz;rcases hz with rfl|rfl;exact h1 hg;exact h3 hg,fun f hf=> ?_⟩⟩
   simp only[cA,hf x (h1 hg),hf y (h3 hg),hx,g1,g4]
   rw[if_pos (cN.1 g2 hg)]
  ·exact h4.elim
 case OF x=>
  obtain⟨h1,h2⟩:=cG h
  split at h2
  all_goals first
   |exact h2.elim
   |(rename_i hx;exact⟨_,_,h2,fun hg=>⟨fun hr=>by simp[cy.rd] at hr,fun f hf=>by simp only[cA,hf x (h1 hg),hx]⟩⟩)
 case bin op x y=>
  obtain⟨h1,h2⟩:=cG h
  obtain⟨h3,h4⟩:=cG h2
  split at h4
  all_goals first
   |exact h4.elim
   |(rename_i hx hy;obtain⟨q1,q2⟩:=h4;obtain⟨m,q3,q4⟩:=q2.ok;refine⟨_,_,q4,fun hg=>⟨fun hr=>by simp[cy.rd] at hr,fun f hf=> ?_⟩⟩;simp only[cA,hf x (h1 hg),hf y (h3 hg),hx,hy,BN];rw[if_pos (cN.1 q1 hg),q3 hg];rfl)
   |(rename_i hx hy;refine⟨_,_,h4.2,fun hg=>⟨fun hr=>by simp[cy.rd] at hr,fun f hf=> ?_⟩⟩;simp only[cA,hf x (h1 hg),hf y (h3 hg),hx,hy,BN];rw[if_pos (cN.1 h4.1 hg)];rfl)
 case NI neg x y=>
  obtain⟨h1,h2⟩:=cG h
  obtain⟨h3,h4⟩:=cG h2
  split at h4
  ·rename_i p q hx hy
   cases neg
   all_goals exact⟨_,_,h4,fun hg=>⟨fun hr=>by simp[cy.rd] at hr,fun f hf=>by simp[cA,hf x (h1 hg),hf y (h3 hg),hx,hy]⟩⟩
  ·exact h4.elim
 case tu neg x y=>
  obtain⟨h1,h2⟩:=cG h
  obtain⟨h3,h4⟩:=cG h2
  split at h4
  ·rename_i p q hx hy
   cases neg
   all_goals exact⟨_,_,h4,fun hg=>⟨fun hr=>by simp[cy.rd] at hr,fun f hf=>by simp[cA,hf x (h1 hg),hf y (h3 hg),hx,hy]⟩⟩
  ·exact h4.elim
 case BP op x y=>
  obtain⟨h1,h2⟩:=cG h
  obtain⟨h3,h4⟩:=cG h2
  split at h4
  ·rename_i p q hx hy
   cases op
   case add=>exact⟨_,_,h4.2,fun hg=>⟨fun hr=>by simp[cy.rd] at hr,fun f hf=>by simp only[cA,hf x (h1 hg),hf y (h3 hg),hx,hy,I6];rw[if_pos (cN.1 h4.1 hg)];rfl⟩⟩
   case lss=>exact⟨_,_,h4,fun hg=>⟨fun hr=>by simp[cy.rd] at hr,fun f hf=>by simp only[cA,hf x (h1 hg),hf y (h3 hg),hx,hy,I6];rfl⟩⟩
   all_goals exact h4.elim
  ·exact h4.elim
 case JY sz ag z x=>
  obtain⟨h1,h2⟩:=cG h
  split at h2
  ·rename_i b len lo n hx
   obtain⟨e,s,d,es,q1,q2,q3⟩:=h2.ok
   exact⟨_,_,q3,fun hg=>⟨fun hr y hy=>by simp[cy.dh] at hy;subst hy;exact h1 hg,fun f hf=>by
    simp only[cA,hf x (h1 hg),hx,q1];rw[if_pos (cN.1 q2 hg)]⟩⟩
  ·exact h2.elim
 case L4 x=>
  obtain⟨h1,h2⟩:=cG h
  obtain⟨xs,h3,h4⟩:=lM h2
  obtain⟨ns,h5,h6⟩:=h3.ok
  exact⟨_,_,h6,fun hg=>⟨fun hr y hy=>by simp[cy.dh] at hy;subst hy;exact h1 hg,fun f hf=>by
   obtain⟨q1,q2⟩:=h4 hg
   simp only[cA,hf x (h1 hg),q1,q2,if_true,h5 hg,Option.map_some]⟩⟩
 case un op x=>
  obtain⟨h1,h2⟩:=cG h
  split at h2
  all_goals first
   |exact h2.elim
   |(rename_i hx;obtain⟨m,q3,q4⟩:=h2.ok;exact⟨_,_,q4,fun hg=>⟨fun hr=>by simp[cy.rd] at hr,fun f hf=>by simp only[cA,hf x (h1 hg),hx,OO,Option.map_some,q3 hg]⟩⟩)
   |(rename_i hx;exact⟨_,_,h2,fun hg=>⟨fun hr=>by simp[cy.rd] at hr,fun f hf=>by simp only[cA,hf x (h1 hg),hx,OO,Option.map_some]⟩⟩)
 case NW k x=>
  obtain⟨h1,h2⟩:=cG h
  split at h2
  all_goals first
   |exact h2.elim
   |(rename_i hx;obtain⟨m,q3,q4⟩:=h2.ok;exact⟨_,_,q4,fun hg=>⟨fun hr=>by simp[cy.rd] at hr,fun f hf=>by simp only[cA,hf x (h1 hg),hx,q3 hg]⟩⟩)
 case fa off x=>
  obtain⟨h1,h2⟩:=cG h
  have hr:Gd g->((cy.fa off x).rd=true->∀y∈(cy.fa off x).dh,C5 R y):=fun hg _ y hy=>by simp[cy.dh] at hy;subst hy;exact h1 hg
  split at h2
  ·rename_i hx
   refine⟨_,_,h2.2,fun hg=>⟨hr hg,fun f hf=> ?_⟩⟩
   simp only[cA,hf x (h1 hg),hx];rw[if_pos (cN.1 h2.1 hg)]
  ·rename_i hx
   obtain⟨e,sz,d,es,g1,g2,g3⟩:=h2.ok
   refine⟨_,_,g3,fun hg=>⟨hr hg,fun f hf=> ?_⟩⟩
   simp only[cA,hf x (h1 hg),hx,g1];rw[if_pos (cN.1 g2 hg)]
  ·exact h2.elim
 case ia k n x i=>
  obtain⟨h1,h2⟩:=cG h
  obtain⟨h3,h4⟩:=cG h2
  have hr:Gd g->((cy.ia k n x i).rd=true->∀y∈(cy.ia k n x i).dh,C5 R y):=fun hg _ y hy=>by simp[cy.dh] at hy;rcases hy with rfl|rfl;exact h1 hg;exact h3 hg
  split at h4
  ·rename_i kk j hi
   cases n with
   |none=>
    simp only at h4
    split at h4
    ·rename_i hx
     refine⟨_,_,h4.2.2,fun hg=>⟨hr hg,fun f hf=> ?_⟩⟩
     simp only[cA,hf x (h1 hg),hf i (h3 hg),hx,hi,FG]
     rw[if_pos ⟨cN.1 h4.1 hg,cN.1 h4.2.1 hg⟩];rfl
    ·rename_i hx
     obtain⟨e,sz,d,es,g1,g2,g3,g4⟩:=h4.ok
     refine⟨_,_,g4,fun hg=>⟨hr hg,fun f hf=> ?_⟩⟩
     obtain⟨q1,q2⟩:=cN.1 g2 hg
     simp only[cA,hf x (h1 hg),hf i (h3 hg),hx,hi,FG,g1]
     rw[if_pos ⟨q1,q2,cN.1 g3 hg⟩];rfl
    ·rename_i hx
     obtain⟨e,sz,d,es,g1,g2,g3,g4⟩:=h4.ok
     refine⟨_,_,g4,fun hg=>⟨hr hg,fun f hf=> ?_⟩⟩
     obtain⟨q1,q2⟩:=cN.1 g2 hg
     simp only[cA,hf x (h1 hg),hf i (h3 hg),hx,hi,FG,g1]
     rw[if_pos ⟨q1,q2,cN.1 g3 hg⟩];rfl
    ·exact h4.elim
   |some m=>
    simp only at h4
    split at h4
    ·rename_i hx
     refine⟨_,_,h4.2.2,fun hg=>⟨hr hg,fun f hf=> ?_⟩⟩
     simp only[cA,hf x (h1 hg),hf i (h3 hg),hx,hi,FG]
     rw[if_pos ⟨cN.1 h4.1 hg,cN.1 h4.2.1 hg⟩];rfl
    ·rename_i hx
     obtain⟨e,sz,d,es,g1,g2,g3,g4⟩:=h4.ok
     refine⟨_,_,g4,fun hg=>⟨hr hg,fun f hf=> ?_⟩⟩
     obtain⟨q1,q2⟩:=cN.1 g2 hg
     simp only[cA,hf x (h1 hg),hf i (h3 hg),hx,hi,FG,g1]
     rw[if_pos ⟨q1,q2,cN.1 g3 hg⟩];rfl
    ·exact h4.elim
  ·exact h4.elim
 case N4 off k ag x=>
  obtain⟨h1,h2⟩:=cG h
  split at h2
  ·rename_i cs hx
   cases ag with
   |true=>
    refine⟨_,_,h2.2,fun hg=>⟨fun hr=>by simp[cy.rd] at hr,fun f hf=> ?_⟩⟩
    simp only[cA,hf x (h1 hg),hx,if_true];rw[if_pos (cN.1 h2.1 hg)]
   |false=>
    have h3:=h2.2.ok
    rw[ew] at h3
    refine⟨_,_,h3,fun hg=>⟨fun hr=>by simp[cy.rd] at hr,fun f hf=> ?_⟩⟩
    obtain⟨q1,q2⟩:=cN.1 h2.1 hg
    simp only[cA,hf x (h1 hg),hx,Bool.false_eq_true,if_false];rw[if_pos q1,if_pos q2]
  ·exact h2.elim
 case ix k ag n x i=>
  obtain⟨h1,h2⟩:=cG h
  obtain⟨h3,h4⟩:=cG h2
  split at h4
  ·rename_i cs kk j hx hi
   obtain⟨p1,p2,p3⟩:=h4
   cases ag with
   |true=>
    refine⟨_,_,p3,fun hg=>⟨fun hr=>by simp[cy.rd] at hr,fun f hf=> ?_⟩⟩
    have q2:=cN.1 p2 hg
    simp only[cA,hf x (h1 hg),hf i (h3 hg),hx,hi,if_true];rw[if_pos ⟨q2.1,q2.2,cN.1 p1 hg⟩]
   |false=>
    have h5:=p3.2.ok
    rw[ew] at h5
    refine⟨_,_,h5,fun hg=>⟨fun hr=>by simp[cy.rd] at hr,fun f hf=> ?_⟩⟩
    have q2:=cN.1 p2 hg
    simp only[cA,hf x (h1 hg),hf i (h3 hg),hx,hi,Bool.false_eq_true,if_false];rw[if_pos ⟨q2.1,q2.2,cN.1 p1 hg⟩,if_pos (cN.1 p3.1 hg)]
  ·exact h4.elim
 case OA x i=>
  obtain⟨h1,h2⟩:=cG h
  obtain⟨h3,h4⟩:=cG h2
  split at h4
  ·rename_i hx hi
   refine⟨_,_,h4.2,fun hg=>⟨fun hr=>by simp[cy.rd] at hr,fun f hf=> ?_⟩⟩
   simp only[cA,hf x (h1 hg),hf i (h3 hg),hx,hi];rw[if_pos (cN.1 h4.1 hg)]
  ·exact h4.elim
 case lens x=>
  obtain⟨h1,h2⟩:=cG h
  split at h2
  all_goals first
   |exact h2.elim
   |(rename_i hx;exact⟨_,_,h2,fun hg=>⟨fun hr=>by simp[cy.rd] at hr,fun f hf=>by simp only[cA,hf x (h1 hg),hx]⟩⟩)
 case MQ e sz bytes ag z l c=>
  obtain⟨h1,h2⟩:=cG h
  obtain⟨h3,h4⟩:=cG h2
  split at h4
  ·rename_i hx hi
   refine⟨_,_,h4.2.2,fun hg=>⟨fun hr=>by simp[cy.rd] at hr,fun f hf=> ?_⟩⟩
   obtain⟨q1,q2⟩:=cN.1 h4.1 hg
   obtain⟨q3,q4,q5⟩:=cN.1 h4.2.1 hg
   simp only[cA,hf l (h1 hg),hf c (h3 hg),hx,hi];rw[if_pos ⟨q1,q3,q2,q4,q5⟩]
  ·exact h4.elim
 case ext i x=>
  obtain⟨h1,h2⟩:=cG h
  split at h2
  ·rename_i hx
   have h3:=h2.2.ok
   rw[ew] at h3
   refine⟨_,_,h3,fun hg=>⟨fun hr=>by simp[cy.rd] at hr,fun f hf=> ?_⟩⟩
   simp only[cA,hf x (h1 hg),hx];rw[if_pos (cN.1 h2.1 hg)]
  ·exact h2.elim
 case NK fn first caps=>
  obtain⟨h1,h2⟩:=fX h
  obtain⟨h3,h4⟩:=fX h2
  refine⟨_,_,h4,fun hg=>⟨fun hr=>by simp[cy.rd] at hr,fun f hf=> ?_⟩⟩
  simp only[cA]
  rw[lN (R:=R) fun x hx=>hf x (h1 hg x hx),lN (R:=R) fun x hx=>hf x (h3 hg x hx)]
 case OE t x=>
  obtain⟨h1,h2⟩:=cG h
  exact⟨_,_,h2,fun hg=>⟨fun hr=>by simp[cy.rd] at hr,fun f hf=>by simp only[cA,hf x (h1 hg)]⟩⟩
 case len x=>
  obtain⟨h1,h2⟩:=cG h
  have hr:Gd g->((cy.len x).rd=true->∀y∈(cy.len x).dh,C5 R y):=fun hg _ y hy=>by simp[cy.dh] at hy;subst hy;exact h1 hg
  split at h2
  ·rename_i hx;exact⟨_,_,h2,fun hg=>⟨hr hg,fun f hf=>by simp only[cA,hf x (h1 hg),hx,sB]⟩⟩
  ·rename_i hx
   obtain⟨e,sz,d,es,g1,g2,g3⟩:=h2.ok
   refine⟨_,_,g3,fun hg=>⟨hr hg,fun f hf=> ?_⟩⟩
   simp only[cA,hf x (h1 hg),hx,sB,g1];rw[if_pos (cN.1 g2 hg)]
  ·rename_i hx;exact⟨_,_,h2,fun hg=>⟨hr hg,fun f hf=>by simp[cA,hf x (h1 hg),hx,sB]⟩⟩
  ·rename_i hx;exact⟨_,_,h2,fun hg=>⟨hr hg,fun f hf=>by simp[cA,hf x (h1 hg),hx,sB]⟩⟩
  ·rename_i hx;exact⟨_,_,h2,fun hg=>⟨hr hg,fun f hf=>by simp only[cA,hf x (h1 hg),hx,sB]⟩⟩
  ·exact h2.elim
 case app e sz bytes ag z s x=>
  obtain⟨h1,h2⟩:=cG h
  obtain⟨h3,h4⟩:=cG h2
  obtain⟨xs,⟨h5,h5'⟩,h6⟩:=lM h4
  have hr:Gd g->((cy.app e sz bytes ag z s x).rd=true->∀y∈(cy.app e sz bytes ag z s x).dh,C5 R y):=fun hg _ y hy=>by simp[cy.dh] at hy;rcases hy with rfl|rfl;exact h1 hg;exact h3 hg
  split at h5'
  ·rename_i hx
   refine⟨_,_,h5'.2,fun hg=>⟨hr hg,fun f hf=> ?_⟩⟩
   obtain⟨q1,q2⟩:=h6 hg
   simp only[cA,hf s (h1 hg),hf x (h3 hg),hx,q1];rw[if_pos ⟨q2,cN.1 h5 hg⟩,if_pos (cN.1 h5'.1 hg)]
  ·rename_i hx
   obtain⟨e',sz',d,es,g1,g2,g3,g4⟩:=h5'.ok
   refine⟨_,_,g4,fun hg=>⟨hr hg,fun f hf=> ?_⟩⟩
   obtain⟨q1,q2⟩:=h6 hg
   obtain⟨q3,q4,q5⟩:=cN.1 g2 hg
   simp only[cA,hf s (h1 hg),hf x (h3 hg),hx,q1,g1];rw[if_pos ⟨q2,cN.1 h5 hg⟩,if_pos ⟨q3,q4,q5,cN.1 g3 hg⟩]
  ·exact h5'.elim
 case D7 e bytes z s x=>
  obtain⟨h1,h2⟩:=cG h
  obtain⟨h3,h4⟩:=cG h2
  have hr:Gd g->((cy.D7 e bytes z s x).rd=true->∀y∈(cy.D7 e bytes z s x).dh,C5 R y):=fun hg _ y hy=>by simp[cy.dh] at hy;rcases hy with rfl|rfl;exact h1 hg;exact h3 hg
  split at h4
  ·rename_i q hq
   split at h4
   ·rename_i hx
    refine⟨_,_,h4.2,fun hg=>⟨hr hg,fun f hf=> ?_⟩⟩
    simp only[cA,hf s (h1 hg),hf x (h3 hg),hx,hq];rw[if_pos (cN.1 h4.1 hg)]
   ·rename_i hx
    obtain⟨e',sz',d,es,g1,g2,g3,g4⟩:=h4.ok
    refine⟨_,_,g4,fun hg=>⟨hr hg,fun f hf=> ?_⟩⟩
    obtain⟨q3,q4,q5⟩:=cN.1 g2 hg
    simp only[cA,hf s (h1 hg),hf x (h3 hg),hx,hq,g1];rw[if_pos ⟨q3,q4,q5,cN.1 g3 hg⟩]
   ·exact h4.elim
  ·exact h4.elim
 case C2 neg x=>
  obtain⟨h1,h2⟩:=cG h
  split at h2
  all_goals first
   |exact h2.elim
   |(rename_i hx;exact⟨_,_,h2,fun hg=>⟨fun hr=>by simp[cy.rd] at hr,fun f hf=>by simp only[cA,hf x (h1 hg),hx]⟩⟩)
 case x9 neg x=>
  obtain⟨h1,h2⟩:=cG h
  obtain⟨t,h3,h4⟩:=h2.ok
  rw[ew] at h4
  refine⟨_,_,h4,fun hg=>⟨fun _ y hy=>by simp[cy.dh] at hy;subst hy;exact h1 hg,fun f hf=> ?_⟩⟩
  simp only[cA,hf x (h1 hg),h3]
 case eqs neg ks x y=>
  obtain⟨h1,h2⟩:=cG h
  obtain⟨h3,h4⟩:=cG h2
  split at h4
  ·rename_i hx hy
   obtain⟨t,g1,g2⟩:=h4.ok
   cases neg
   all_goals exact⟨_,_,g2,fun hg=>⟨fun hr=>by simp[cy.rd] at hr,fun f hf=>by simp[cA,hf x (h1 hg),hf y (h3 hg),hx,hy,g1]⟩⟩
  ·exact h4.elim
 case KY sz x lo hi=>
  obtain⟨h1,h2⟩:=cG h
  obtain⟨h3,h4⟩:=fX h2
  obtain⟨r,g1,g2⟩:=h4.ok
  rw[ew] at g2
  refine⟨_,_,g2,fun hg=>⟨fun _ y hy=> ?_,fun f hf=> ?_⟩⟩
  ·simp only[cy.dh,List.mem_append,List.mem_singleton] at hy
   rcases hy with(rfl|hy)|hy
   ·exact h1 hg
   ·exact h3 hg y (by simp only[List.mem_append];exact .inl hy)
   ·exact h3 hg y (by simp only[List.mem_append];exact .inr hy)
  ·simp only[cA,hf x (h1 hg)]
   have e1:∀y∈lo.toList++hi.toList,ev f y=(R y).2:=fun y hy=>hf y (h3 hg y hy)
   cases lo<;>cases hi<;>simp_all
 case MH n x i=>
  obtain⟨h1,h2⟩:=cG h
  obtain⟨h3,h4⟩:=cG h2
  split at h4
  ·rename_i b len kk j hx hi
   obtain⟨e,sz,d,es,g1,g2,g3,g4⟩:=h4.ok
   refine⟨_,_,g4,fun hg=>⟨fun _ y hy=>by simp[cy.dh] at hy;rcases hy with rfl|rfl;exact h1 hg;exact h3 hg,fun f hf=> ?_⟩⟩
   obtain⟨q1,q2,q3⟩:=cN.1 g2 hg
   obtain⟨q4,q5⟩:=cN.1 g3 hg
   simp only[cA,hf x (h1 hg),hf i (h3 hg),hx,hi,yq,g1]
   rw[if_pos ⟨q1,q2,q3,q4,q5⟩];rfl
  ·exact h4.elim
 case MZ n x i=>
  obtain⟨h1,h2⟩:=cG h
  obtain⟨h3,h4⟩:=cG h2
  split at h4
  ·rename_i b len kk j hx hi
   obtain⟨e,sz,d,es,g1,g2,g3,g4⟩:=h4.ok
   refine⟨_,_,g4,fun hg=>⟨fun _ y hy=>by simp[cy.dh] at hy;rcases hy with rfl|rfl;exact h1 hg;exact h3 hg,fun f hf=> ?_⟩⟩
   obtain⟨q1,q2,q3⟩:=cN.1 g2 hg
   obtain⟨q4,q5⟩:=cN.1 g3 hg
   simp only[cA,hf x (h1 hg),hf i (h3 hg),hx,hi,zu,g1]
   rw[if_pos ⟨q1,q2,q3,q4,q5⟩];rfl
  ·exact h4.elim
 case bad=>exact h.elim
 case K8 e n=>exact⟨_,_,h,fun hg=>⟨fun hr=>by simp[cy.rd] at hr,fun f hf=>rfl⟩⟩
 case NL sz x a b=>
  obtain⟨h1,h2⟩:=cG h
  obtain⟨h3,h4⟩:=cG h2
  obtain⟨h5,h6⟩:=cG h4
  obtain⟨r,g1,g2⟩:=h6.ok
  rw[ew] at g2
  refine⟨_,_,g2,fun hg=>⟨fun _ y hy=> ?_,fun f hf=> ?_⟩⟩
  ·simp only[cy.dh,List.mem_cons,List.not_mem_nil,or_false] at hy
   rcases hy with rfl|rfl|rfl
   ·exact h1 hg
   ·exact h3 hg
   ·exact h5 hg
  ·simp only[cA,hf x (h1 hg),hf a (h3 hg),hf b (h5 hg),g1]
   rfl
 case JZ sz x y=>
  obtain⟨h1,h2⟩:=cG h
  obtain⟨h3,h4⟩:=cG h2
  split at h4
  ·rename_i b len hx
   obtain⟨xs,h5,h6⟩:=lM h4
   obtain⟨e,s,d,es,g1,g2,g3⟩:=h5.ok
   refine⟨_,_,g3,fun hg=>⟨fun _ z hz=>by simp[cy.dh] at hz;rcases hz with rfl|rfl;exact h1 hg;exact h3 hg,fun f hf=> ?_⟩⟩
   obtain⟨q1,q2⟩:=h6 hg
   obtain⟨q3,q4⟩:=cN.1 g2 hg
   simp only[cA,hf x (h1 hg),hf y (h3 hg),hx,q1,g1];rw[if_pos ⟨q3,q4,q2⟩]
  ·exact h4.elim
 case call f as=>exact h.elim
 case LL kt=>exact⟨_,_,h,fun hg=>⟨fun hr=>by simp[cy.rd] at hr,fun f hf=>rfl⟩⟩
 case BO sz v=>exact⟨_,_,h,fun hg=>⟨fun hr=>by simp[cy.rd] at hr,fun f hf=>rfl⟩⟩
 case vq e sz v=>exact⟨_,_,h,fun hg=>⟨fun hr=>by simp[cy.rd] at hr,fun f hf=>rfl⟩⟩
 case zA x=>
  obtain⟨h1,h2⟩:=cG h
  obtain⟨b,e,d,es,h3,h4⟩:=lF h2
  exact⟨_,_,h4,fun hg=>⟨fun _ y hy=>by simp[cy.dh] at hy;subst hy;exact h1 hg,fun f hf=>by simp only[cA,hf x (h1 hg),h3]⟩⟩
 case KG str ag z ok x k=>
  obtain⟨h1,h2⟩:=cG h
  obtain⟨h3,h4⟩:=cG h2
  have hr:Gd g->((cy.KG str ag z ok x k).rd=true->∀y∈(cy.KG str ag z ok x k).dh,C5 R y):=fun hg _ y hy=>by simp[cy.dh] at hy;rcases hy with rfl|rfl;exact h1 hg;exact h3 hg
  split at h4
  ·rename_i kv hk
   obtain⟨b,e,d,es,h5,h6,h7⟩:=lF h4
   obtain⟨p,h8,h9⟩:=h7.ok
   cases ok with
   |true=>
    refine⟨_,_,h9,fun hg=>⟨hr hg,fun f hf=> ?_⟩⟩
    have h10:=h8 hg
    unfold q6 at h10
    simp only[cA,hf x (h1 hg),hf k (h3 hg),h5,hk]
    rw[if_pos (cN.1 h6 hg)]
    split at h10<;>simp only[Option.some.injEq,reduceCtorEq] at h10
    ·subst h10;simp_all
    ·subst h10;simp_all
   |false=>
    simp only[ew] at h9
    refine⟨_,_,h9,fun hg=>⟨hr hg,fun f hf=> ?_⟩⟩
    have h10:=h8 hg
    unfold q6 at h10
    simp only[cA,hf x (h1 hg),hf k (h3 hg),h5,hk]
    rw[if_pos (cN.1 h6 hg)]
    split at h10<;>simp only[Option.some.injEq,reduceCtorEq] at h10
    ·subst h10;simp_all
    ·subst h10;simp_all
  ·exact h4.elim
 case DU str x k y=>
  obtain⟨h1,h2⟩:=cG h
  obtain⟨h3,h4⟩:=cG h2
  obtain⟨h3',h4'⟩:=cG h4
  have hr:Gd g->((cy.DU str x k y).rd=true->∀w∈(cy.DU str x k y).dh,C5 R w):=fun hg _ w hy=>by simp[cy.dh] at hy;rcases hy with rfl|rfl|rfl;exact h1 hg;exact h3 hg;exact h3' hg
  split at h4'
  ·rename_i kv hk
   obtain⟨b,e,d,es,h5,h6,h7⟩:=lF h4'
   obtain⟨p,h8,h9⟩:=h7.ok
   refine⟨_,_,h9,fun hg=>⟨hr hg,fun f hf=> ?_⟩⟩
   have h10:=h8 hg
   unfold tG at h10
   simp only[cA,hf x (h1 hg),hf k (h3 hg),hf y (h3' hg),h5,hk]
   rw[if_pos (cN.1 h6 hg)]
   split at h10<;>simp only[Option.some.injEq,reduceCtorEq] at h10
   ·subst h10;simp_all[yN]
   ·subst h10;simp_all[yN]
  ·exact h4'.elim
 case del str x k=>
  obtain⟨h1,h2⟩:=cG h
  obtain⟨h3,h4⟩:=cG h2
  have hr:Gd g->((cy.del str x k).rd=true->∀y∈(cy.del str x k).dh,C5 R y):=fun hg _ y hy=>by simp[cy.dh] at hy;rcases hy with rfl|rfl;exact h1 hg;exact h3 hg
  split at h4
  ·rename_i kv hk
   obtain⟨b,e,d,es,h5,h6,h7⟩:=lF h4
   obtain⟨p,h8,h9⟩:=h7.ok
   refine⟨_,_,h9,fun hg=>⟨hr hg,fun f hf=> ?_⟩⟩
   have h10:=h8 hg
   unfold IE at h10
   simp only[cA,hf x (h1 hg),hf k (h3 hg),h5,hk]
   rw[if_pos (cN.1 h6 hg)]
   split at h10<;>simp only[Option.some.injEq,reduceCtorEq] at h10
   ·subst h10;simp_all
   ·subst h10;simp_all
  ·exact h4.elim
 case OL t ok ag z x=>
  obtain⟨h1,h2⟩:=cG h
  split at h2
  ·rename_i t' v hx
   cases hb:Nat.beq t' t with
   |true=>
    rw[hb] at h2
    have e:=Nat.eq_of_beq_eq_true hb
    cases ok with
    |true=>
     simp only[cond_true] at h2
     exact⟨_,_,h2,fun hg=>⟨fun hr=>by simp[cy.rd] at hr,fun f hf=>by simp only[cA,hf x (h1 hg),hx];rw[if_pos e];rfl⟩⟩
    |false=>
     simp only[cond_true,ew] at h2
     exact⟨_,_,h2,fun hg=>⟨fun hr=>by simp[cy.rd] at hr,fun f hf=>by simp only[cA,hf x (h1 hg),hx];rw[if_pos e];rfl⟩⟩
   |false=>
    rw[hb] at h2
    have e:¬t'=t:=fun e=>by rw[e] at hb;simp at hb
    cases ok with
    |true=>
     simp only[cond_false] at h2
     exact⟨_,_,h2,fun hg=>⟨fun hr=>by simp[cy.rd] at hr,fun f hf=>by simp only[cA,hf x (h1 hg),hx];rw[if_neg e];rfl⟩⟩
    |false=>exact h2.elim
  ·exact h2.elim
end Go.dD
/- Code as a whole, run by reduction alone; it is so. -/
namespace Go.dD
open Go.RowKit
structure fc (t:Bool) (A B:Prop):Prop where
 ok:(t=true->A)/\(t=false->B)
theorem fc.lt {A B:Prop} (h:A):fc true A B:=⟨⟨fun _=>h,fun h=>(by cases h)⟩⟩
theorem fc.lf {A B:Prop} (h:B):fc false A B:=⟨⟨fun h=>(by cases h),fun _=>h⟩⟩
theorem fc.of {t:Bool} {A B:Prop} (h1:t=true->A) (h2:t=false->B):fc t A B:=⟨⟨h1,h2⟩⟩
structure du (t want:Bool) (A B J:Prop):Prop where
 ok:((t=want->A)/\(t≠want->B))\/J
theorem du.tt {A B J:Prop} (h:A):du true true A B J:=⟨.inl ⟨fun _=>h,fun h=>absurd rfl h⟩⟩
theorem du.tf {A B J:Prop} (h:B):du true false A B J:=⟨.inl ⟨fun h=>(by cases h),fun _=>h⟩⟩
theorem du.join {t want:Bool} {A B J:Prop} (h:J):du t want A B J:=⟨.inr h⟩
theorem du.split {t want:Bool} {A B J:Prop} (h1:t=want->A) (h2:t= !want->B):du t want A B J:=⟨.inl ⟨h1,fun h=>h2 (by cases t<;>cases want<;>simp_all)⟩⟩
structure jY (P:Program) (f:FuncId) (args:List AV) (H:Hp) (nx:Nat) (K:AV->Hp->Nat->Prop):Prop where
 ok:cM P f args H nx K
structure oF (P:Program) (g:Bool) (f:FuncId) (args:List AV) (H:Hp) (nx:Nat) (K:AV->Prop):Prop where
 ok:∃r,(g=true->∀(K':AV->Hp->Nat->Prop),K' r H (nx+1)->cM P f args H nx K')/\K r
structure l6 (P:Program) (id:Nat) (f:FuncId) (args:List AV) (H:Hp) (K:AV->Option (Nat×eO)->List Nat->Prop):Prop where
 ok:∃r u S,nJ P id (.fn (.func f) [] []) args H r u S/\K r u S
structure NM (P:Program) (t:TypeId) (v:AV) (nm:String) (args:List AV) (H:Hp) (nx:Nat) (K:AV->Hp->Nat->Prop):Prop where
 ok:tO P t v nm args H nx K
structure qv (P:Program) (g:Bool) (id:Nat) (f:FuncId) (args:List AV) (H:Hp) (K:AV->List Nat->Prop):Prop where
 ok:∃r S,(g=true->nJ P id (.fn (.func f) [] []) args H r none S)/\K r S
theorem Pure.L5 {P:Program} {f:FuncId} {args:List AV} {R:AV->Prop} {H:Hp} {nx:Nat} {K:AV->Hp->Nat->Prop} (h:Pure P f args R) (hf:cL 0 args) (hK:∀r,R r->K r H (nx+1)):cM P f args H nx K:=by
 have:=h.eE (H:=H) (nx:=nx) (K:=fun r H' n=>∃n',n<=n'/\K r H' n') hf fun r hr=>⟨_,Nat.le_succ _,hK r hr⟩
 refine⟨this.1,fun w0 c vs a1 a2 a3 a4=>(this.2 w0 c vs a1 a2 a3 a4).mono ?_⟩
 rintro e w' ⟨v,r,H',nx',ρ,U,he,⟨n',hn,hR⟩,hU,hrest⟩
 exact⟨v,r,H',n',ρ,U,he,hR,fun b hb=>Nat.lt_of_lt_of_le (hU b hb) hn,hrest⟩
theorem jY.pure {P:Program} {f:FuncId} {args:List AV} {R:AV->Prop} {H:Hp} {nx:Nat} {K:AV->Hp->Nat->Prop} (h:Pure P f args R) (hf:cL 0 args) (hK:∀r,R r->K r H nx):jY P f args H nx K:=⟨h.eE hf hK⟩
theorem jY.JP {P:Program} {f:FuncId} {args:List AV} {r:AV} {H:Hp} {nx:Nat} {K:AV->Hp->Nat->Prop} (h:Pure P f args (fun x=>x=r)) (hf:cL 0 args) (hK:K r H nx):jY P f args H nx K:=⟨h.eE hf fun x hx=>by rw[hx];exact hK⟩
theorem jY.of {P:Program} {f:FuncId} {args:List AV} {H:Hp} {nx:Nat} {R K:AV->Hp->Nat->Prop} (h:cM P f args H nx R) (hK:∀r H' nx',R r H' nx'->K r H' nx'):jY P f args H nx K:=⟨h.mono hK⟩
theorem oF.JP {P:Program} {g:Bool} {f:FuncId} {args:List AV} {r:AV} {H:Hp} {nx:Nat} {K:AV->Prop} (h:g=true->Pure P f args (fun x=>x=r)) (hf:cL 0 args) (hK:K r):oF P g f args H nx K:=
 ⟨⟨r,fun hg K' hK'=>(h hg).L5 hf fun x hx=>by rw[hx];exact hK',hK⟩⟩
theorem l6.JP {P:Program} {id:Nat} {f:FuncId} {args:List AV} {H:Hp} {r:AV} {K:AV->Option (Nat×eO)->List Nat->Prop} (h:Pure P f args (fun x=>x=r)) (hf:cL 0 args) (hK:K r none []):l6 P id f args H K:=
 ⟨⟨r,none,[],Pure.IV (by simpa using hf) (by simpa using h),hK⟩⟩
theorem qv.JP {P:Program} {g:Bool} {id:Nat} {f:FuncId} {args:List AV} {H:Hp} {r:AV} {K:AV->List Nat->Prop} (h:g=true->Pure P f args (fun x=>x=r)) (hf:cL 0 args) (hK:K r []):qv P g id f args H K:=
 ⟨⟨r,[],fun hg=>Pure.IV (by simpa using hf) (by simpa using h hg),hK⟩⟩
theorem l6.fresh {P:Program} {id:Nat} {f:FuncId} {args:List AV} {H:Hp} {r:AV} {u:Option (Nat×eO)} (S:List Nat) {K:AV->Option (Nat×eO)->List Nat->Prop}
 (h:∀H1,(∀b∈S,bk H1 b=bk H b)->nH P f args H1 id (fun r' H'=>r'=r/\H'=cu H1 u)) (hu:∀b q,u=some (b,q)->b=id) (hK:K r u S):l6 P id f args H K:=
 ⟨⟨r,u,S,⟨by simpa using h,hu⟩,hK⟩⟩
section
variable (P:Program)
noncomputable def vl (nx:Nat) (R:Raw) (H:Hp) (op:cy) (K:AV->Hp->Nat->Prop):Prop:=
 match op with
 | .call f args=>cr none R f fun fv=>kZ none R args fun as=>match fv with
  | .fn (.func g) first caps=>pN (first++as++caps) fun as=>jY P g as H nx K
  | .fn (.method nm) [.mO t v] []=>pN as fun as=>NM P t v nm as H nx K
  |_=>False
 |op=>ot none H R nx op fun r u=>K r (cu H u) (nx+1)
noncomputable def mC (nx:Nat) (g:Bool) (R:Raw) (H:Hp) (op:cy) (K:AV->Prop):Prop:=
 match op with
 | .call f args=>cr (some g) R f fun fv=>kZ (some g) R args fun as=>match fv with
  | .fn (.func q) first caps=>pN (first++as++caps) fun as=>oF P g q as H nx K
  |_=>False
 |op=>ot (some g) H R nx op fun r u=>match u with
  |none=>K r
  |some _=>False
abbrev AL:=Nat->Ov->Fr->Hp->(Ov->Hp->Nat->Prop)->Prop
def vn (nx:Nat) (ov:Ov) (_:Fr) (H:Hp) (K:Ov->Hp->Nat->Prop):Prop:=K ov H nx
noncomputable def pF (g:iT) (_:List iT) (ih:AL) (nx:Nat) (ov:Ov) (fr:Fr) (H:Hp) (K:Ov->Hp->Nat->Prop):Prop:=match g.guard with
 |none=>vl P nx (fU ov fr) H g.op fun r H' nx'=>ih nx' (iH ov g.dst none r) fr H' K
 |some (d,want)=>match pQ ov fr d with
  |(none, .sc (.bool t))=>du t want (vl P nx (fU ov fr) H g.op fun r H' nx'=>ih nx' (iH ov g.dst none r) fr H' K) (ih (nx+1) (iH ov g.dst none (.sc undef)) fr H K)
   (match want with
    |true=>mC P nx t (fU ov fr) H g.op fun r=>ih (nx+1) (iH ov g.dst (some t) r) fr H K
    |false=>mC P nx (!t) (fU ov fr) H g.op fun r=>ih (nx+1) (iH ov g.dst (some !t) r) fr H K)
  |(some q, .sc (.bool t))=>(match want with
   |true=>mC P nx (q&&t) (fU ov fr) H g.op fun r=>ih (nx+1) (iH ov g.dst (some (q&&t)) r) fr H K
   |false=>mC P nx (q&& !t) (fU ov fr) H g.op fun r=>ih (nx+1) (iH ov g.dst (some (q&& !t)) r) fr H K)
  |(none, .sc (.tuple _))=>ih (nx+1) (iH ov g.dst none (.sc undef)) fr H K
  |_=>False
noncomputable def BK (nx:Nat) (gs:List iT) (ov:Ov) (fr:Fr) (H:Hp) (K:Ov->Hp->Nat->Prop):Prop:=List.rec (motive:=fun _=>AL) vn (pF P) gs nx ov fr H K
def CK (R:Raw) (op:cy):List Nat:=if op.rd then op.dh.flatMap (fun x=>hZ (R x).2) else[]
noncomputable def nZ (id:Nat) (R:Raw) (H:Hp) (op:cy) (K:AV->Option (Nat×eO)->List Nat->Prop):Prop:=
 match op with
 | .call f args=>cr none R f fun fv=>kZ none R args fun as=>match fv with
  | .fn (.func g) first caps=>pN (first++as++caps) fun as=>l6 P id g as H K
  |_=>False
 |op=>ot none H R id op fun r u=>K r u (CK R op)
noncomputable def jS (id:Nat) (g:Bool) (R:Raw) (H:Hp) (op:cy) (K:AV->List Nat->Prop):Prop:=
 match op with
 | .call f args=>cr (some g) R f fun fv=>kZ (some g) R args fun as=>match fv with
  | .fn (.func q) first caps=>pN (first++as++caps) fun as=>qv P g id q as H K
  |_=>False
 |op=>ot (some g) H R id op fun r u=>match u with
  |none=>K r (CK R op)
  |some _=>False
abbrev OT:=Nat->Ov->Fr->Hp->Tr->(Ov->Hp->Tr->Prop)->Prop
def DZ (_:Nat) (ov:Ov) (_:Fr) (H:Hp) (tr:Tr) (K:Ov->Hp->Tr->Prop):Prop:=K ov H tr
noncomputable def oJ (g:iT) (_:List iT) (ih:OT) (id:Nat) (ov:Ov) (fr:Fr) (H:Hp) (tr:Tr) (K:Ov->Hp->Tr->Prop):Prop:=match g.guard with
 |none=>nZ P id (fU ov fr) H g.op fun r u S=>ih (id+1) (iH ov g.dst none r) fr (cu H u) (tr++[(S,u.map (·.1))]) K
 |some (d,want)=>match pQ ov fr d with
  |(none, .sc (.bool t))=>du t want (nZ P id (fU ov fr) H g.op fun r u S=>ih (id+1) (iH ov g.dst none r) fr (cu H u) (tr++[(S,u.map (·.1))]) K) (ih (id+1) (iH ov g.dst none (.sc undef)) fr H (tr++[([],none)]) K)
   (match want with
    |true=>jS P id t (fU ov fr) H g.op fun r S=>ih (id+1) (iH ov g.dst (some t) r) fr H (tr++[(S,none)]) K
    |false=>jS P id (!t) (fU ov fr) H g.op fun r S=>ih (id+1) (iH ov g.dst (some !t) r) fr H (tr++[(S,none)]) K)
  |(some q, .sc (.bool t))=>(match want with
   |true=>jS P id (q&&t) (fU ov fr) H g.op fun r S=>ih (id+1) (iH ov g.dst (some (q&&t)) r) fr H (tr++[(S,none)]) K
   |false=>jS P id (q&& !t) (fU ov fr) H g.op fun r S=>ih (id+1) (iH ov g.dst (some (q&& !t)) r) fr H (tr++[(S,none)]) K)
  |(none, .sc (.tuple _))=>ih (id+1) (iH ov g.dst none (.sc undef)) fr H (tr++[([],none)]) K
  |_=>False
noncomputable def WD (id:Nat) (gs:List iT) (ov:Ov) (fr:Fr) (H:Hp) (tr:Tr) (K:Ov->Hp->Tr->Prop):Prop:=List.rec (motive:=fun _=>OT) DZ (oJ P) gs id ov fr H tr K
noncomputable def MS (S:List Nat):(List Nat->Prop)->Prop:=List.rec (motive:=fun _=>(List Nat->Prop)->Prop) (fun K=>K []) (fun b _ ih K=>ih fun S'=>K (b::S')) S
theorem zL:∀(S:List Nat) (K:List Nat->Prop),MS S K=K S
 |[],_=>rfl
 |b::S,K=>zL S fun S'=>K (b::S')
def uW (u:Option (Nat×eO)) (K:Option Nat->Prop):Prop:=match u with
 |none=>K none
 |some (b,_)=>K (some b)
theorem ON (u:Option (Nat×eO)) (K:Option Nat->Prop):uW u K=K (u.map (·.1)):=by
 cases u<;>rfl
noncomputable def uk (g:iT) (_:List iT) (ih:OT) (id:Nat) (ov:Ov) (fr:Fr) (H:Hp) (tr:Tr) (K:Ov->Hp->Tr->Prop):Prop:=match g.guard with
 |none=>nZ P id (fU ov fr) H g.op fun r u S=>MS S fun S=>uW u fun x=>ih (id+1) (iH ov g.dst none r) fr (cu H u) ((S,x)::tr) K
 |some (d,want)=>match pQ ov fr d with
  |(none, .sc (.bool t))=>du t want (nZ P id (fU ov fr) H g.op fun r u S=>MS S fun S=>uW u fun x=>ih (id+1) (iH ov g.dst none r) fr (cu H u) ((S,x)::tr) K) (ih (id+1) (iH ov g.dst none (.sc undef)) fr H (([],none)::tr) K)
   (match want with
    |true=>jS P id t (fU ov fr) H g.op fun r S=>MS S fun S=>ih (id+1) (iH ov g.dst (some t) r) fr H ((S,none)::tr) K
    |false=>jS P id (!t) (fU ov fr) H g.op fun r S=>MS S fun S=>ih (id+1) (iH ov g.dst (some !t) r) fr H ((S,none)::tr) K)
  |(some q, .sc (.bool t))=>(match want with
   |true=>jS P id (q&&t) (fU ov fr) H g.op fun r S=>MS S fun S=>ih (id+1) (iH ov g.dst (some (q&&t)) r) fr H ((S,none)::tr) K
   |false=>jS P id (q&& !t) (fU ov fr) H g.op fun r S=>MS S fun S=>ih (id+1) (iH ov g.dst (some (q&& !t)) r) fr H ((S,none)::tr) K)
  |(none, .sc (.tuple _))=>ih (id+1) (iH ov g.dst none (.sc undef)) fr H (([],none)::tr) K
  |_=>False
noncomputable def WE (id:Nat) (gs:List iT) (ov:Ov) (fr:Fr) (H:Hp) (tr:Tr) (K:Ov->Hp->Tr->Prop):Prop:=List.rec (motive:=fun _=>OT) DZ (uk P) gs id ov fr H tr K
theorem vk:∀(gs:List iT) (id:Nat) (ov:Ov) (fr:Fr) (H:Hp) (tr:Tr) (K:Ov->Hp->Tr->Prop),WE P id gs ov fr H tr K=WD P id gs ov fr H tr.reverse fun ov H t=>K ov H t.reverse
 |[],id,ov,fr,H,tr,K=>by
  show K ov H tr=K ov H tr.reverse.reverse
  rw[List.reverse_reverse]
 |g::gs,id,ov,fr,H,tr,K=>by
  have ih:=vk gs
  show uk P g gs (fun id ov fr H tr K=>WE P id gs ov fr H tr K) id ov fr H tr K=oJ P g gs (fun id ov fr H tr K=>WD P id gs ov fr H tr K) id ov fr H tr.reverse fun ov H t=>K ov H t.reverse
  simp only[uk,oJ,zL,ON,ih,List.reverse_cons]
noncomputable def JS (s:uj) (_:List uj) (ih:AL) (nx:Nat) (ov:Ov) (fr:Fr) (H:Hp) (K:Ov->Hp->Nat->Prop):Prop:=match s.ops with
 |[g]=>BK P nx [g] ov fr H fun ov' H' nx'=>ih nx' ov' fr H' K
 |gs=>WE P nx gs ov fr H [] fun ov' H' tr=>(match s.ps with
  |[]=>ih (nx+gs.length) ov' fr H' K
  |p::ps=>Ask (iw tr.reverse (p::ps))/\ih (nx+gs.length) ov' fr H' K)
noncomputable def WS (nx:Nat) (segs:List uj) (ov:Ov) (fr:Fr) (H:Hp) (K:Ov->Hp->Nat->Prop):Prop:=List.rec (motive:=fun _=>AL) vn (JS P) segs nx ov fr H K
structure jI (n lo:Nat) (x:LC) (fr:Fr) (H:Hp) (nx:Nat) (Q:QT):Prop where
 ok:WL P n lo (.loop x) fr H nx Q
abbrev WT:=Fr->Hp->Nat->QT->Prop
def LY (fr:Fr) (H:Hp) (nx:Nat) (Q:QT):Prop:=Q .normal fr H nx
noncomputable def D0 (gs:List iT) (fr:Fr) (H:Hp) (nx:Nat) (Q:QT):Prop:=BK P nx gs [] fr H fun ov H' nx'=>Q .normal (iS ov fr) H' nx'
structure lE (segs:List uj) (fr:Fr) (H:Hp) (nx:Nat) (Q:QT):Prop where
 ok:∀n lo,WL P n lo (.drawn segs) fr H nx Q
def JU (segs:List uj) (fr:Fr) (H:Hp) (nx:Nat) (Q:QT):Prop:=lE P segs fr H nx Q
def NO (_ _:LC) (ia ib:WT) (fr:Fr) (H:Hp) (nx:Nat) (Q:QT):Prop:=ia fr H nx (jv (fun fr H nx=>ib fr H nx Q) Q)
def yU (c:dZ) (_ _:LC) (ia ib:WT) (fr:Fr) (H:Hp) (nx:Nat) (Q:QT):Prop:=match ev fr c with
 | .sc (.bool t)=>fc t (ia fr H nx Q) (ib fr H nx Q)
 | .ab=>ia fr H nx Q/\ib fr H nx Q
 |_=>False
def JT (id:Nat) (_:LC) (ia:WT) (fr:Fr) (H:Hp) (nx:Nat) (Q:QT):Prop:=ia fr H nx (ux id Q)
def LX (n lo:Nat) (a:LC) (_:WT) (fr:Fr) (H:Hp) (nx:Nat) (Q:QT):Prop:=jI P n lo a fr H nx Q
def LW (id:Nat) (fr:Fr) (H:Hp) (nx:Nat) (Q:QT):Prop:=Q (.exit id) fr H nx
def NN (fr:Fr) (H:Hp) (nx:Nat) (Q:QT):Prop:=Q .ret fr H nx
noncomputable def W (n lo:Nat) (lc:LC):WT:=LC.rec (motive:=fun _=>WT) LY (D0 P) (JU P) NO yU JT (LX P n lo) LW NN lc
end
section
variable {P:Program}
theorem pn {nx:Nat} {ov:Ov} {f fr:Fr} {H:Hp} {op:cy} {K:AV->Hp->Nat->Prop} (hF:pE f ov fr) (h:vl P nx (fU ov fr) H op K):fK P nx f H op K:=by
 by_cases hc:∃g as,op= .call g as
 ·obtain⟨fo,as,rfl⟩:=hc
  simp only[vl] at h
  obtain⟨h1,h2⟩:=cG h
  obtain⟨h3,h4⟩:=fX h2
  simp only[fK]
  rw[hF.raw fo (h1 trivial),lN (R:=fU ov fr) fun x hx=>hF.raw x (h3 trivial x hx)]
  split at h4
  ·rename_i he
   rw[he]
   rw[je] at h4
   exact h4.ok
  ·rename_i he
   rw[he]
   rw[je] at h4
   exact h4.ok
  ·exact h4.elim
 ·have e1:vl P nx (fU ov fr) H op K=ot none H (fU ov fr) nx op fun r u=>K r (cu H u) (nx+1):=by cases op<;>first|rfl|exact absurd ⟨_,_,rfl⟩ hc
  have e2:fK P nx f H op K=jz (cA nx f H op) fun p=>K p.1 (cu H p.2) (nx+1):=by cases op<;>first|rfl|exact absurd ⟨_,_,rfl⟩ hc
  rw[e1] at h
  obtain⟨r,u,h1,h2⟩:=kR h
  rw[e2,(h2 trivial).2 f fun x hx=>hF.raw x hx]
  exact h1
theorem uq {nx:Nat} {g:Bool} {ov:Ov} {fr:Fr} {H:Hp} {op:cy} {K:AV->Prop} (h:mC P nx g (fU ov fr) H op K):
 ∃r,K r/\(g=true->∀f,pE f ov fr->∀K':AV->Hp->Nat->Prop,K' r H (nx+1)->fK P nx f H op K'):=by
 by_cases hc:∃g as,op= .call g as
 ·obtain⟨fo,as,rfl⟩:=hc
  simp only[mC] at h
  obtain⟨h1,h2⟩:=cG h
  obtain⟨h3,h4⟩:=fX h2
  split at h4
  ·rename_i he
   rw[je] at h4
   obtain⟨r,h5,h6⟩:=h4.ok
   refine⟨r,h6,fun hg f hF K' hK'=> ?_⟩
   simp only[fK]
   rw[hF.raw fo (h1 hg),lN (R:=fU ov fr) fun x hx=>hF.raw x (h3 hg x hx),he]
   exact h5 hg K' hK'
  ·exact h4.elim
 ·have e1:mC P nx g (fU ov fr) H op K=ot (some g) H (fU ov fr) nx op fun r u=>match u with|none=>K r|some _=>False:=by cases op<;>first|rfl|exact absurd ⟨_,_,rfl⟩ hc
  rw[e1] at h
  obtain⟨r,u,h1,h2⟩:=kR h
  cases u with
  |some p=>exact h1.elim
  |none=>
   refine⟨r,h1,fun hg f hF K' hK'=> ?_⟩
   have e2:fK P nx f H op K'=jz (cA nx f H op) fun p=>K' p.1 (cu H p.2) (nx+1):=by cases op<;>first|rfl|exact absurd ⟨_,_,rfl⟩ hc
   rw[e2,(h2 hg).2 f fun x hx=>hF.raw x hx]
   exact hK'
theorem fx:∀{gs:List iT} {nx:Nat} {ov:Ov} {f fr:Fr} {H:Hp} {K:Ov->Hp->Nat->Prop},pE f ov fr->BK P nx gs ov fr H K->fA P nx gs f H (fun f1 H1 nx1=>∃ov1,pE f1 ov1 fr/\K ov1 H1 nx1)
 |[],nx,ov,f,fr,H,K,hF,h=>⟨ov,hF,h⟩
 |g::gs,nx,ov,f,fr,H,K,hF,h=>by
  have join:∀{q t:Bool} {d:Nat} {want:Bool},g.guard=some (d,want)->(q=true->cc f d= .sc (.bool t))->(q=false->cc f d= .sc undef)->∀{gg:Bool},(gg=true↔(q=true/\t=want))->
   (mC P nx gg (fU ov fr) H g.op fun r=>BK P (nx+1) gs (iH ov g.dst (some gg) r) fr H K)->fA P nx (g::gs) f H (fun f1 H1 nx1=>∃ov1,pE f1 ov1 fr/\K ov1 H1 nx1):=by
   intro q t d want hg hq1 hq2 gg hgg hJ
   obtain⟨r,h1,h2⟩:=uq hJ
   simp only[fA,hg,cz]
   cases q with
   |true=>
    simp only[hq1 rfl]
    by_cases ht:t=want
    ·rw[if_pos ht]
     have hgt:=hgg.2 ⟨rfl,ht⟩
     exact h2 hgt f hF _ (fx (hF.sS g.dst (u:=r) (fun _=>rfl) fun h=>by rw[hgt] at h;cases h) h1)
    ·rw[if_neg ht]
     have hgf:gg=false:=by cases hgg':gg<;>simp_all
     exact fx (hF.sS g.dst (u:= .sc undef) (fun h=>by rw[hgf] at h;cases h) fun _=>rfl) h1
   |false=>
    simp only[hq2 rfl]
    have hgf:gg=false:=by cases hgg':gg<;>simp_all
    have:=fx (hF.sS g.dst (u:= .sc undef) (q:=gg) (fun h=>by rw[hgf] at h;cases h) fun _=>rfl) h1
    exact this
  have h:pF P g gs (fun nx ov fr H K=>BK P nx gs ov fr H K) nx ov fr H K:=h
  simp only[pF] at h
  split at h
  ·rename_i hg
   simp only[fA,hg,cz]
   exact(pn hF h).mono fun r H' nx' hh=>fx (hF.put g.dst r) hh
  ·rename_i d want hg
   have hd:=hF d
   split at h
   ·rename_i t he
    rw[he] at hd
    simp only at hd
    rcases h.ok with⟨hA,hB⟩|hJ
    ·simp only[fA,hg,cz,hd]
     by_cases ht:t=want
     ·rw[if_pos ht]
      exact(pn hF (hA ht)).mono fun r H' nx' hh=>fx (hF.put g.dst r) hh
     ·rw[if_neg ht]
      exact fx (hF.put g.dst _) (hB ht)
    ·cases want with
     |true=>exact join (q:=true) hg (fun _=>hd) (fun h=>by cases h) (gg:=t) (by simp) hJ
     |false=>exact join (q:=true) hg (fun _=>hd) (fun h=>by cases h) (gg:= !t) (by simp) hJ
   ·rename_i q t he
    rw[he] at hd
    simp only at hd
    cases want with
    |true=>exact join hg hd.1 hd.2 (gg:=q&&t) (by simp) h
    |false=>exact join hg hd.1 hd.2 (gg:=q&& !t) (by simp) h
   ·rename_i v he
    rw[he] at hd
    simp only at hd
    simp only[fA,hg,cz,hd]
    exact fx (hF.put g.dst _) h
   ·exact h.elim
def BJ:Tr->Tr->Prop
 |[],[]=>True
 |a::r,b::s=>(∀x∈a.1,x∈b.1)/\a.2=b.2/\BJ r s
 |_,_=>False
theorem BJ.snoc {a b:List Nat} {u:Option Nat} (h1:∀x∈a,x∈b):∀{r s:Tr},BJ r s->BJ (r++[(a,u)]) (s++[(b,u)])
 |[],[],_=>⟨h1,rfl,trivial⟩
 |x::r,y::s,h=>⟨h.1,h.2.1,BJ.snoc h1 h.2.2⟩
 |[],_::_,h=>h.elim
 |_::_,[],h=>h.elim
theorem BJ.get:∀{r s:Tr},BJ r s->∀k,(∀x∈(r.getD k ([],none)).1,x∈(s.getD k ([],none)).1)/\(r.getD k ([],none)).2=(s.getD k ([],none)).2
 |[],[],_,k=>by simp
 |x::r,y::s,h,0=>⟨h.1,h.2.1⟩
 |x::r,y::s,h,k+1=>by simpa using BJ.get h.2.2 k
 |[],_::_,h,_=>h.elim
 |_::_,[],h,_=>h.elim
theorem BJ.AU {r s:Tr} (h:BJ r s) {ps:List (Nat×Nat)} (hf:iw s ps):iw r ps:=by
 intro p hp
 obtain⟨h1,h2,h3⟩:=hf p hp
 obtain⟨a1,a2⟩:=h.get p.1
 obtain⟨b1,b2⟩:=h.get p.2
 exact⟨fun b hb hm=>h1 b (by rw[<-a2];exact hb) (b1 b hm),fun b hb hm=>h2 b (by rw[<-b2];exact hb) (a1 b hm),fun b hb=>h3 b ⟨by rw[<-a2];exact hb.1,by rw[<-b2];exact hb.2⟩⟩
theorem AZ {ov:Ov} {f fr:Fr} {op:cy} (hF:pE f ov fr) (h:op.rd=true->∀y∈op.dh,C5 (fU ov fr) y):∀x∈eL f op,x∈CK (fU ov fr) op:=by
 intro x hx
 unfold eL at hx
 unfold CK
 split at hx
 ·rename_i hr
  rw[if_pos hr]
  obtain⟨y,hy,hm⟩:=List.mem_flatMap.1 hx
  exact List.mem_flatMap.2 ⟨y,hy,by rw[<-hF.raw y (h hr y hy)];exact hm⟩
 ·cases hx
theorem oK {id:Nat} {ov:Ov} {fr:Fr} {H:Hp} {op:cy} {K:AV->Option (Nat×eO)->List Nat->Prop} (h:nZ P id (fU ov fr) H op K) {f:Fr} (hF:pE f ov fr):
 kC P id f H op (fun r u S'=>∃S,(∀x∈S',x∈S)/\K r u S):=by
 by_cases hc:∃g as,op= .call g as
 ·obtain⟨fo,as,rfl⟩:=hc
  simp only[nZ] at h
  obtain⟨h1,h2⟩:=cG h
  obtain⟨h3,h4⟩:=fX h2
  split at h4
  ·rename_i he
   rw[je] at h4
   obtain⟨r,u,S,h5,h6⟩:=h4.ok
   refine⟨r,u,S, ?_,S,fun _ h=>h,h6⟩
   rw[hF.raw fo (h1 trivial),lN (R:=fU ov fr) fun x hx=>hF.raw x (h3 trivial x hx),he]
   simpa[nJ] using h5
  ·exact h4.elim
 ·have e1:nZ P id (fU ov fr) H op K=ot none H (fU ov fr) id op fun r u=>K r u (CK (fU ov fr) op):=by cases op<;>first|rfl|exact absurd ⟨_,_,rfl⟩ hc
  rw[e1] at h
  obtain⟨r,u,h1,h2⟩:=kR h
  obtain⟨h3,h4⟩:=h2 trivial
  have e2:∀K',kC P id f H op K'=jz (cA id f H op) fun p=>K' p.1 p.2 (eL f op):=by intro K';cases op<;>first|rfl|exact absurd ⟨_,_,rfl⟩ hc
  rw[e2,h4 f fun x hx=>hF.raw x hx]
  exact⟨_,AZ hF h3,h1⟩
theorem uo {id:Nat} {g:Bool} {ov:Ov} {fr:Fr} {H:Hp} {op:cy} {K:AV->List Nat->Prop} (h:jS P id g (fU ov fr) H op K):
 ∃r S,K r S/\(g=true->∀f,pE f ov fr->∀K':AV->Option (Nat×eO)->List Nat->Prop,(∀S',(∀x∈S',x∈S)->K' r none S')->kC P id f H op K'):=by
 by_cases hc:∃g as,op= .call g as
 ·obtain⟨fo,as,rfl⟩:=hc
  simp only[jS] at h
  obtain⟨h1,h2⟩:=cG h
  obtain⟨h3,h4⟩:=fX h2
  split at h4
  ·rename_i he
   rw[je] at h4
   obtain⟨r,S,h5,h6⟩:=h4.ok
   refine⟨r,S,h6,fun hg f hF K' hK'=>⟨r,none,S, ?_,hK' S fun _ h=>h⟩⟩
   rw[hF.raw fo (h1 hg),lN (R:=fU ov fr) fun x hx=>hF.raw x (h3 hg x hx),he]
   simpa[nJ] using h5 hg
  ·exact h4.elim
 ·have e1:jS P id g (fU ov fr) H op K=ot (some g) H (fU ov fr) id op fun r u=>match u with|none=>K r (CK (fU ov fr) op)|some _=>False:=by cases op<;>first|rfl|exact absurd ⟨_,_,rfl⟩ hc
  rw[e1] at h
  obtain⟨r,u,h1,h2⟩:=kR h
  cases u with
  |some p=>exact h1.elim
  |none=>
   refine⟨r,_,h1,fun hg f hF K' hK'=> ?_⟩
   obtain⟨h3,h4⟩:=h2 hg
   have e2:kC P id f H op K'=jz (cA id f H op) fun p=>K' p.1 p.2 (eL f op):=by cases op<;>first|rfl|exact absurd ⟨_,_,rfl⟩ hc
   rw[e2,h4 f fun x hx=>hF.raw x hx]
   exact hK' _ (AZ hF h3)
theorem gR:∀{gs:List iT} {id:Nat} {ov:Ov} {f fr:Fr} {H:Hp} {tr tr':Tr} {K:Ov->Hp->Tr->Prop},pE f ov fr->BJ tr' tr->WD P id gs ov fr H tr K->ic P id gs f H tr' (fun f1 H1 tr1=>∃ov1 trj,pE f1 ov1 fr/\BJ tr1 trj/\K ov1 H1 trj)
 |[],id,ov,f,fr,H,tr,tr',K,hF,hT,h=>⟨ov,tr,hF,hT,h⟩
 |g::gs,id,ov,f,fr,H,tr,tr',K,hF,hT,h=>by
  have join:∀{q t:Bool} {d:Nat} {want:Bool},g.guard=some (d,want)->(q=true->cc f d= .sc (.bool t))->(q=false->cc f d= .sc undef)->∀{gg:Bool},(gg=true↔(q=true/\t=want))->
   (jS P id gg (fU ov fr) H g.op fun r S=>WD P (id+1) gs (iH ov g.dst (some gg) r) fr H (tr++[(S,none)]) K)->ic P id (g::gs) f H tr' (fun f1 H1 tr1=>∃ov1 trj,pE f1 ov1 fr/\BJ tr1 trj/\K ov1 H1 trj):=by
   intro q t d want hg hq1 hq2 gg hgg hJ
   obtain⟨r,S,h1,h2⟩:=uo hJ
   simp only[ic,hg,cz]
   cases q with
   |true=>
    simp only[hq1 rfl]
    by_cases ht:t=want
    ·rw[if_pos ht]
     have hgt:=hgg.2 ⟨rfl,ht⟩
     refine h2 hgt f hF _ fun S' hS=> ?_
     exact gR (hF.sS g.dst (u:=r) (fun _=>rfl) fun h=>by rw[hgt] at h;cases h) (hT.snoc hS) h1
    ·rw[if_neg ht]
     have hgf:gg=false:=by cases hgg':gg<;>simp_all
     exact gR (hF.sS g.dst (u:= .sc undef) (fun h=>by rw[hgf] at h;cases h) fun _=>rfl) (hT.snoc (a:=[]) (b:=S) (fun _ h=>by cases h)) h1
   |false=>
    simp only[hq2 rfl]
    have hgf:gg=false:=by cases hgg':gg<;>simp_all
    have:=gR (hF.sS g.dst (u:= .sc undef) (q:=gg) (fun h=>by rw[hgf] at h;cases h) fun _=>rfl) (hT.snoc (a:=[]) (b:=S) (fun _ h=>by cases h)) h1
    exact this
  have h:oJ P g gs (fun id ov fr H tr K=>WD P id gs ov fr H tr K) id ov fr H tr K:=h
  simp only[oJ] at h
  split at h
  ·rename_i hg
   simp only[ic,hg,cz]
   refine(oK h hF).mono ?_
   rintro r u S' ⟨S,hS,hh⟩
   exact gR (hF.put g.dst r) (hT.snoc hS) hh
  ·rename_i d want hg
   have hd:=hF d
   split at h
   ·rename_i t he
    rw[he] at hd
    simp only at hd
    rcases h.ok with⟨hA,hB⟩|hJ
    ·simp only[ic,hg,cz,hd]
     by_cases ht:t=want
     ·rw[if_pos ht]
      refine(oK (hA ht) hF).mono ?_
      rintro r u S' ⟨S,hS,hh⟩
      exact gR (hF.put g.dst r) (hT.snoc hS) hh
     ·rw[if_neg ht]
      exact gR (hF.put g.dst _) (hT.snoc (a:=[]) (b:=[]) (fun _ h=>h)) (hB ht)
    ·cases want with
     |true=>exact join (q:=true) hg (fun _=>hd) (fun h=>by cases h) (gg:=t) (by simp) hJ
     |false=>exact join (q:=true) hg (fun _=>hd) (fun h=>by cases h) (gg:= !t) (by simp) hJ
   ·rename_i q t he
    rw[he] at hd
    simp only at hd
    cases want with
    |true=>exact join hg hd.1 hd.2 (gg:=q&&t) (by simp) h
    |false=>exact join hg hd.1 hd.2 (gg:=q&& !t) (by simp) h
   ·rename_i v he
    rw[he] at hd
    simp only at hd
    simp only[ic,hg,cz,hd]
    exact gR (hF.put g.dst _) (hT.snoc (a:=[]) (b:=[]) (fun _ h=>h)) h
   ·exact h.elim
theorem kg:∀{segs:List uj} {nx:Nat} {ov:Ov} {f fr:Fr} {H:Hp} {K:Ov->Hp->Nat->Prop},pE f ov fr->WS P nx segs ov fr H K->ig P nx segs f H (fun f1 H1 nx1=>∃ov1,pE f1 ov1 fr/\K ov1 H1 nx1)
 |[],nx,ov,f,fr,H,K,hF,h=>⟨ov,hF,h⟩
 |⟨[g],ps⟩::rest,nx,ov,f,fr,H,K,hF,h=>by
  have h:BK P nx [g] ov fr H fun ov' H' nx'=>WS P nx' rest ov' fr H' K:=h
  refine fA.mono (K':=fun a b c=>ig P c rest a b _) (fx hF h) ?_
  rintro f1 H1 nx1 ⟨ov1,h1,h2⟩
  exact kg h1 h2
 |⟨[],[]⟩::rest,nx,ov,f,fr,H,K,hF,h=>by
  have h:WE P nx [] ov fr H [] fun ov' H' _=>WS P (nx+0) rest ov' fr H' K:=h
  rw[vk,List.reverse_nil] at h
  simp only[ig]
  refine ic.mono (gR hF (tr':=[]) (tr:=[]) trivial h) ?_
  rintro f1 H1 tr1 ⟨ov1,trj,h1,h2,h3⟩
  exact⟨(fun p hp=>by cases hp),kg h1 h3⟩
 |⟨[],p::ps⟩::rest,nx,ov,f,fr,H,K,hF,h=>by
  have h:WE P nx [] ov fr H [] fun ov' H' tr=>Ask (iw tr.reverse (p::ps))/\WS P (nx+0) rest ov' fr H' K:=h
  rw[vk,List.reverse_nil] at h
  simp only[List.reverse_reverse] at h
  simp only[ig]
  refine ic.mono (gR hF (tr':=[]) (tr:=[]) trivial h) ?_
  rintro f1 H1 tr1 ⟨ov1,trj,h1,h2,h3⟩
  exact⟨h2.AU h3.1.ok,kg h1 h3.2⟩
 |⟨g1::g2::gs,[]⟩::rest,nx,ov,f,fr,H,K,hF,h=>by
  have h:WE P nx (g1::g2::gs) ov fr H [] fun ov' H' _=>WS P (nx+(g1::g2::gs).length) rest ov' fr H' K:=h
  rw[vk,List.reverse_nil] at h
  simp only[ig]
  refine ic.mono (gR hF (tr':=[]) (tr:=[]) trivial h) ?_
  rintro f1 H1 tr1 ⟨ov1,trj,h1,h2,h3⟩
  exact⟨(fun p hp=>by cases hp),kg h1 h3⟩
 |⟨g1::g2::gs,p::ps⟩::rest,nx,ov,f,fr,H,K,hF,h=>by
  have h:WE P nx (g1::g2::gs) ov fr H [] fun ov' H' tr=>Ask (iw tr.reverse (p::ps))/\WS P (nx+(g1::g2::gs).length) rest ov' fr H' K:=h
  rw[vk,List.reverse_nil] at h
  simp only[List.reverse_reverse] at h
  simp only[ig]
  refine ic.mono (gR hF (tr':=[]) (tr:=[]) trivial h) ?_
  rintro f1 H1 tr1 ⟨ov1,trj,h1,h2,h3⟩
  exact⟨h2.AU h3.1.ok,kg h1 h3.2⟩
theorem ef.less {w0:World} {M0:Nat->Prop} {c0:Cx} {lo n:Nat} {fr fr':Fr} {H:Hp} {nx:Nat} {a:Act} {w:World} (h:ef w0 M0 c0 lo n fr H nx a w) (hf:∀t,cc fr' t= .any\/cc fr' t=cc fr t):ef w0 M0 c0 lo n fr' H nx a w:=by
 obtain⟨h1,h2,ρ,U,hU,hS,hF,hT⟩:=h
 refine⟨h1,h2,ρ,U,hU,hS,fun t=> ?_,hT⟩
 rcases hf t with h|h
 ·rw[h,VR];trivial
 ·rw[h];exact hF t
theorem WL.less {n lo:Nat} {lc:LC} {fr:Fr} {H:Hp} {nx:Nat} {Q:QT} (h:WL P n lo lc fr H nx (fun e f H nx=>∃f',(∀t,cc f' t= .any\/cc f' t=cc f t)/\Q e f' H nx)):WL P n lo lc fr H nx Q:=
 fun code hc w0 M0 c0 a w hh=>Code.wp_mono (fun _ _ _ ⟨x,f,H,nx,he,⟨f',h1,h2⟩,hhh⟩=>⟨x,f',H,nx,he,h2,hhh.less h1⟩) (h code hc w0 M0 c0 a w hh)
theorem pE.less {f:Fr} {ov:Ov} {fr:Fr} (h:pE f ov fr) (t:Nat):cc (iS ov fr) t= .any\/cc (iS ov fr) t=cc f t:=by
 rcases nf (ov:=ov) (fr:=fr) (t:=t) with h1|⟨v,h1,h2⟩
 ·exact .inl h1
 ·have:=h t
  rw[h1] at this
  exact .inr (h2.trans this.symm)
theorem lE.of {segs:List uj} {fr:Fr} {H:Hp} {nx:Nat} {Q:QT} (h:WS P nx segs [] fr H fun ov H' nx'=>Q .normal (iS ov fr) H' nx'):lE P segs fr H nx Q:=
 ⟨fun _ _=>WL.less (WL.drawn (ig.mono (kg (pE.refl fr) h) fun _ _ _ ⟨_,h1,h2⟩=>⟨_,h1.less,h2⟩))⟩
theorem gh {n lo:Nat}:∀{lc:LC} {fr:Fr} {H:Hp} {nx:Nat} {Q:QT},W P n lo lc fr H nx Q->WL P n lo lc fr H nx Q
 | .skip,_,_,_,_,h=>WL.skip h
 | .ret,_,_,_,_,h=>WL.ret h
 | .exit _,_,_,_,_,h=>WL.exit h
 | .region gs,fr,H,nx,Q,h=>WL.less (WL.region (fA.mono (fx (pE.refl fr) h) fun _ _ _ ⟨_,h1,h2⟩=>⟨_,h1.less,h2⟩))
 | .drawn segs,fr,H,nx,Q,h=>lE.ok (P:=P) h n lo
 | .seq a b,fr,H,nx,Q,h=>WL.seq ((gh (lc:=a) (Q:=jv (fun fr H nx=>W P n lo b fr H nx Q) Q) h).mono fun e fr H nx hh=>by
  cases e with
  |normal=>exact gh (lc:=b) hh
  |exit id=>exact hh
  |ret=>exact hh)
 | .cond c a b,fr,H,nx,Q,h=>by
  have h:yU c a b (W P n lo a) (W P n lo b) fr H nx Q:=h
  simp only[yU] at h
  split at h
  ·rename_i t ht
   exact WL.cond ht (fun h1=>gh (lc:=a) (h.ok.1 h1)) (fun h1=>gh (lc:=b) (h.ok.2 h1))
  ·rename_i ht
   exact WL.L6 ht (gh (lc:=a) h.1) (gh (lc:=b) h.2)
  ·exact h.elim
 | .block id a,fr,H,nx,Q,h=>WL.block (gh (lc:=a) h)
 | .loop a,fr,H,nx,Q,h=>h.ok
theorem jI.inv {n lo:Nat} {x:LC} {fr:Fr} {H:Hp} {nx:Nat} {Q:QT} {σ:Type} (I:σ->Fr->Hp->Nat->Prop) (μ:σ->Nat) (s0:σ) (h0:∃fr',(∀t,cc fr' t= .any\/cc fr' t=cc fr t)/\I s0 fr' H nx)
 (round:∀s fr H nx,I s fr H nx->WL P n lo x fr H nx (jv (fun fr' H' nx'=>∃s',μ s'<μ s/\∃fr2,(∀t,cc fr2 t= .any\/cc fr2 t=cc fr' t)/\I s' fr2 H' nx') Q)):jI P n lo x fr H nx Q:=by
 refine⟨fun code hc w0 M0 c0 a w hh=> ?_⟩
 have:∃c1,code= .loop c1/\cg P n c1=some x:=by
  cases code<;>simp only[cg] at hc
  case loop c1=>
   simp only[Option.map_eq_some_iff,LC.loop.injEq] at hc
   obtain⟨x',h1,rfl⟩:=hc
   exact⟨c1,rfl,h1⟩
  all_goals (exfalso;repeat' (split at hc))<;>simp at hc
 obtain⟨c1,rfl,h1⟩:=this
 intro b k cs
 have key:∀m,∀s,μ s=m->∀fr H nx,I s fr H nx->∀a w,ef w0 M0 c0 lo n fr H nx a w->
  ∃e a' w',LQ w0 M0 c0 lo n Q e a' w'/\Arrives P (lone (b.at a (.code c1:: .inLoop c1::k)) cs w) b k cs e a' w':=by
  intro m
  induction m using Nat.strongRecOn with
  |_ m ih=>
   intro s hs fr H nx hI a w hh
   obtain⟨e,a1,w1,hq,harr⟩:=round s fr H nx hI c1 h1 w0 M0 c0 a w hh b (.inLoop c1::k) cs
   obtain⟨x',fr',H',nx',rfl,hQ,hh'⟩:=hq
   cases x' with
   |normal=>
    obtain⟨s',hlt,fr2,hless,hI'⟩:=hQ
    obtain⟨e2,a2,w2,hq2,harr2⟩:=ih (μ s') (by omega) s' rfl fr2 H' nx' hI' a1 w1 (hh'.less hless)
    exact⟨e2,a2,w2,hq2, .of_steps (Steps.trans harr (.one step_inLoop)) harr2⟩
   |exit id=>exact⟨_,a1,w1,⟨.exit id,fr',H',nx',rfl,hQ,hh'⟩, .pass (x:= .inLoop c1) rfl (fun _ _=> .inl (by simp[Ex.to])) harr⟩
   |ret=>exact⟨_,a1,w1,⟨.ret,fr',H',nx',rfl,hQ,hh'⟩, .pass (x:= .inLoop c1) rfl (fun _ _=> .inl (by simp[Ex.to])) harr⟩
 obtain⟨fr',hless,hI⟩:=h0
 obtain⟨e,a',w',hq,harr⟩:=key _ s0 rfl fr' H nx hI a w (hh.less hless)
 exact⟨e,a',w',hq, .of_steps (.one step_loop) harr⟩
def mP (fr:Fr):Fr->Prop
 |[]=>True
 |(t,v)::r=>cc fr t=v/\mP fr r
theorem jA {fr:Fr}:∀{fr':Fr},mP fr fr'->∀t,cc fr' t= .any\/cc fr' t=cc fr t
 |[],_,t=> .inl rfl
 |(d,v)::r,h,t=>by
  simp only[cc]
  by_cases ht:t=d
  ·subst ht;rw[if_pos rfl];exact .inr h.1.symm
  ·rw[if_neg ht];exact jA h.2 t
theorem jI.fr {n lo:Nat} {x:LC} {fr:Fr} {H:Hp} {nx:Nat} {Q:QT} {σ:Type} (F:σ->Fr) (I:σ->Hp->Nat->Prop) (μ:σ->Nat) (s0:σ) (h0:mP fr (F s0)) (h1:I s0 H nx)
 (round:∀s H nx,I s H nx->W P n lo x (F s) H nx (jv (fun fr' H' nx'=>∃s',μ s'<μ s/\mP fr' (F s')/\I s' H' nx') Q)):jI P n lo x fr H nx Q:=by
 refine jI.inv (fun s fr H nx=>fr=F s/\I s H nx) μ s0 ⟨F s0,jA h0,rfl,h1⟩ ?_
 rintro s fr H nx ⟨rfl,hI⟩
 refine(gh (round s H nx hI)).mono ?_
 intro e fr' H' nx' hh
 cases e with
 |normal=>
  obtain⟨s',h2,h3,h4⟩:=hh
  exact⟨s',h2,F s',jA h3,rfl,h4⟩
 |exit id=>exact hh
 |ret=>exact hh
end
end Go.dD
end
