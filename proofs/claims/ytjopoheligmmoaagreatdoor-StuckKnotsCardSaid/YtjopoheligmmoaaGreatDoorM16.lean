import Derived.Test.YtjopoheligmmoaaGreatDoorM9
section
/- A run by reduction alone: the code is walked by the reducer; what is to be shown stands out as questions. -/
set_option linter.unusedSimpArgs false
set_option linter.unusedVariables false
namespace Go.cu
open Go.RowKit
structure Ask (p:Prop):Prop where
 ok:p
def eE:Option Bool->Prop->Prop
 |none,p=>Ask p
 |some g,p=>Ask (g=true->p)
def Gd:Option Bool->Prop
 |none=>True
 |some g=>g=true
theorem cj {g:Option Bool} {p:Prop}:eE g p↔(Gd g->p):=by
 cases g with
 |none=>exact⟨fun h _=>h.ok,fun h=>⟨h trivial⟩⟩
 |some g=>exact⟨fun h=>h.ok,fun h=>⟨h⟩⟩
abbrev Ov:=List (Nat×Option Bool×AV)
def qd:Ov->Fr->Nat->Option Bool×AV
 |[],fr,t=>(none,cp fr t)
 |(d,c,v)::r,fr,t=>bif Nat.beq t d then(c,v) else qd r fr t
def iE (ov:Ov) (d:Option Nat) (c:Option Bool) (v:AV):Ov:=
 match d with
 |some d=>(d,c,v)::ov
 |none=>ov
def iP:Ov->Fr->Fr
 |[],fr=>fr
 |(d,none,v)::r,fr=>(d,v)::iP r fr
 |(d,some _,_)::r,fr=>(d, .any)::iP r fr
def fQ (ov:Ov) (fr:Fr):eI->Option Bool×AV
 | .t n=>qd ov fr n
 | .c v=>(none, .sc v)
 | .f n=>(none, .fn (.func n) [] [])
 | .m nm n=>match qd ov fr n with
  |(g, .mM t v)=>(g, .fn (.method nm) [.mM t v] [])
  |(g,_)=>(g, .any)
theorem sA {t d:Nat} (h:¬t=d):Nat.beq t d=false:=by
 cases hb:Nat.beq t d with
 |false=>rfl
 |true=>exact absurd (Nat.eq_of_beq_eq_true hb) h
def qR (f:Fr) (ov:Ov) (fr:Fr):Prop:=
 ∀t,match qd ov fr t with
  |(none,v)=>cp f t=v
  |(some q,v)=>(q=true->cp f t=v)/\(q=false->cp f t= .sc undef)
theorem qR.refl (fr:Fr):qR fr [] fr:=fun _=>rfl
theorem qR.put {f:Fr} {ov:Ov} {fr:Fr} (h:qR f ov fr) (d:Option Nat) (v:AV):qR (gD f d v) (iE ov d none v) fr:=by
 cases d with
 |none=>exact h
 |some d=>
  intro t
  simp only[iE,gD,qd,cp]
  by_cases ht:t=d
  ·subst ht;simp
  ·have:Nat.beq t d=false:=sA ht
   rw[this,if_neg ht];exact h t
theorem qR.py {f:Fr} {ov:Ov} {fr:Fr} (h:qR f ov fr) (d:Option Nat) {q:Bool} {u v:AV} (h1:q=true->u=v) (h2:q=false->u= .sc undef):qR (gD f d u) (iE ov d (some q) v) fr:=by
 cases d with
 |none=>exact h
 |some d=>
  intro t
  simp only[iE,gD,qd,cp]
  by_cases ht:t=d
  ·subst ht;simpa using⟨h1,h2⟩
  ·have:Nat.beq t d=false:=sA ht
   rw[this,if_neg ht];exact h t
theorem qR.raw {f:Fr} {ov:Ov} {fr:Fr} (h:qR f ov fr) (x:eI) (hq:∀q,(fQ ov fr x).1=some q->q=true):ev f x=(fQ ov fr x).2:=by
 cases x with
 |t n=>
  have:=h n
  simp only[ev,fQ] at hq ⊢
  split at this
  ·rename_i v he;rw[this,he]
  ·rename_i q v he;rw[he] at hq ⊢;exact this.1 (hq q rfl)
 |c v=>rfl
 |f n=>rfl
 |m nm n=>
  have:=h n
  simp only[ev,fQ] at hq ⊢
  generalize qd ov fr n=x at this hq ⊢
  obtain⟨g,v⟩:=x
  have hv:cp f n=v:=by
   cases g with
   |none=>exact this
   |some q=>
    refine this.1 (hq q ?_)
    cases v<;>rfl
  rw[hv]
  cases v<;>rfl
theorem oZ {fr:Fr} {t:Nat}:∀{ov:Ov},cp (iP ov fr) t= .any\/∃v,qd ov fr t=(none,v)/\cp (iP ov fr) t=v
 |[]=> .inr ⟨_,rfl,rfl⟩
 |(d,none,v)::r=>by
  simp only[iP,cp,qd]
  by_cases ht:t=d
  ·subst ht;simp
  ·have:Nat.beq t d=false:=sA ht
   rw[this,if_neg ht];exact oZ
 |(d,some q,v)::r=>by
  simp only[iP,cp,qd]
  by_cases ht:t=d
  ·subst ht;simp
  ·have:Nat.beq t d=false:=sA ht
   rw[this,if_neg ht];exact oZ
abbrev Raw:=eI->Option Bool×AV
def dO (g:Option Bool) (R:Raw) (x:eI) (K:AV->Prop):Prop:=
 match R x with
 |(none,v)=>K v
 |(some q,v)=>eE g (q=true)/\K v
def G9 (R:Raw) (x:eI):Prop:=∀q,(R x).1=some q->q=true
theorem cQ {g:Option Bool} {R:Raw} {x:eI} {K:AV->Prop} (h:dO g R x K):(Gd g->G9 R x)/\K (R x).2:=by
 unfold dO at h
 split at h
 ·rename_i v he;rw[he];exact⟨fun _ q hq=>(by rw[he] at hq;cases hq),h⟩
 ·rename_i q v he
  rw[he]
  exact⟨fun hg q' hq=>(by rw[he] at hq;cases hq;exact cj.1 h.1 hg),h.2⟩
def BE (K:List AV->Prop):Prop:=K []
def yQ (g:Option Bool) (R:Raw) (x:eI) (_:List eI) (ih:(List AV->Prop)->Prop) (K:List AV->Prop):Prop:=dO g R x fun a=>ih fun as=>K (a::as)
noncomputable def kW (g:Option Bool) (R:Raw) (xs:List eI):(List AV->Prop)->Prop:=List.rec (motive:=fun _=>(List AV->Prop)->Prop) BE (yQ g R) xs
theorem fV {g:Option Bool} {R:Raw}:∀{xs:List eI} {K:List AV->Prop},kW g R xs K->(Gd g->∀x∈xs,G9 R x)/\K (xs.map fun x=>(R x).2)
 |[],K,h=>⟨fun _ _ h=>(by cases h),h⟩
 |x::r,K,h=>by
  obtain⟨h1,h2⟩:=cQ h
  obtain⟨h3,h4⟩:=fV h2
  refine⟨fun hg y hy=> ?_,h4⟩
  rcases List.mem_cons.1 hy with rfl|hy
  ·exact h1 hg
  ·exact h3 hg y hy
theorem l6 {f:Fr} {R:Raw}:∀{xs:List eI},(∀x∈xs,ev f x=(R x).2)->uZ f xs=xs.map fun x=>(R x).2
 |[],_=>rfl
 |x::r,h=>by
  simp only[uZ,List.map_cons]
  rw[h x (by simp),l6 fun y hy=>h y (by simp[hy])]
def gP (v:AV) (K:AV->Prop):Prop:=
 match v with
 | .sc v=>K (.sc v)
 | .any=>K .any
 | .im a b c=>K (.im a b c)
 | .ip a b c d e=>K (.ip a b c d e)
 | .sl a b=>K (.sl a b)
 | .pt a b c d=>K (.pt a b c d)
 | .zc=>K .zc
 | .agg a=>K (.agg a)
 | .dD a=>K (.dD a)
 | .fn a b c=>K (.fn a b c)
 | .mM a b=>K (.mM a b)
 | .mp a=>K (.mp a)
 | .ab=>K .ab
 | .sv a b c d=>K (.sv a b c d)
theorem fH (v:AV) (K:AV->Prop):gP v K=K v:=by cases v<;>rfl
def BH (K:List AV->Prop):Prop:=K []
def yT (a:AV) (_:List AV) (ih:(List AV->Prop)->Prop) (K:List AV->Prop):Prop:=ih fun r'=>K (a::r')
noncomputable def qc (l:List AV):(List AV->Prop)->Prop:=List.rec (motive:=fun _=>(List AV->Prop)->Prop) BH yT l
theorem iy:∀(l:List AV) (K:List AV->Prop),qc l K=K l
 |[],_=>rfl
 |a::r,K=>iy r fun r'=>K (a::r')
structure gk (H:Hp) (b:Nat) (K:TypeId->Nat->AV->List AV->Prop):Prop where
 ok:∃e sz d es,bu H b=some (.row e sz d es)/\K e sz d es
theorem gk.of {H:Hp} {b:Nat} {K:TypeId->Nat->AV->List AV->Prop} {e:TypeId} {sz:Nat} {d:AV} {es:List AV} (h:bu H b=some (.row e sz d es)) (k:K e sz d es):gk H b K:=⟨⟨e,sz,d,es,h,k⟩⟩
structure qQ (es:List AV) (i:Nat) (d:AV) (K:AV->Prop):Prop where
 ok:K (es.getD i d)
theorem qQ.of {es:List AV} {i:Nat} {d:AV} {K:AV->Prop} {e:AV} (h:es.getD i d=e) (k:K e):qQ es i d K:=⟨by rw[h];exact k⟩
structure jf {α:Type} (x:Option α) (K:α->Prop):Prop where
 ok:∃a,x=some a/\K a
theorem jf.of {α:Type} {x:Option α} {K:α->Prop} {a:α} (h:x=some a) (k:K a):jf x K:=⟨⟨a,h,k⟩⟩
structure jg {α:Type} (g:Option Bool) (x:Option α) (K:α->Prop):Prop where
 ok:∃a,(Gd g->x=some a)/\K a
theorem jg.of {α:Type} {g:Option Bool} {x:Option α} {K:α->Prop} {a:α} (h:Gd g->x=some a) (k:K a):jg g x K:=⟨⟨a,h,k⟩⟩
structure qw (H:Hp) (b:Nat) (K:TypeId->AV->List AV->Prop):Prop where
 ok:∃e d es,bu H b=some (.row e 0 d (mapA es))/\K e d es
theorem qw.of {H:Hp} {b:Nat} {K:TypeId->AV->List AV->Prop} {e:TypeId} {d:AV} {es:List AV} (h:bu H b=some (.row e 0 d (mapA es))) (k:K e d es):qw H b K:=⟨⟨e,d,es,h,k⟩⟩
def E3 (H:Hp) (v:AV) (K:Nat->TypeId->AV->List AV->Prop):Prop:=
 match v with
 | .mp b=>qw H b (K b)
 |_=>False
theorem lQ {H:Hp} {v:AV} {K:Nat->TypeId->AV->List AV->Prop} (h:E3 H v K):∃b e d es,mapOf H v=some (b,e,d,es)/\K b e d es:=by
 cases v<;>simp only[E3] at h
 obtain⟨e,d,es,h1,h2⟩:=h.ok
 exact⟨_,e,d,es,by simp only[mapOf,h1,mapA],h2⟩
structure uP (g:Option Bool) (k:IntKind) (n:Int) (K:Int->Prop):Prop where
 ok:∃m,(Gd g->k.wrap n=m)/\K m
theorem uP.of {g:Option Bool} {k:IntKind} {n:Int} {K:Int->Prop} {m:Int} (h:Gd g->k.wrap n=m) (hK:K m):uP g k n K:=⟨⟨m,h,hK⟩⟩
section
variable (g:Option Bool) (H:Hp)
def XW (ag:Bool) (k:Nat) (e:AV) (sz off:Nat) (K:AV->Prop):Prop:=
 match ag with
 |true=>match e with
  | .agg cs=>bif Nat.beq off 0&&Nat.beq k sz then K (.agg cs) else eE g (off+k<=cs.length)/\K (.agg ((cs.drop off).take k))
  |_=>False
 |false=>match e with
  | .agg cs=>qQ cs off .any fun v=>gP v K
  | .any=>K .any
  |e=>bif one e then gP e K else False
def lookW (v:AV) (K:Nat->AV->Nat->Prop):Prop:=
 match v with
 | .ip sz d es i off=>qQ es i d fun e=>K sz e off
 | .pt b len i off=>gk H b fun _ sz d es=>eE g (es.length=len)/\qQ es i d fun e=>K sz e off
 |_=>False
def sx (k:Nat) (v:AV) (K:List AV->Prop):Prop:=
 match v with
 | .im sz _ es=>bif Nat.beq sz k then K es else False
 | .sl b len=>gk H b fun _ sz _ es=>eE g (es.length=len/\sz=k)/\K es
 | .sc (.slice none 0 0)=>K []
 | .zc=>K []
 | .sv b len lo n=>gk H b fun _ sz _ es=>eE g (es.length=len/\sz=k)/\K ((es.drop lo).take n)
 |_=>False
noncomputable def qG (R:Raw) (id:Nat) (op:dZ) (K:AV->Option (Nat×fC)->Prop):Prop:=
 match op with
 | .mv x=>dO g R x fun a=>gP a fun a=>K a none
 | .pick c a b=>dO g R c fun v=>match v with
  | .sc (.bool t)=>
   let rest:=fun(_:Unit)=>gP (pq t (R a).2 (R b).2) fun v=>K v none
   let r2:=fun(_:Unit)=>match(R b).1 with
    |none=>rest ()
    |some q=>eE g (t=false->q=true)/\rest ()
   match(R a).1 with
   |none=>r2 ()
   |some q=>eE g (t=true->q=true)/\r2 ()
  |_=>False
 | .alloc e sz ag z=>eE g (z.length=sz)/\K (.pt id 1 0 0) (some (id, .row e sz (gC ag z) [gC ag z]))
 | .box e sz ag x=>dO g R x fun v=>eE g (fits ag sz v=true)/\K (.pt id 1 0 0) (some (id, .row e sz .any [v]))
 | .SN z parts=>kW g R (parts.map (·.2.2)) fun as=>jf (rD (z.map .sc) (List.zipWith (fun p a=>(p.1,p.2.1,a)) parts as)) fun cs=>K (.agg cs) none
 | .PT e sz ag z n parts=>kW g R (parts.map (·.2)) fun as=>
  eE g (z.length=sz/\(List.zipWith (fun p a=>(p.1,a)) parts as).all (fun p=>decide (p.1<n)&&fits ag sz p.2)=true)/\
  K (.sl id n) (some (id, .row e sz (gC ag z) ((List.zipWith (fun p a=>(p.1,a)) parts as).foldl (fun l p=>l.set p.1 p.2) (List.replicate n (gC ag z)))))
 | .ld ag k x=>dO g R x fun v=>lookW g H v fun sz e off=>XW g ag k e sz off fun r=>K r none
 | .st ag k x y=>dO g R x fun v=>dO g R y fun yv=>match v with
  | .pt b len i off=>gk H b fun e sz d es=>eE g (es.length=len)/\qQ es i d fun gq=>jf (R9 ag k gq yv sz off) fun e'=>K .any (some (b, .row e sz d (es.set i e')))
  |_=>False
 | .RV x=>dO g R x fun v=>match v with
  | .pt b len i off=>K (.pt b len i off) none
  | .ip sz d es i off=>K (.ip sz d es i off) none
  | .fn (.func f) p q=>K (.fn (.func f) p q) none
  | .mM t v=>K (.mM t v) none
  |_=>False
 | .bin op x y=>dO g R x fun a=>dO g R y fun b=>match op,a,b with
  | .add, .sc (.int k a), .sc (.int k' b)=>eE g (k=k')/\uP g k (a+b) fun m=>K (.sc (.int k m)) none
  | .sub, .sc (.int k a), .sc (.int k' b)=>eE g (k=k')/\uP g k (a - b) fun m=>K (.sc (.int k m)) none
  | .mul, .sc (.int k a), .sc (.int k' b)=>eE g (k=k')/\uP g k (a * b) fun m=>K (.sc (.int k m)) none
  | .eql, .sc (.int k a), .sc (.int k' b)=>eE g (k=k')/\K (.sc (.bool (decide (a=b)))) none
  | .neq, .sc (.int k a), .sc (.int k' b)=>eE g (k=k')/\K (.sc (.bool (decide (a≠b)))) none
  | .lss, .sc (.int k a), .sc (.int k' b)=>eE g (k=k')/\K (.sc (.bool (decide (a<b)))) none
  | .leq, .sc (.int k a), .sc (.int k' b)=>eE g (k=k')/\K (.sc (.bool (decide (a<=b)))) none
  | .gtr, .sc (.int k a), .sc (.int k' b)=>eE g (k=k')/\K (.sc (.bool (decide (b<a)))) none
  | .geq, .sc (.int k a), .sc (.int k' b)=>eE g (k=k')/\K (.sc (.bool (decide (b<=a)))) none
  | .quo, .sc (.int k a), .sc (.int k' b)=>eE g (k=k'/\b≠0)/\K (.sc (.int k (k.wrap (a.tdiv b)))) none
  | .rem, .sc (.int k a), .sc (.int k' b)=>eE g (k=k'/\b≠0)/\K (.sc (.int k (a.tmod b))) none
  | .and, .sc (.int k a), .sc (.int k' b)=>eE g (k=k')/\K (.sc (.int k (k.wrap (BitVec.ofInt k.bits a&&& BitVec.ofInt k.bits b).toNat))) none
  | .or, .sc (.int k a), .sc (.int k' b)=>eE g (k=k')/\K (.sc (.int k (k.wrap (BitVec.ofInt k.bits a|||BitVec.ofInt k.bits b).toNat))) none
  | .xor, .sc (.int k a), .sc (.int k' b)=>eE g (k=k')/\K (.sc (.int k (k.wrap (BitVec.ofInt k.bits a^^^BitVec.ofInt k.bits b).toNat))) none
  | .andNot, .sc (.int k a), .sc (.int k' b)=>eE g (k=k')/\K (.sc (.int k (k.wrap (BitVec.ofInt k.bits a&&& ~~~(BitVec.ofInt k.bits b)).toNat))) none
  | .shl, .sc (.int k a), .sc (.int _ b)=>eE g (0<=b)/\K (.sc (.int k (k.wrap (a * 2^(min b.toNat k.bits))))) none
  | .shr, .sc (.int k a), .sc (.int _ b)=>eE g (0<=b)/\K (.sc (.int k (a.fdiv (2^(min b.toNat k.bits))))) none
  |_,_,_=>False
 | .SQ neg x y=>dO g R x fun a=>dO g R y fun b=>match a,b with
  | .sc (.bool p), .sc (.bool q)=>(match neg with
   |true=>K (.sc (.bool (p != q))) none
   |false=>K (.sc (.bool (p==q))) none)
  |_,_=>False
 | .vM neg x y=>dO g R x fun a=>dO g R y fun b=>match a,b with
  | .sc (.string p), .sc (.string q)=>(match neg with
   |true=>K (.sc (.bool (p != q))) none
   |false=>K (.sc (.bool (p==q))) none)
  |_,_=>False
 | .FD op x y=>dO g R x fun a=>dO g R y fun b=>match a,b with
  | .sc (.string p), .sc (.string q)=>(match op with
   | .add=>eE g (p.size+q.size<=9223372036854775807)/\K (.sc (.string (p++q))) none
   | .lss=>K (.sc (.bool (Op.bytesLess p.toList q.toList))) none
   |_=>False)
  |_,_=>False
 | .NG sz ag z x=>dO g R x fun v=>match v with
  | .sv b len lo n=>gk H b fun e s d es=>eE g (es.length=len/\s=sz/\lo+n<=len)/\K (.dD []) (some (b, .row e s d (es.take lo++List.replicate n (gC ag z)++es.drop (lo+n))))
  |_=>False
 | .QP x=>dO g R x fun v=>sx g H 1 v fun xs=>jg g (lW xs) fun ns=>K (.sc (.string (O6 ns))) none
 | .un op x=>dO g R x fun a=>match op,a with
  | .not, .sc (.bool b)=>K (.sc (.bool !b)) none
  | .neg, .sc (.int k n)=>uP g k (0 - n) fun m=>K (.sc (.int k m)) none
  |_,_=>False
 | .TF k x=>dO g R x fun a=>match a with
  | .sc (.int _ n)=>uP g k n fun m=>K (.sc (.int k m)) none
  |_=>False
 | .fa off x=>dO g R x fun a=>match a with
  | .ip sz d es i o=>eE g (o+off<sz)/\K (.ip sz d es i (o+off)) none
  | .pt b len i o=>gk H b fun _ sz _ es=>eE g (es.length=len/\o+off<sz)/\K (.pt b len i (o+off)) none
  |_=>False
 | .ia k n x i=>dO g R x fun v=>dO g R i fun iv=>match iv with
  | .sc (.int _ j)=>
   (match n with
    |none=>match v with
     | .im sz d es=>eE g (k=sz)/\eE g (0<=j/\j<es.length)/\K (.ip sz d es j.toNat 0) none
     | .sl b len=>gk H b fun _ sz _ es=>eE g (es.length=len/\k=sz)/\eE g (0<=j/\j<len)/\K (.pt b len j.toNat 0) none
     | .sv b len lo m=>gk H b fun _ sz _ es=>eE g (es.length=len/\k=sz)/\eE g (0<=j/\j<m)/\K (.pt b len (lo+j.toNat) 0) none
     |_=>False
    |some m=>match v with
     | .ip sz d es i off=>eE g (off+m * k<=sz)/\eE g (0<=j/\j<m)/\K (.ip sz d es i (off+j.toNat * k)) none
     | .pt b len i off=>gk H b fun _ sz _ es=>eE g (es.length=len/\off+m * k<=sz)/\eE g (0<=j/\j<m)/\K (.pt b len i (off+j.toNat * k)) none
     |_=>False)
  |_=>False
 | .TM off k ag x=>dO g R x fun v=>match v with
  | .agg cs=>(match ag with
   |true=>eE g (off+k<=cs.length)/\K (.agg ((cs.drop off).take k)) none
   |false=>eE g (off+k<=cs.length/\k=1)/\qQ cs off .any fun v=>gP v fun v=>K v none)
  |_=>False
 | .ix k ag n x i=>dO g R x fun v=>dO g R i fun iv=>match v,iv with
  | .agg cs, .sc (.int _ j)=>eE g (n * k=cs.length)/\eE g (0<=j/\j<n)/\(match ag with
   |true=>K (.agg ((cs.drop (j.toNat * k)).take k)) none
   |false=>eE g (k=1)/\qQ cs (j.toNat * k) .any fun v=>gP v fun v=>K v none)
  |_,_=>False
 | .TT x i=>dO g R x fun v=>dO g R i fun iv=>match v,iv with
  | .sc (.string s), .sc (.int _ j)=>eE g (0<=j/\j<s.size)/\K (.sc (.int .u8 (s.data.toList.getD j.toNat 0).toNat)) none
  |_,_=>False
 | .lens x=>dO g R x fun v=>match v with
  | .sc (.string s)=>K (.sc (.int .i64 s.size)) none
  |_=>False
 | .RS e sz bytes ag z l c=>dO g R l fun lv=>dO g R c fun cv=>match lv,cv with
  | .sc (.int _ n), .sc (.int _ m)=>eE g (z.length=sz/\n=m)/\eE g (0<=n/\n * bytes<=281474976710656/\n<=9223372036854775807)/\
   K (.sl id n.toNat) (some (id, .row e sz (gC ag z) (List.replicate n.toNat (gC ag z))))
  |_,_=>False
 | .ext i x=>dO g R x fun v=>match v with
  | .dD vs=>eE g (i<vs.length)/\qQ vs i .any fun v=>gP v fun v=>K v none
  |_=>False
 | .SV f first caps=>kW g R first fun a=>kW g R caps fun b=>K (.fn f a b) none
 | .WM t x=>dO g R x fun v=>K (.mM t v) none
 | .len x=>dO g R x fun v=>match v with
  | .im _ _ es=>K (.sc (.int .i64 (es.length:Int))) none
  | .sl b len=>gk H b fun _ _ _ es=>eE g (es.length=len)/\K (.sc (.int .i64 (len:Int))) none
  | .sc (.slice none 0 0)=>K (.sc (.int .i64 0)) none
  | .zc=>K (.sc (.int .i64 0)) none
  | .sv _ _ _ n=>K (.sc (.int .i64 (n:Int))) none
  |_=>False
 | .app e sz bytes ag z s x=>dO g R s fun sv=>dO g R x fun xv=>sx g H sz xv fun xs=>eE g (z.length=sz)/\match sv with
  | .sc (.slice none 0 0)=>eE g (xs.length * bytes<=gp)/\K (.sl id xs.length) (some (id, .row e sz (gC ag z) xs))
  | .sl b len=>gk H b fun e' sz' d es=>eE g (es.length=len/\e'=e/\sz'=sz)/\eE g ((len+xs.length) * bytes<=gp)/\K (.sl b (len+xs.length)) (some (b, .row e sz d (es++xs)))
  |_=>False
 | .I7 e bytes z s x=>dO g R s fun sv=>dO g R x fun xv=>match xv with
  | .sc (.string q)=>(match sv with
   | .sc (.slice none 0 0)=>eE g ((cU q).length * bytes<=gp)/\K (.sl id (cU q).length) (some (id, .row e 1 z (cU q)))
   | .sl b len=>gk H b fun e' sz' d es=>eE g (es.length=len/\e'=e/\sz'=1)/\eE g ((len+(cU q).length) * bytes<=gp)/\K (.sl b (len+(cU q).length)) (some (b, .row e 1 d (es++cU q)))
   |_=>False)
  |_=>False
 | .G5 neg x=>dO g R x fun v=>match v with
  | .pt _ _ _ _=>K (.sc (.bool neg)) none
  | .ip _ _ _ _ _=>K (.sc (.bool neg)) none
  | .sc (.pointer none)=>K (.sc (.bool !neg)) none
  |_=>False
 | .zP neg x=>dO g R x fun v=>jf (tf H v) fun t=>gP (rf neg t) fun v=>K v none
 | .eqs neg ks x y=>dO g R x fun a=>dO g R y fun b=>match a,b with
  | .agg as, .agg bs=>jf (JT ks as bs) fun t=>(match neg with
   |true=>K (.sc (.bool !t)) none
   |false=>K (.sc (.bool t)) none)
  |_,_=>False
 | .PQ e n=>K (.pt id n 0 0) (some (id, .row e 1 (.sc (.int .u8 0)) (List.replicate n (.sc (.int .u8 0)))))
 | .bad=>False
 | .RD n x i=>dO g R x fun v=>dO g R i fun iv=>match v,iv with
  | .pt b len 0 0, .sc (.int _ j)=>gk H b fun _ sz _ es=>eE g (len=n/\es.length=n/\sz=1)/\eE g (0<=j/\j<n)/\K (.pt b n j.toNat 0) none
  |_,_=>False
 | .R6 n x i=>dO g R x fun v=>dO g R i fun iv=>match v,iv with
  | .pt b len 0 0, .sc (.int _ j)=>gk H b fun _ sz _ es=>eE g (len=n/\es.length=n/\sz=1)/\eE g (0<=j/\j<n)/\K (.sv b n j.toNat (n - j.toNat)) none
  |_,_=>False
 | .SX sz x h m=>dO g R x fun v=>dO g R h fun a=>dO g R m fun b=>jf (HV sz a b v) fun r=>gP r fun r=>K r none
 | .O0 sz x lo hi=>dO g R x fun v=>kW g R (lo.toList++hi.toList) fun bs=>
  jf (uC H sz (match lo with|some _=>bs[0]?|none=>none) (match hi with|some _=>(match lo with|some _=>bs[1]?|none=>bs[0]?)|none=>none) v) fun r=>gP r fun r=>K r none
 | .NK sz x y=>dO g R x fun xv=>dO g R y fun yv=>match xv with
  | .sl b len=>sx g H sz yv fun xs=>gk H b fun e s d es=>eE g (es.length=len/\s=sz)/\
   K (.sc (.int .i64 (Nat.min xs.length len:Nat))) (some (b, .row e s d (xs.take (Nat.min xs.length len)++es.drop (Nat.min xs.length len))))
  |_=>False
 | .call _ _=>False
 | .P8 kt=>K (.mp id) (some (id, .row kt 0 .any (mapA [])))
 | .OB str ag z ok x k=>dO g R x fun v=>dO g R k fun kv=>match kv with
  | .sc kv=>E3 H v fun _ _ _ es=>eE g (kG str kv=true)/\jg g (my str kv es (gC ag z)) fun p=>match ok with
   |true=>K (.dD [p.1, .sc (.bool p.2)]) none
   |false=>gP p.1 fun v=>K v none
  |_=>False
 | .IQ str x k y=>dO g R x fun v=>dO g R k fun kv=>dO g R y fun yv=>match kv with
  | .sc kv=>E3 H v fun b e d es=>eE g (kG str kv=true)/\jg g (pc str kv es yv) fun es'=>K .any (some (b, .row e 0 d (mapA es')))
  |_=>False
 | .B1 x=>dO g R x fun v=>E3 H v fun _ _ _ es=>K (.sc (.int .i64 (es.length:Nat))) none
 | .del str x k=>dO g R x fun v=>dO g R k fun kv=>match kv with
  | .sc kv=>E3 H v fun b e d es=>eE g (kG str kv=true)/\jg g (WK str kv es) fun es'=>K (.dD []) (some (b, .row e 0 d (mapA es')))
  |_=>False
 | .FC sz v=>K (.agg (List.replicate sz (.sc v))) none
 | .xp e sz v=>K (.pt id 1 0 0) (some (id, .row e sz (.agg (List.replicate sz (.sc v))) [.agg (List.replicate sz (.sc v))]))
 | .W1 t ok ag z x=>dO g R x fun v=>match v with
  | .mM t' v=>(bif Nat.beq t' t then(match ok with
   |true=>K (.dD [v, .sc (.bool true)]) none
   |false=>gP v fun v=>K v none) else(match ok with
   |true=>K (.dD [gC ag z, .sc (.bool false)]) none
   |false=>False))
  |_=>False
end
theorem D7 {f:Fr} {R:Raw}:∀{ps:List (Nat×Nat×eI)},(∀x∈ps.map (·.2.2),ev f x=(R x).2)->PX f ps=List.zipWith (fun p a=>(p.1,p.2.1,a)) ps ((ps.map (·.2.2)).map fun x=>(R x).2)
 |[],_=>rfl
 |(i,j,x)::ps,h=>by
  simp only[PX,List.map_cons,List.zipWith_cons_cons]
  rw[h x (by simp),D7 fun y hy=>h y (by simp only[List.map_cons,List.mem_cons];exact .inr hy)]
theorem D9 {f:Fr} {R:Raw}:∀{ps:List (Nat×eI)},(∀x∈ps.map (·.2),ev f x=(R x).2)->D8 f ps=List.zipWith (fun p a=>(p.1,a)) ps ((ps.map (·.2)).map fun x=>(R x).2)
 |[],_=>rfl
 |(i,x)::ps,h=>by
  simp only[D8,List.map_cons,List.zipWith_cons_cons]
  rw[h x (by simp),D9 fun y hy=>h y (by simp only[List.map_cons,List.mem_cons];exact .inr hy)]
theorem GO {g:Option Bool} {ag:Bool} {k:Nat} {e:AV} {sz off:Nat} {K:AV->Prop} (h:XW g ag k e sz off K):∃r,K r/\(Gd g->yy ag k e sz off=some r):=by
 unfold XW at h
 cases ag with
 |true=>
  simp only at h
  cases e
  case agg cs=>
   simp only at h
   by_cases hb:off=0/\k=sz
   ·have hb':(Nat.beq off 0&&Nat.beq k sz)=true:=by
     obtain⟨rfl,rfl⟩:=hb;simp
    rw[hb'] at h
    exact⟨_,h,fun _=>by simp[yy,hb.1,hb.2]⟩
   ·have hb':(Nat.beq off 0&&Nat.beq k sz)=false:=by
     cases hc:(Nat.beq off 0&&Nat.beq k sz) with
     |false=>rfl
     |true=>
      rw[Bool.and_eq_true] at hc
      exact absurd ⟨Nat.eq_of_beq_eq_true hc.1,Nat.eq_of_beq_eq_true hc.2⟩ hb
    rw[hb'] at h
    simp only[cond_false] at h
    refine⟨_,h.2,fun hg=> ?_⟩
    have h1:=cj.1 h.1 hg
    simp only[yy,if_true]
    rw[if_neg hb,if_pos h1]
  all_goals exact h.elim
 |false=>
  have gen:∀e:AV,(bif one e then gP e K else False)->(yy false k e sz off=if one e then some e else none)->∃r,K r/\(Gd g->yy false k e sz off=some r):=by
   intro e h1 h2
   cases ho:one e with
   |true=>rw[ho,cond_true,fH] at h1;exact⟨_,h1,fun _=>by rw[h2,ho];rfl⟩
   |false=>rw[ho] at h1;exact h1.elim
  cases e
  case agg cs=>
   simp only at h
   have:=h.ok
   rw[fH] at this
   exact⟨_,this,fun _=>by simp[yy]⟩
  case any=>exact⟨_,h,fun _=>by simp[yy]⟩
  all_goals exact gen _ h rfl
theorem zF {g:Option Bool} {H:Hp} {v:AV} {K:Nat->AV->Nat->Prop} (h:lookW g H v K):∃sz e off,K sz e off/\(Gd g->kI H v=some (sz,e,off)):=by
 unfold lookW at h
 split at h
 ·exact⟨_,_,_,h.ok,fun _=>rfl⟩
 ·obtain⟨e,sz,d,es,h1,h2,h3⟩:=h.ok
  refine⟨_,_,_,h3.ok,fun hg=> ?_⟩
  simp only[kI,h1]
  rw[if_pos (cj.1 h2 hg)]
 ·exact h.elim
theorem l4 {g:Option Bool} {H:Hp} {k:Nat} {v:AV} {K:List AV->Prop} (h:sx g H k v K):∃es,K es/\(Gd g->iI H v=some es/\zn H k v=true):=by
 unfold sx at h
 split at h
 ·rename_i sz d es
  cases hb:Nat.beq sz k with
  |true=>rw[hb] at h;exact⟨_,h,fun _=>⟨rfl,by simpa[zn] using hb⟩⟩
  |false=>rw[hb] at h;exact h.elim
 ·obtain⟨e,sz,d,es,h1,h2,h3⟩:=h.ok
  refine⟨_,h3,fun hg=> ?_⟩
  obtain⟨g1,g2⟩:=cj.1 h2 hg
  simp[iI,zn,h1,g1,g2]
 ·exact⟨_,h,fun _=>⟨rfl,rfl⟩⟩
 ·exact⟨_,h,fun _=>⟨rfl,rfl⟩⟩
 ·obtain⟨e,sz,d,es,h1,h2,h3⟩:=h.ok
  refine⟨_,h3,fun hg=> ?_⟩
  obtain⟨g1,g2⟩:=cj.1 h2 hg
  simp[iI,zn,h1,g1,g2]
 ·exact h.elim
set_option maxHeartbeats 4000000 in
theorem kO {g:Option Bool} {H:Hp} {R:Raw} {id:Nat} {op:dZ} {K:AV->Option (Nat×fC)->Prop} (h:qG g H R id op K):
 ∃r u,K r u/\(Gd g->(op.rd=true->∀x∈op.eN,G9 R x)/\∀f,(∀x,G9 R x->ev f x=(R x).2)->cM id f H op=some (r,u)):=by
 cases op
 case mv x=>
  obtain⟨h1,h2⟩:=cQ h
  rw[fH] at h2
  exact⟨_,_,h2,fun hg=>⟨fun hr=>by simp[dZ.rd] at hr,fun f hf=>by simp only[cM,hf x (h1 hg)]⟩⟩
 case pick c a b=>
  obtain⟨h1,h2⟩:=cQ h
  split at h2
  ·rename_i t ht
   simp only[fH] at h2
   have key:∀{q:Option Bool} {p:Prop} {A:Prop},(match q with|none=>A|some q=>eE g (p->q=true)/\A)->A/\(Gd g->p->∀q',q=some q'->q'=true):=by
    intro q p A h
    cases q with
    |none=>exact⟨h,fun _ _ _ hq=>by cases hq⟩
    |some q=>exact⟨h.2,fun hg hp q' hq=>by cases hq;exact cj.1 h.1 hg hp⟩
   obtain⟨h3,ha⟩:=key h2
   obtain⟨h4,hb⟩:=key h3
   refine⟨_,_,h4,fun hg=>⟨fun hr=>by simp[dZ.rd] at hr,fun f hf=> ?_⟩⟩
   simp only[cM,hf c (h1 hg),ht]
   congr 2
   cases t with
   |true=>rw[tq,tq,hf a (ha hg rfl)]
   |false=>rw[rW,rW,hf b (hb hg rfl)]
  ·exact h2.elim
 case alloc e sz ag z=>
  refine⟨_,_,h.2,fun hg=>⟨fun hr=>by simp[dZ.rd] at hr,fun f hf=> ?_⟩⟩
  simp only[cM];rw[if_pos (cj.1 h.1 hg)]
 case box e sz ag x=>
  obtain⟨h1,h2⟩:=cQ h
  refine⟨_,_,h2.2,fun hg=>⟨fun hr=>by simp[dZ.rd] at hr,fun f hf=> ?_⟩⟩
  simp only[cM,hf x (h1 hg)];rw[if_pos (cj.1 h2.1 hg)]
 case SN z ps=>
  obtain⟨h1,h2⟩:=fV h
  obtain⟨cs,h3,h4⟩:=h2.ok
  refine⟨_,_,h4,fun hg=>⟨fun hr=>by simp[dZ.rd] at hr,fun f hf=> ?_⟩⟩
  simp only[cM]
  rw[D7 (R:=R) fun x hx=>hf x (h1 hg x hx),h3]
 case PT e sz ag z n ps=>
  obtain⟨h1,h2⟩:=fV h
  refine⟨_,_,h2.2,fun hg=>⟨fun hr=>by simp[dZ.rd] at hr,fun f hf=> ?_⟩⟩
  have h3:=cj.1 h2.1 hg
  simp only[cM]
  rw[D9 (R:=R) fun x hx=>hf x (h1 hg x hx),if_pos h3]
 case ld ag k x=>
  obtain⟨h1,h2⟩:=cQ h
  obtain⟨sz,e,off,h3,h4⟩:=zF h2
  obtain⟨r,h5,h6⟩:=GO h3
  refine⟨_,_,h5,fun hg=>⟨fun _ y hy=>by simp[dZ.eN] at hy;subst hy;exact h1 hg,fun f hf=> ?_⟩⟩
  simp only[cM,hf x (h1 hg),h4 hg,h6 hg,Option.map_some]
 case st ag k x y=>
  obtain⟨h1,h2⟩:=cQ h
  obtain⟨h3,h4⟩:=cQ h2
  split at h4
  ·rename_i b len i off hx
   obtain⟨e,sz,d,es,g1,g2,g3⟩:=h4.ok
   obtain⟨e',g4,g5⟩:=g3.ok.ok
   refine⟨_,_,g5,fun hg=>⟨fun _ z hz=>by simp[dZ.eN] at hz;rcases hz with rfl|rfl;exact h1 hg;exact h3 hg,fun f hf=> ?_⟩⟩
   simp only[cM,hf x (h1 hg),hf y (h3 hg),hx,g1,g4]
   rw[if_pos (cj.1 g2 hg)]
  ·exact h4.elim
 case RV x=>
  obtain⟨h1,h2⟩:=cQ h
  split at h2
  all_goals first
   |exact h2.elim
   |(rename_i hx;exact⟨_,_,h2,fun hg=>⟨fun hr=>by simp[dZ.rd] at hr,fun f hf=>by simp only[cM,hf x (h1 hg),hx]⟩⟩)
 case bin op x y=>
  obtain⟨h1,h2⟩:=cQ h
  obtain⟨h3,h4⟩:=cQ h2
  split at h4
  all_goals first
   |exact h4.elim
   |(rename_i hx hy;obtain⟨q1,q2⟩:=h4;obtain⟨m,q3,q4⟩:=q2.ok;refine⟨_,_,q4,fun hg=>⟨fun hr=>by simp[dZ.rd] at hr,fun f hf=> ?_⟩⟩;simp only[cM,hf x (h1 hg),hf y (h3 hg),hx,hy,FB];rw[if_pos (cj.1 q1 hg),q3 hg];rfl)
   |(rename_i hx hy;refine⟨_,_,h4.2,fun hg=>⟨fun hr=>by simp[dZ.rd] at hr,fun f hf=> ?_⟩⟩;simp only[cM,hf x (h1 hg),hf y (h3 hg),hx,hy,FB];rw[if_pos (cj.1 h4.1 hg)];rfl)
 case SQ neg x y=>
  obtain⟨h1,h2⟩:=cQ h
  obtain⟨h3,h4⟩:=cQ h2
  split at h4
  ·rename_i p q hx hy
   cases neg
   all_goals exact⟨_,_,h4,fun hg=>⟨fun hr=>by simp[dZ.rd] at hr,fun f hf=>by simp[cM,hf x (h1 hg),hf y (h3 hg),hx,hy]⟩⟩
  ·exact h4.elim
 case vM neg x y=>
  obtain⟨h1,h2⟩:=cQ h
  obtain⟨h3,h4⟩:=cQ h2
  split at h4
  ·rename_i p q hx hy
   cases neg
   all_goals exact⟨_,_,h4,fun hg=>⟨fun hr=>by simp[dZ.rd] at hr,fun f hf=>by simp[cM,hf x (h1 hg),hf y (h3 hg),hx,hy]⟩⟩
  ·exact h4.elim
 case FD op x y=>
  obtain⟨h1,h2⟩:=cQ h
  obtain⟨h3,h4⟩:=cQ h2
  split at h4
  ·rename_i p q hx hy
   cases op
   case add=>exact⟨_,_,h4.2,fun hg=>⟨fun hr=>by simp[dZ.rd] at hr,fun f hf=>by simp only[cM,hf x (h1 hg),hf y (h3 hg),hx,hy,MB];rw[if_pos (cj.1 h4.1 hg)];rfl⟩⟩
   case lss=>exact⟨_,_,h4,fun hg=>⟨fun hr=>by simp[dZ.rd] at hr,fun f hf=>by simp only[cM,hf x (h1 hg),hf y (h3 hg),hx,hy,MB];rfl⟩⟩
   all_goals exact h4.elim
  ·exact h4.elim
 case NG sz ag z x=>
  obtain⟨h1,h2⟩:=cQ h
  split at h2
  ·rename_i b len lo n hx
   obtain⟨e,s,d,es,q1,q2,q3⟩:=h2.ok
   exact⟨_,_,q3,fun hg=>⟨fun hr y hy=>by simp[dZ.eN] at hy;subst hy;exact h1 hg,fun f hf=>by
    simp only[cM,hf x (h1 hg),hx,q1];rw[if_pos (cj.1 q2 hg)]⟩⟩
  ·exact h2.elim
 case QP x=>
  obtain⟨h1,h2⟩:=cQ h
  obtain⟨xs,h3,h4⟩:=l4 h2
  obtain⟨ns,h5,h6⟩:=h3.ok
  exact⟨_,_,h6,fun hg=>⟨fun hr y hy=>by simp[dZ.eN] at hy;subst hy;exact h1 hg,fun f hf=>by
   obtain⟨q1,q2⟩:=h4 hg
   simp only[cM,hf x (h1 hg),q1,q2,if_true,h5 hg,Option.map_some]⟩⟩
 case un op x=>
  obtain⟨h1,h2⟩:=cQ h
  split at h2
  all_goals first
   |exact h2.elim
   |(rename_i hx;obtain⟨m,q3,q4⟩:=h2.ok;exact⟨_,_,q4,fun hg=>⟨fun hr=>by simp[dZ.rd] at hr,fun f hf=>by simp only[cM,hf x (h1 hg),hx,W3,Option.map_some,q3 hg]⟩⟩)
   |(rename_i hx;exact⟨_,_,h2,fun hg=>⟨fun hr=>by simp[dZ.rd] at hr,fun f hf=>by simp only[cM,hf x (h1 hg),hx,W3,Option.map_some]⟩⟩)
 case TF k x=>
  obtain⟨h1,h2⟩:=cQ h
  split at h2
  all_goals first
   |exact h2.elim
   |(rename_i hx;obtain⟨m,q3,q4⟩:=h2.ok;exact⟨_,_,q4,fun hg=>⟨fun hr=>by simp[dZ.rd] at hr,fun f hf=>by simp only[cM,hf x (h1 hg),hx,q3 hg]⟩⟩)
 case fa off x=>
  obtain⟨h1,h2⟩:=cQ h
  have hr:Gd g->((dZ.fa off x).rd=true->∀y∈(dZ.fa off x).eN,G9 R y):=fun hg _ y hy=>by simp[dZ.eN] at hy;subst hy;exact h1 hg
  split at h2
  ·rename_i hx
   refine⟨_,_,h2.2,fun hg=>⟨hr hg,fun f hf=> ?_⟩⟩
   simp only[cM,hf x (h1 hg),hx];rw[if_pos (cj.1 h2.1 hg)]
  ·rename_i hx
   obtain⟨e,sz,d,es,g1,g2,g3⟩:=h2.ok
   refine⟨_,_,g3,fun hg=>⟨hr hg,fun f hf=> ?_⟩⟩
   simp only[cM,hf x (h1 hg),hx,g1];rw[if_pos (cj.1 g2 hg)]
  ·exact h2.elim
 case ia k n x i=>
  obtain⟨h1,h2⟩:=cQ h
  obtain⟨h3,h4⟩:=cQ h2
  have hr:Gd g->((dZ.ia k n x i).rd=true->∀y∈(dZ.ia k n x i).eN,G9 R y):=fun hg _ y hy=>by simp[dZ.eN] at hy;rcases hy with rfl|rfl;exact h1 hg;exact h3 hg
  split at h4
  ·rename_i kk j hi
   cases n with
   |none=>
    simp only at h4
    split at h4
    ·rename_i hx
     refine⟨_,_,h4.2.2,fun hg=>⟨hr hg,fun f hf=> ?_⟩⟩
     simp only[cM,hf x (h1 hg),hf i (h3 hg),hx,hi,IP]
     rw[if_pos ⟨cj.1 h4.1 hg,cj.1 h4.2.1 hg⟩];rfl
    ·rename_i hx
     obtain⟨e,sz,d,es,g1,g2,g3,g4⟩:=h4.ok
     refine⟨_,_,g4,fun hg=>⟨hr hg,fun f hf=> ?_⟩⟩
     obtain⟨q1,q2⟩:=cj.1 g2 hg
     simp only[cM,hf x (h1 hg),hf i (h3 hg),hx,hi,IP,g1]
     rw[if_pos ⟨q1,q2,cj.1 g3 hg⟩];rfl
    ·rename_i hx
     obtain⟨e,sz,d,es,g1,g2,g3,g4⟩:=h4.ok
     refine⟨_,_,g4,fun hg=>⟨hr hg,fun f hf=> ?_⟩⟩
     obtain⟨q1,q2⟩:=cj.1 g2 hg
     simp only[cM,hf x (h1 hg),hf i (h3 hg),hx,hi,IP,g1]
     rw[if_pos ⟨q1,q2,cj.1 g3 hg⟩];rfl
    ·exact h4.elim
   |some m=>
    simp only at h4
    split at h4
    ·rename_i hx
     refine⟨_,_,h4.2.2,fun hg=>⟨hr hg,fun f hf=> ?_⟩⟩
     simp only[cM,hf x (h1 hg),hf i (h3 hg),hx,hi,IP]
     rw[if_pos ⟨cj.1 h4.1 hg,cj.1 h4.2.1 hg⟩];rfl
    ·rename_i hx
     obtain⟨e,sz,d,es,g1,g2,g3,g4⟩:=h4.ok
     refine⟨_,_,g4,fun hg=>⟨hr hg,fun f hf=> ?_⟩⟩
     obtain⟨q1,q2⟩:=cj.1 g2 hg
     simp only[cM,hf x (h1 hg),hf i (h3 hg),hx,hi,IP,g1]
     rw[if_pos ⟨q1,q2,cj.1 g3 hg⟩];rfl
    ·exact h4.elim
  ·exact h4.elim
 case TM off k ag x=>
  obtain⟨h1,h2⟩:=cQ h
  split at h2
  ·rename_i cs hx
   cases ag with
   |true=>
    refine⟨_,_,h2.2,fun hg=>⟨fun hr=>by simp[dZ.rd] at hr,fun f hf=> ?_⟩⟩
    simp only[cM,hf x (h1 hg),hx,if_true];rw[if_pos (cj.1 h2.1 hg)]
   |false=>
    have h3:=h2.2.ok
    rw[fH] at h3
    refine⟨_,_,h3,fun hg=>⟨fun hr=>by simp[dZ.rd] at hr,fun f hf=> ?_⟩⟩
    obtain⟨q1,q2⟩:=cj.1 h2.1 hg
    simp only[cM,hf x (h1 hg),hx,Bool.false_eq_true,if_false];rw[if_pos q1,if_pos q2]
  ·exact h2.elim
 case ix k ag n x i=>
  obtain⟨h1,h2⟩:=cQ h
  obtain⟨h3,h4⟩:=cQ h2
  split at h4
  ·rename_i cs kk j hx hi
   obtain⟨p1,p2,p3⟩:=h4
   cases ag with
   |true=>
    refine⟨_,_,p3,fun hg=>⟨fun hr=>by simp[dZ.rd] at hr,fun f hf=> ?_⟩⟩
    have q2:=cj.1 p2 hg
    simp only[cM,hf x (h1 hg),hf i (h3 hg),hx,hi,if_true];rw[if_pos ⟨q2.1,q2.2,cj.1 p1 hg⟩]
   |false=>
    have h5:=p3.2.ok
    rw[fH] at h5
    refine⟨_,_,h5,fun hg=>⟨fun hr=>by simp[dZ.rd] at hr,fun f hf=> ?_⟩⟩
    have q2:=cj.1 p2 hg
    simp only[cM,hf x (h1 hg),hf i (h3 hg),hx,hi,Bool.false_eq_true,if_false];rw[if_pos ⟨q2.1,q2.2,cj.1 p1 hg⟩,if_pos (cj.1 p3.1 hg)]
  ·exact h4.elim
 case TT x i=>
  obtain⟨h1,h2⟩:=cQ h
  obtain⟨h3,h4⟩:=cQ h2
  split at h4
  ·rename_i hx hi
   refine⟨_,_,h4.2,fun hg=>⟨fun hr=>by simp[dZ.rd] at hr,fun f hf=> ?_⟩⟩
   simp only[cM,hf x (h1 hg),hf i (h3 hg),hx,hi];rw[if_pos (cj.1 h4.1 hg)]
  ·exact h4.elim
 case lens x=>
  obtain⟨h1,h2⟩:=cQ h
  split at h2
  all_goals first
   |exact h2.elim
   |(rename_i hx;exact⟨_,_,h2,fun hg=>⟨fun hr=>by simp[dZ.rd] at hr,fun f hf=>by simp only[cM,hf x (h1 hg),hx]⟩⟩)
 case RS e sz bytes ag z l c=>
  obtain⟨h1,h2⟩:=cQ h
  obtain⟨h3,h4⟩:=cQ h2
  split at h4
  ·rename_i hx hi
   refine⟨_,_,h4.2.2,fun hg=>⟨fun hr=>by simp[dZ.rd] at hr,fun f hf=> ?_⟩⟩
   obtain⟨q1,q2⟩:=cj.1 h4.1 hg
   obtain⟨q3,q4,q5⟩:=cj.1 h4.2.1 hg
   simp only[cM,hf l (h1 hg),hf c (h3 hg),hx,hi];rw[if_pos ⟨q1,q3,q2,q4,q5⟩]
  ·exact h4.elim
 case ext i x=>
  obtain⟨h1,h2⟩:=cQ h
  split at h2
  ·rename_i hx
   have h3:=h2.2.ok
   rw[fH] at h3
   refine⟨_,_,h3,fun hg=>⟨fun hr=>by simp[dZ.rd] at hr,fun f hf=> ?_⟩⟩
   simp only[cM,hf x (h1 hg),hx];rw[if_pos (cj.1 h2.1 hg)]
  ·exact h2.elim
 case SV fn first caps=>
  obtain⟨h1,h2⟩:=fV h
  obtain⟨h3,h4⟩:=fV h2
  refine⟨_,_,h4,fun hg=>⟨fun hr=>by simp[dZ.rd] at hr,fun f hf=> ?_⟩⟩
  simp only[cM]
  rw[l6 (R:=R) fun x hx=>hf x (h1 hg x hx),l6 (R:=R) fun x hx=>hf x (h3 hg x hx)]
 case WM t x=>
  obtain⟨h1,h2⟩:=cQ h
  exact⟨_,_,h2,fun hg=>⟨fun hr=>by simp[dZ.rd] at hr,fun f hf=>by simp only[cM,hf x (h1 hg)]⟩⟩
 case len x=>
  obtain⟨h1,h2⟩:=cQ h
  have hr:Gd g->((dZ.len x).rd=true->∀y∈(dZ.len x).eN,G9 R y):=fun hg _ y hy=>by simp[dZ.eN] at hy;subst hy;exact h1 hg
  split at h2
  ·rename_i hx;exact⟨_,_,h2,fun hg=>⟨hr hg,fun f hf=>by simp only[cM,hf x (h1 hg),hx,tT]⟩⟩
  ·rename_i hx
   obtain⟨e,sz,d,es,g1,g2,g3⟩:=h2.ok
   refine⟨_,_,g3,fun hg=>⟨hr hg,fun f hf=> ?_⟩⟩
   simp only[cM,hf x (h1 hg),hx,tT,g1];rw[if_pos (cj.1 g2 hg)]
  ·rename_i hx;exact⟨_,_,h2,fun hg=>⟨hr hg,fun f hf=>by simp[cM,hf x (h1 hg),hx,tT]⟩⟩
  ·rename_i hx;exact⟨_,_,h2,fun hg=>⟨hr hg,fun f hf=>by simp[cM,hf x (h1 hg),hx,tT]⟩⟩
  ·rename_i hx;exact⟨_,_,h2,fun hg=>⟨hr hg,fun f hf=>by simp only[cM,hf x (h1 hg),hx,tT]⟩⟩
  ·exact h2.elim
 case app e sz bytes ag z s x=>
  obtain⟨h1,h2⟩:=cQ h
  obtain⟨h3,h4⟩:=cQ h2
  obtain⟨xs,⟨h5,h5'⟩,h6⟩:=l4 h4
  have hr:Gd g->((dZ.app e sz bytes ag z s x).rd=true->∀y∈(dZ.app e sz bytes ag z s x).eN,G9 R y):=fun hg _ y hy=>by simp[dZ.eN] at hy;rcases hy with rfl|rfl;exact h1 hg;exact h3 hg
  split at h5'
  ·rename_i hx
   refine⟨_,_,h5'.2,fun hg=>⟨hr hg,fun f hf=> ?_⟩⟩
   obtain⟨q1,q2⟩:=h6 hg
   simp only[cM,hf s (h1 hg),hf x (h3 hg),hx,q1];rw[if_pos ⟨q2,cj.1 h5 hg⟩,if_pos (cj.1 h5'.1 hg)]
  ·rename_i hx
   obtain⟨e',sz',d,es,g1,g2,g3,g4⟩:=h5'.ok
   refine⟨_,_,g4,fun hg=>⟨hr hg,fun f hf=> ?_⟩⟩
   obtain⟨q1,q2⟩:=h6 hg
   obtain⟨q3,q4,q5⟩:=cj.1 g2 hg
   simp only[cM,hf s (h1 hg),hf x (h3 hg),hx,q1,g1];rw[if_pos ⟨q2,cj.1 h5 hg⟩,if_pos ⟨q3,q4,q5,cj.1 g3 hg⟩]
  ·exact h5'.elim
 case I7 e bytes z s x=>
  obtain⟨h1,h2⟩:=cQ h
  obtain⟨h3,h4⟩:=cQ h2
  have hr:Gd g->((dZ.I7 e bytes z s x).rd=true->∀y∈(dZ.I7 e bytes z s x).eN,G9 R y):=fun hg _ y hy=>by simp[dZ.eN] at hy;rcases hy with rfl|rfl;exact h1 hg;exact h3 hg
  split at h4
  ·rename_i q hq
   split at h4
   ·rename_i hx
    refine⟨_,_,h4.2,fun hg=>⟨hr hg,fun f hf=> ?_⟩⟩
    simp only[cM,hf s (h1 hg),hf x (h3 hg),hx,hq];rw[if_pos (cj.1 h4.1 hg)]
   ·rename_i hx
    obtain⟨e',sz',d,es,g1,g2,g3,g4⟩:=h4.ok
    refine⟨_,_,g4,fun hg=>⟨hr hg,fun f hf=> ?_⟩⟩
    obtain⟨q3,q4,q5⟩:=cj.1 g2 hg
    simp only[cM,hf s (h1 hg),hf x (h3 hg),hx,hq,g1];rw[if_pos ⟨q3,q4,q5,cj.1 g3 hg⟩]
   ·exact h4.elim
  ·exact h4.elim
 case G5 neg x=>
  obtain⟨h1,h2⟩:=cQ h
  split at h2
  all_goals first
   |exact h2.elim
   |(rename_i hx;exact⟨_,_,h2,fun hg=>⟨fun hr=>by simp[dZ.rd] at hr,fun f hf=>by simp only[cM,hf x (h1 hg),hx]⟩⟩)
 case zP neg x=>
  obtain⟨h1,h2⟩:=cQ h
  obtain⟨t,h3,h4⟩:=h2.ok
  rw[fH] at h4
  refine⟨_,_,h4,fun hg=>⟨fun _ y hy=>by simp[dZ.eN] at hy;subst hy;exact h1 hg,fun f hf=> ?_⟩⟩
  simp only[cM,hf x (h1 hg),h3]
 case eqs neg ks x y=>
  obtain⟨h1,h2⟩:=cQ h
  obtain⟨h3,h4⟩:=cQ h2
  split at h4
  ·rename_i hx hy
   obtain⟨t,g1,g2⟩:=h4.ok
   cases neg
   all_goals exact⟨_,_,g2,fun hg=>⟨fun hr=>by simp[dZ.rd] at hr,fun f hf=>by simp[cM,hf x (h1 hg),hf y (h3 hg),hx,hy,g1]⟩⟩
  ·exact h4.elim
 case O0 sz x lo hi=>
  obtain⟨h1,h2⟩:=cQ h
  obtain⟨h3,h4⟩:=fV h2
  obtain⟨r,g1,g2⟩:=h4.ok
  rw[fH] at g2
  refine⟨_,_,g2,fun hg=>⟨fun _ y hy=> ?_,fun f hf=> ?_⟩⟩
  ·simp only[dZ.eN,List.mem_append,List.mem_singleton] at hy
   rcases hy with(rfl|hy)|hy
   ·exact h1 hg
   ·exact h3 hg y (by simp only[List.mem_append];exact .inl hy)
   ·exact h3 hg y (by simp only[List.mem_append];exact .inr hy)
  ·simp only[cM,hf x (h1 hg)]
   have e1:∀y∈lo.toList++hi.toList,ev f y=(R y).2:=fun y hy=>hf y (h3 hg y hy)
   cases lo<;>cases hi<;>simp_all
 case RD n x i=>
  obtain⟨h1,h2⟩:=cQ h
  obtain⟨h3,h4⟩:=cQ h2
  split at h4
  ·rename_i b len kk j hx hi
   obtain⟨e,sz,d,es,g1,g2,g3,g4⟩:=h4.ok
   refine⟨_,_,g4,fun hg=>⟨fun _ y hy=>by simp[dZ.eN] at hy;rcases hy with rfl|rfl;exact h1 hg;exact h3 hg,fun f hf=> ?_⟩⟩
   obtain⟨q1,q2,q3⟩:=cj.1 g2 hg
   obtain⟨q4,q5⟩:=cj.1 g3 hg
   simp only[cM,hf x (h1 hg),hf i (h3 hg),hx,hi,BR,g1]
   rw[if_pos ⟨q1,q2,q3,q4,q5⟩];rfl
  ·exact h4.elim
 case R6 n x i=>
  obtain⟨h1,h2⟩:=cQ h
  obtain⟨h3,h4⟩:=cQ h2
  split at h4
  ·rename_i b len kk j hx hi
   obtain⟨e,sz,d,es,g1,g2,g3,g4⟩:=h4.ok
   refine⟨_,_,g4,fun hg=>⟨fun _ y hy=>by simp[dZ.eN] at hy;rcases hy with rfl|rfl;exact h1 hg;exact h3 hg,fun f hf=> ?_⟩⟩
   obtain⟨q1,q2,q3⟩:=cj.1 g2 hg
   obtain⟨q4,q5⟩:=cj.1 g3 hg
   simp only[cM,hf x (h1 hg),hf i (h3 hg),hx,hi,C7,g1]
   rw[if_pos ⟨q1,q2,q3,q4,q5⟩];rfl
  ·exact h4.elim
 case bad=>exact h.elim
 case PQ e n=>exact⟨_,_,h,fun hg=>⟨fun hr=>by simp[dZ.rd] at hr,fun f hf=>rfl⟩⟩
 case SX sz x a b=>
  obtain⟨h1,h2⟩:=cQ h
  obtain⟨h3,h4⟩:=cQ h2
  obtain⟨h5,h6⟩:=cQ h4
  obtain⟨r,g1,g2⟩:=h6.ok
  rw[fH] at g2
  refine⟨_,_,g2,fun hg=>⟨fun _ y hy=> ?_,fun f hf=> ?_⟩⟩
  ·simp only[dZ.eN,List.mem_cons,List.not_mem_nil,or_false] at hy
   rcases hy with rfl|rfl|rfl
   ·exact h1 hg
   ·exact h3 hg
   ·exact h5 hg
  ·simp only[cM,hf x (h1 hg),hf a (h3 hg),hf b (h5 hg),g1]
   rfl
 case NK sz x y=>
  obtain⟨h1,h2⟩:=cQ h
  obtain⟨h3,h4⟩:=cQ h2
  split at h4
  ·rename_i b len hx
   obtain⟨xs,h5,h6⟩:=l4 h4
   obtain⟨e,s,d,es,g1,g2,g3⟩:=h5.ok
   refine⟨_,_,g3,fun hg=>⟨fun _ z hz=>by simp[dZ.eN] at hz;rcases hz with rfl|rfl;exact h1 hg;exact h3 hg,fun f hf=> ?_⟩⟩
   obtain⟨q1,q2⟩:=h6 hg
   obtain⟨q3,q4⟩:=cj.1 g2 hg
   simp only[cM,hf x (h1 hg),hf y (h3 hg),hx,q1,g1];rw[if_pos ⟨q3,q4,q2⟩]
  ·exact h4.elim
 case call f as=>exact h.elim
 case P8 kt=>exact⟨_,_,h,fun hg=>⟨fun hr=>by simp[dZ.rd] at hr,fun f hf=>rfl⟩⟩
 case FC sz v=>exact⟨_,_,h,fun hg=>⟨fun hr=>by simp[dZ.rd] at hr,fun f hf=>rfl⟩⟩
 case xp e sz v=>exact⟨_,_,h,fun hg=>⟨fun hr=>by simp[dZ.rd] at hr,fun f hf=>rfl⟩⟩
 case B1 x=>
  obtain⟨h1,h2⟩:=cQ h
  obtain⟨b,e,d,es,h3,h4⟩:=lQ h2
  exact⟨_,_,h4,fun hg=>⟨fun _ y hy=>by simp[dZ.eN] at hy;subst hy;exact h1 hg,fun f hf=>by simp only[cM,hf x (h1 hg),h3]⟩⟩
 case OB str ag z ok x k=>
  obtain⟨h1,h2⟩:=cQ h
  obtain⟨h3,h4⟩:=cQ h2
  have hr:Gd g->((dZ.OB str ag z ok x k).rd=true->∀y∈(dZ.OB str ag z ok x k).eN,G9 R y):=fun hg _ y hy=>by simp[dZ.eN] at hy;rcases hy with rfl|rfl;exact h1 hg;exact h3 hg
  split at h4
  ·rename_i kv hk
   obtain⟨b,e,d,es,h5,h6,h7⟩:=lQ h4
   obtain⟨p,h8,h9⟩:=h7.ok
   cases ok with
   |true=>
    refine⟨_,_,h9,fun hg=>⟨hr hg,fun f hf=> ?_⟩⟩
    have h10:=h8 hg
    unfold my at h10
    simp only[cM,hf x (h1 hg),hf k (h3 hg),h5,hk]
    rw[if_pos (cj.1 h6 hg)]
    split at h10<;>simp only[Option.some.injEq,reduceCtorEq] at h10
    ·subst h10;simp_all
    ·subst h10;simp_all
   |false=>
    simp only[fH] at h9
    refine⟨_,_,h9,fun hg=>⟨hr hg,fun f hf=> ?_⟩⟩
    have h10:=h8 hg
    unfold my at h10
    simp only[cM,hf x (h1 hg),hf k (h3 hg),h5,hk]
    rw[if_pos (cj.1 h6 hg)]
    split at h10<;>simp only[Option.some.injEq,reduceCtorEq] at h10
    ·subst h10;simp_all
    ·subst h10;simp_all
  ·exact h4.elim
 case IQ str x k y=>
  obtain⟨h1,h2⟩:=cQ h
  obtain⟨h3,h4⟩:=cQ h2
  obtain⟨h3',h4'⟩:=cQ h4
  have hr:Gd g->((dZ.IQ str x k y).rd=true->∀w∈(dZ.IQ str x k y).eN,G9 R w):=fun hg _ w hy=>by simp[dZ.eN] at hy;rcases hy with rfl|rfl|rfl;exact h1 hg;exact h3 hg;exact h3' hg
  split at h4'
  ·rename_i kv hk
   obtain⟨b,e,d,es,h5,h6,h7⟩:=lQ h4'
   obtain⟨p,h8,h9⟩:=h7.ok
   refine⟨_,_,h9,fun hg=>⟨hr hg,fun f hf=> ?_⟩⟩
   have h10:=h8 hg
   unfold pc at h10
   simp only[cM,hf x (h1 hg),hf k (h3 hg),hf y (h3' hg),h5,hk]
   rw[if_pos (cj.1 h6 hg)]
   split at h10<;>simp only[Option.some.injEq,reduceCtorEq] at h10
   ·subst h10;simp_all[nt]
   ·subst h10;simp_all[nt]
  ·exact h4'.elim
 case del str x k=>
  obtain⟨h1,h2⟩:=cQ h
  obtain⟨h3,h4⟩:=cQ h2
  have hr:Gd g->((dZ.del str x k).rd=true->∀y∈(dZ.del str x k).eN,G9 R y):=fun hg _ y hy=>by simp[dZ.eN] at hy;rcases hy with rfl|rfl;exact h1 hg;exact h3 hg
  split at h4
  ·rename_i kv hk
   obtain⟨b,e,d,es,h5,h6,h7⟩:=lQ h4
   obtain⟨p,h8,h9⟩:=h7.ok
   refine⟨_,_,h9,fun hg=>⟨hr hg,fun f hf=> ?_⟩⟩
   have h10:=h8 hg
   unfold WK at h10
   simp only[cM,hf x (h1 hg),hf k (h3 hg),h5,hk]
   rw[if_pos (cj.1 h6 hg)]
   split at h10<;>simp only[Option.some.injEq,reduceCtorEq] at h10
   ·subst h10;simp_all
   ·subst h10;simp_all
  ·exact h4.elim
 case W1 t ok ag z x=>
  obtain⟨h1,h2⟩:=cQ h
  split at h2
  ·rename_i t' v hx
   cases hb:Nat.beq t' t with
   |true=>
    rw[hb] at h2
    have e:=Nat.eq_of_beq_eq_true hb
    cases ok with
    |true=>
     simp only[cond_true] at h2
     exact⟨_,_,h2,fun hg=>⟨fun hr=>by simp[dZ.rd] at hr,fun f hf=>by simp only[cM,hf x (h1 hg),hx];rw[if_pos e];rfl⟩⟩
    |false=>
     simp only[cond_true,fH] at h2
     exact⟨_,_,h2,fun hg=>⟨fun hr=>by simp[dZ.rd] at hr,fun f hf=>by simp only[cM,hf x (h1 hg),hx];rw[if_pos e];rfl⟩⟩
   |false=>
    rw[hb] at h2
    have e:¬t'=t:=fun e=>by rw[e] at hb;simp at hb
    cases ok with
    |true=>
     simp only[cond_false] at h2
     exact⟨_,_,h2,fun hg=>⟨fun hr=>by simp[dZ.rd] at hr,fun f hf=>by simp only[cM,hf x (h1 hg),hx];rw[if_neg e];rfl⟩⟩
    |false=>exact h2.elim
  ·exact h2.elim
end Go.cu
/- Code as a whole, run by reduction alone; it is so. -/
namespace Go.cu
open Go.RowKit
structure fX (t:Bool) (A B:Prop):Prop where
 ok:(t=true->A)/\(t=false->B)
theorem fX.lt {A B:Prop} (h:A):fX true A B:=⟨⟨fun _=>h,fun h=>(by cases h)⟩⟩
theorem fX.lf {A B:Prop} (h:B):fX false A B:=⟨⟨fun h=>(by cases h),fun _=>h⟩⟩
theorem fX.of {t:Bool} {A B:Prop} (h1:t=true->A) (h2:t=false->B):fX t A B:=⟨⟨h1,h2⟩⟩
structure ee (t want:Bool) (A B J:Prop):Prop where
 ok:((t=want->A)/\(t≠want->B))\/J
theorem ee.tt {A B J:Prop} (h:A):ee true true A B J:=⟨.inl ⟨fun _=>h,fun h=>absurd rfl h⟩⟩
theorem ee.join {t want:Bool} {A B J:Prop} (h:J):ee t want A B J:=⟨.inr h⟩
theorem ee.split {t want:Bool} {A B J:Prop} (h1:t=want->A) (h2:t= !want->B):ee t want A B J:=⟨.inl ⟨h1,fun h=>h2 (by cases t<;>cases want<;>simp_all)⟩⟩
structure jB (P:Program) (f:FuncId) (args:List AV) (H:Hp) (nx:Nat) (K:AV->Hp->Nat->Prop):Prop where
 ok:cS P f args H nx K
structure oA (P:Program) (g:Bool) (f:FuncId) (args:List AV) (H:Hp) (nx:Nat) (K:AV->Prop):Prop where
 ok:∃r,(g=true->∀(K':AV->Hp->Nat->Prop),K' r H (nx+1)->cS P f args H nx K')/\K r
structure mA (P:Program) (id:Nat) (f:FuncId) (args:List AV) (H:Hp) (K:AV->Option (Nat×fC)->List Nat->Prop):Prop where
 ok:∃r u S,pC P id (.fn (.func f) [] []) args H r u S/\K r u S
structure S0 (P:Program) (t:TypeId) (v:AV) (nm:String) (args:List AV) (H:Hp) (nx:Nat) (K:AV->Hp->Nat->Prop):Prop where
 ok:uj P t v nm args H nx K
structure ui (P:Program) (g:Bool) (id:Nat) (f:FuncId) (args:List AV) (H:Hp) (K:AV->List Nat->Prop):Prop where
 ok:∃r S,(g=true->pC P id (.fn (.func f) [] []) args H r none S)/\K r S
theorem Pure.QU {P:Program} {f:FuncId} {args:List AV} {R:AV->Prop} {H:Hp} {nx:Nat} {K:AV->Hp->Nat->Prop} (h:Pure P f args R) (hf:cX 0 args) (hK:∀r,R r->K r H (nx+1)):cS P f args H nx K:=by
 have:=h.dK (H:=H) (nx:=nx) (K:=fun r H' n=>∃n',n<=n'/\K r H' n') hf fun r hr=>⟨_,Nat.le_succ _,hK r hr⟩
 refine⟨this.1,fun w0 c vs a1 a2 a3 a4=>(this.2 w0 c vs a1 a2 a3 a4).mono ?_⟩
 rintro e w' ⟨v,r,H',nx',ρ,U,he,⟨n',hn,hR⟩,hU,hrest⟩
 exact⟨v,r,H',n',ρ,U,he,hR,fun b hb=>Nat.lt_of_lt_of_le (hU b hb) hn,hrest⟩
theorem jB.pure {P:Program} {f:FuncId} {args:List AV} {R:AV->Prop} {H:Hp} {nx:Nat} {K:AV->Hp->Nat->Prop} (h:Pure P f args R) (hf:cX 0 args) (hK:∀r,R r->K r H nx):jB P f args H nx K:=⟨h.dK hf hK⟩
theorem jB.MW {P:Program} {f:FuncId} {args:List AV} {r:AV} {H:Hp} {nx:Nat} {K:AV->Hp->Nat->Prop} (h:Pure P f args (fun x=>x=r)) (hf:cX 0 args) (hK:K r H nx):jB P f args H nx K:=⟨h.dK hf fun x hx=>by rw[hx];exact hK⟩
theorem jB.of {P:Program} {f:FuncId} {args:List AV} {H:Hp} {nx:Nat} {R K:AV->Hp->Nat->Prop} (h:cS P f args H nx R) (hK:∀r H' nx',R r H' nx'->K r H' nx'):jB P f args H nx K:=⟨h.mono hK⟩
theorem oA.MW {P:Program} {g:Bool} {f:FuncId} {args:List AV} {r:AV} {H:Hp} {nx:Nat} {K:AV->Prop} (h:g=true->Pure P f args (fun x=>x=r)) (hf:cX 0 args) (hK:K r):oA P g f args H nx K:=
 ⟨⟨r,fun hg K' hK'=>(h hg).QU hf fun x hx=>by rw[hx];exact hK',hK⟩⟩
theorem mA.MW {P:Program} {id:Nat} {f:FuncId} {args:List AV} {H:Hp} {r:AV} {K:AV->Option (Nat×fC)->List Nat->Prop} (h:Pure P f args (fun x=>x=r)) (hf:cX 0 args) (hK:K r none []):mA P id f args H K:=
 ⟨⟨r,none,[],Pure.QB (by simpa using hf) (by simpa using h),hK⟩⟩
theorem ui.MW {P:Program} {g:Bool} {id:Nat} {f:FuncId} {args:List AV} {H:Hp} {r:AV} {K:AV->List Nat->Prop} (h:g=true->Pure P f args (fun x=>x=r)) (hf:cX 0 args) (hK:K r []):ui P g id f args H K:=
 ⟨⟨r,[],fun hg=>Pure.QB (by simpa using hf) (by simpa using h hg),hK⟩⟩
theorem mA.fresh {P:Program} {id:Nat} {f:FuncId} {args:List AV} {H:Hp} {r:AV} {u:Option (Nat×fC)} (S:List Nat) {K:AV->Option (Nat×fC)->List Nat->Prop}
 (h:∀H1,(∀b∈S,bu H1 b=bu H b)->kj P f args H1 id (fun r' H'=>r'=r/\H'=dS H1 u)) (hu:∀b q,u=some (b,q)->b=id) (hK:K r u S):mA P id f args H K:=
 ⟨⟨r,u,S,⟨by simpa using h,hu⟩,hK⟩⟩
section
variable (P:Program)
noncomputable def xi (nx:Nat) (R:Raw) (H:Hp) (op:dZ) (K:AV->Hp->Nat->Prop):Prop:=
 match op with
 | .call f args=>dO none R f fun fv=>kW none R args fun as=>match fv with
  | .fn (.func g) first caps=>qc (first++as++caps) fun as=>jB P g as H nx K
  | .fn (.method nm) [.mM t v] []=>qc as fun as=>S0 P t v nm as H nx K
  |_=>False
 |op=>qG none H R nx op fun r u=>K r (dS H u) (nx+1)
noncomputable def mR (nx:Nat) (g:Bool) (R:Raw) (H:Hp) (op:dZ) (K:AV->Prop):Prop:=
 match op with
 | .call f args=>dO (some g) R f fun fv=>kW (some g) R args fun as=>match fv with
  | .fn (.func q) first caps=>qc (first++as++caps) fun as=>oA P g q as H nx K
  |_=>False
 |op=>qG (some g) H R nx op fun r u=>match u with
  |none=>K r
  |some _=>False
abbrev DS:=Nat->Ov->Fr->Hp->(Ov->Hp->Nat->Prop)->Prop
def xj (nx:Nat) (ov:Ov) (_:Fr) (H:Hp) (K:Ov->Hp->Nat->Prop):Prop:=K ov H nx
noncomputable def qU (g:iF) (_:List iF) (ih:DS) (nx:Nat) (ov:Ov) (fr:Fr) (H:Hp) (K:Ov->Hp->Nat->Prop):Prop:=match g.guard with
 |none=>xi P nx (fQ ov fr) H g.op fun r H' nx'=>ih nx' (iE ov g.dst none r) fr H' K
 |some (d,want)=>match qd ov fr d with
  |(none, .sc (.bool t))=>ee t want (xi P nx (fQ ov fr) H g.op fun r H' nx'=>ih nx' (iE ov g.dst none r) fr H' K) (ih (nx+1) (iE ov g.dst none (.sc undef)) fr H K)
   (match want with
    |true=>mR P nx t (fQ ov fr) H g.op fun r=>ih (nx+1) (iE ov g.dst (some t) r) fr H K
    |false=>mR P nx (!t) (fQ ov fr) H g.op fun r=>ih (nx+1) (iE ov g.dst (some !t) r) fr H K)
  |(some q, .sc (.bool t))=>(match want with
   |true=>mR P nx (q&&t) (fQ ov fr) H g.op fun r=>ih (nx+1) (iE ov g.dst (some (q&&t)) r) fr H K
   |false=>mR P nx (q&& !t) (fQ ov fr) H g.op fun r=>ih (nx+1) (iE ov g.dst (some (q&& !t)) r) fr H K)
  |(none, .sc (.tuple _))=>ih (nx+1) (iE ov g.dst none (.sc undef)) fr H K
  |_=>False
noncomputable def E6 (nx:Nat) (gs:List iF) (ov:Ov) (fr:Fr) (H:Hp) (K:Ov->Hp->Nat->Prop):Prop:=List.rec (motive:=fun _=>DS) xj (qU P) gs nx ov fr H K
def GH (R:Raw) (op:dZ):List Nat:=if op.rd then op.eN.flatMap (fun x=>hX (R x).2) else[]
noncomputable def oL (id:Nat) (R:Raw) (H:Hp) (op:dZ) (K:AV->Option (Nat×fC)->List Nat->Prop):Prop:=
 match op with
 | .call f args=>dO none R f fun fv=>kW none R args fun as=>match fv with
  | .fn (.func g) first caps=>qc (first++as++caps) fun as=>mA P id g as H K
  |_=>False
 |op=>qG none H R id op fun r u=>K r u (GH R op)
noncomputable def jM (id:Nat) (g:Bool) (R:Raw) (H:Hp) (op:dZ) (K:AV->List Nat->Prop):Prop:=
 match op with
 | .call f args=>dO (some g) R f fun fv=>kW (some g) R args fun as=>match fv with
  | .fn (.func q) first caps=>qc (first++as++caps) fun as=>ui P g id q as H K
  |_=>False
 |op=>qG (some g) H R id op fun r u=>match u with
  |none=>K r (GH R op)
  |some _=>False
abbrev XB:=Nat->Ov->Fr->Hp->Tr->(Ov->Hp->Tr->Prop)->Prop
def IY (_:Nat) (ov:Ov) (_:Fr) (H:Hp) (tr:Tr) (K:Ov->Hp->Tr->Prop):Prop:=K ov H tr
noncomputable def pD (g:iF) (_:List iF) (ih:XB) (id:Nat) (ov:Ov) (fr:Fr) (H:Hp) (tr:Tr) (K:Ov->Hp->Tr->Prop):Prop:=match g.guard with
 |none=>oL P id (fQ ov fr) H g.op fun r u S=>ih (id+1) (iE ov g.dst none r) fr (dS H u) (tr++[(S,u.map (·.1))]) K
 |some (d,want)=>match qd ov fr d with
  |(none, .sc (.bool t))=>ee t want (oL P id (fQ ov fr) H g.op fun r u S=>ih (id+1) (iE ov g.dst none r) fr (dS H u) (tr++[(S,u.map (·.1))]) K) (ih (id+1) (iE ov g.dst none (.sc undef)) fr H (tr++[([],none)]) K)
   (match want with
    |true=>jM P id t (fQ ov fr) H g.op fun r S=>ih (id+1) (iE ov g.dst (some t) r) fr H (tr++[(S,none)]) K
    |false=>jM P id (!t) (fQ ov fr) H g.op fun r S=>ih (id+1) (iE ov g.dst (some !t) r) fr H (tr++[(S,none)]) K)
  |(some q, .sc (.bool t))=>(match want with
   |true=>jM P id (q&&t) (fQ ov fr) H g.op fun r S=>ih (id+1) (iE ov g.dst (some (q&&t)) r) fr H (tr++[(S,none)]) K
   |false=>jM P id (q&& !t) (fQ ov fr) H g.op fun r S=>ih (id+1) (iE ov g.dst (some (q&& !t)) r) fr H (tr++[(S,none)]) K)
  |(none, .sc (.tuple _))=>ih (id+1) (iE ov g.dst none (.sc undef)) fr H (tr++[([],none)]) K
  |_=>False
noncomputable def WD (id:Nat) (gs:List iF) (ov:Ov) (fr:Fr) (H:Hp) (tr:Tr) (K:Ov->Hp->Tr->Prop):Prop:=List.rec (motive:=fun _=>XB) IY (pD P) gs id ov fr H tr K
noncomputable def RX (S:List Nat):(List Nat->Prop)->Prop:=List.rec (motive:=fun _=>(List Nat->Prop)->Prop) (fun K=>K []) (fun b _ ih K=>ih fun S'=>K (b::S')) S
theorem tg:∀(S:List Nat) (K:List Nat->Prop),RX S K=K S
 |[],_=>rfl
 |b::S,K=>tg S fun S'=>K (b::S')
def uW (u:Option (Nat×fC)) (K:Option Nat->Prop):Prop:=match u with
 |none=>K none
 |some (b,_)=>K (some b)
theorem W2 (u:Option (Nat×fC)) (K:Option Nat->Prop):uW u K=K (u.map (·.1)):=by
 cases u<;>rfl
noncomputable def wJ (g:iF) (_:List iF) (ih:XB) (id:Nat) (ov:Ov) (fr:Fr) (H:Hp) (tr:Tr) (K:Ov->Hp->Tr->Prop):Prop:=match g.guard with
 |none=>oL P id (fQ ov fr) H g.op fun r u S=>RX S fun S=>uW u fun x=>ih (id+1) (iE ov g.dst none r) fr (dS H u) ((S,x)::tr) K
 |some (d,want)=>match qd ov fr d with
  |(none, .sc (.bool t))=>ee t want (oL P id (fQ ov fr) H g.op fun r u S=>RX S fun S=>uW u fun x=>ih (id+1) (iE ov g.dst none r) fr (dS H u) ((S,x)::tr) K) (ih (id+1) (iE ov g.dst none (.sc undef)) fr H (([],none)::tr) K)
   (match want with
    |true=>jM P id t (fQ ov fr) H g.op fun r S=>RX S fun S=>ih (id+1) (iE ov g.dst (some t) r) fr H ((S,none)::tr) K
    |false=>jM P id (!t) (fQ ov fr) H g.op fun r S=>RX S fun S=>ih (id+1) (iE ov g.dst (some !t) r) fr H ((S,none)::tr) K)
  |(some q, .sc (.bool t))=>(match want with
   |true=>jM P id (q&&t) (fQ ov fr) H g.op fun r S=>RX S fun S=>ih (id+1) (iE ov g.dst (some (q&&t)) r) fr H ((S,none)::tr) K
   |false=>jM P id (q&& !t) (fQ ov fr) H g.op fun r S=>RX S fun S=>ih (id+1) (iE ov g.dst (some (q&& !t)) r) fr H ((S,none)::tr) K)
  |(none, .sc (.tuple _))=>ih (id+1) (iE ov g.dst none (.sc undef)) fr H (([],none)::tr) K
  |_=>False
noncomputable def WE (id:Nat) (gs:List iF) (ov:Ov) (fr:Fr) (H:Hp) (tr:Tr) (K:Ov->Hp->Tr->Prop):Prop:=List.rec (motive:=fun _=>XB) IY (wJ P) gs id ov fr H tr K
theorem xh:∀(gs:List iF) (id:Nat) (ov:Ov) (fr:Fr) (H:Hp) (tr:Tr) (K:Ov->Hp->Tr->Prop),WE P id gs ov fr H tr K=WD P id gs ov fr H tr.reverse fun ov H t=>K ov H t.reverse
 |[],id,ov,fr,H,tr,K=>by
  show K ov H tr=K ov H tr.reverse.reverse
  rw[List.reverse_reverse]
 |g::gs,id,ov,fr,H,tr,K=>by
  have ih:=xh gs
  show wJ P g gs (fun id ov fr H tr K=>WE P id gs ov fr H tr K) id ov fr H tr K=pD P g gs (fun id ov fr H tr K=>WD P id gs ov fr H tr K) id ov fr H tr.reverse fun ov H t=>K ov H t.reverse
  simp only[wJ,pD,tg,W2,ih,List.reverse_cons]
noncomputable def M4 (s:sM) (_:List sM) (ih:DS) (nx:Nat) (ov:Ov) (fr:Fr) (H:Hp) (K:Ov->Hp->Nat->Prop):Prop:=match s.ops with
 |[g]=>E6 P nx [g] ov fr H fun ov' H' nx'=>ih nx' ov' fr H' K
 |gs=>WE P nx gs ov fr H [] fun ov' H' tr=>(match s.ps with
  |[]=>ih (nx+gs.length) ov' fr H' K
  |p::ps=>Ask (jP tr.reverse (p::ps))/\ih (nx+gs.length) ov' fr H' K)
noncomputable def WS (nx:Nat) (segs:List sM) (ov:Ov) (fr:Fr) (H:Hp) (K:Ov->Hp->Nat->Prop):Prop:=List.rec (motive:=fun _=>DS) xj (M4 P) segs nx ov fr H K
structure jC (n lo:Nat) (x:LC) (fr:Fr) (H:Hp) (nx:Nat) (Q:QT):Prop where
 ok:WL P n lo (.loop x) fr H nx Q
abbrev WT:=Fr->Hp->Nat->QT->Prop
def QK (fr:Fr) (H:Hp) (nx:Nat) (Q:QT):Prop:=Q .normal fr H nx
noncomputable def IZ (gs:List iF) (fr:Fr) (H:Hp) (nx:Nat) (Q:QT):Prop:=E6 P nx gs [] fr H fun ov H' nx'=>Q .normal (iP ov fr) H' nx'
structure gL (segs:List sM) (fr:Fr) (H:Hp) (nx:Nat) (Q:QT):Prop where
 ok:∀n lo,WL P n lo (.drawn segs) fr H nx Q
def M6 (segs:List sM) (fr:Fr) (H:Hp) (nx:Nat) (Q:QT):Prop:=gL P segs fr H nx Q
def S3 (_ _:LC) (ia ib:WT) (fr:Fr) (H:Hp) (nx:Nat) (Q:QT):Prop:=ia fr H nx (ic (fun fr H nx=>ib fr H nx Q) Q)
def AJ (c:eI) (_ _:LC) (ia ib:WT) (fr:Fr) (H:Hp) (nx:Nat) (Q:QT):Prop:=match ev fr c with
 | .sc (.bool t)=>fX t (ia fr H nx Q) (ib fr H nx Q)
 | .ab=>ia fr H nx Q/\ib fr H nx Q
 |_=>False
def M5 (id:Nat) (_:LC) (ia:WT) (fr:Fr) (H:Hp) (nx:Nat) (Q:QT):Prop:=ia fr H nx (AR id Q)
def QJ (n lo:Nat) (a:LC) (_:WT) (fr:Fr) (H:Hp) (nx:Nat) (Q:QT):Prop:=jC P n lo a fr H nx Q
def QI (id:Nat) (fr:Fr) (H:Hp) (nx:Nat) (Q:QT):Prop:=Q (.exit id) fr H nx
def S1 (fr:Fr) (H:Hp) (nx:Nat) (Q:QT):Prop:=Q .ret fr H nx
noncomputable def W (n lo:Nat) (lc:LC):WT:=LC.rec (motive:=fun _=>WT) QK (IZ P) (M6 P) S3 AJ M5 (QJ P n lo) QI S1 lc
end
section
variable {P:Program}
theorem qy {nx:Nat} {ov:Ov} {f fr:Fr} {H:Hp} {op:dZ} {K:AV->Hp->Nat->Prop} (hF:qR f ov fr) (h:xi P nx (fQ ov fr) H op K):eG P nx f H op K:=by
 by_cases hc:∃g as,op= .call g as
 ·obtain⟨fo,as,rfl⟩:=hc
  simp only[xi] at h
  obtain⟨h1,h2⟩:=cQ h
  obtain⟨h3,h4⟩:=fV h2
  simp only[eG]
  rw[hF.raw fo (h1 trivial),l6 (R:=fQ ov fr) fun x hx=>hF.raw x (h3 trivial x hx)]
  split at h4
  ·rename_i he
   rw[he]
   rw[iy] at h4
   exact h4.ok
  ·rename_i he
   rw[he]
   rw[iy] at h4
   exact h4.ok
  ·exact h4.elim
 ·have e1:xi P nx (fQ ov fr) H op K=qG none H (fQ ov fr) nx op fun r u=>K r (dS H u) (nx+1):=by cases op<;>first|rfl|exact absurd ⟨_,_,rfl⟩ hc
  have e2:eG P nx f H op K=nA (cM nx f H op) fun p=>K p.1 (dS H p.2) (nx+1):=by cases op<;>first|rfl|exact absurd ⟨_,_,rfl⟩ hc
  rw[e1] at h
  obtain⟨r,u,h1,h2⟩:=kO h
  rw[e2,(h2 trivial).2 f fun x hx=>hF.raw x hx]
  exact h1
theorem wL {nx:Nat} {g:Bool} {ov:Ov} {fr:Fr} {H:Hp} {op:dZ} {K:AV->Prop} (h:mR P nx g (fQ ov fr) H op K):
 ∃r,K r/\(g=true->∀f,qR f ov fr->∀K':AV->Hp->Nat->Prop,K' r H (nx+1)->eG P nx f H op K'):=by
 by_cases hc:∃g as,op= .call g as
 ·obtain⟨fo,as,rfl⟩:=hc
  simp only[mR] at h
  obtain⟨h1,h2⟩:=cQ h
  obtain⟨h3,h4⟩:=fV h2
  split at h4
  ·rename_i he
   rw[iy] at h4
   obtain⟨r,h5,h6⟩:=h4.ok
   refine⟨r,h6,fun hg f hF K' hK'=> ?_⟩
   simp only[eG]
   rw[hF.raw fo (h1 hg),l6 (R:=fQ ov fr) fun x hx=>hF.raw x (h3 hg x hx),he]
   exact h5 hg K' hK'
  ·exact h4.elim
 ·have e1:mR P nx g (fQ ov fr) H op K=qG (some g) H (fQ ov fr) nx op fun r u=>match u with|none=>K r|some _=>False:=by cases op<;>first|rfl|exact absurd ⟨_,_,rfl⟩ hc
  rw[e1] at h
  obtain⟨r,u,h1,h2⟩:=kO h
  cases u with
  |some p=>exact h1.elim
  |none=>
   refine⟨r,h1,fun hg f hF K' hK'=> ?_⟩
   have e2:eG P nx f H op K'=nA (cM nx f H op) fun p=>K' p.1 (dS H p.2) (nx+1):=by cases op<;>first|rfl|exact absurd ⟨_,_,rfl⟩ hc
   rw[e2,(h2 hg).2 f fun x hx=>hF.raw x hx]
   exact hK'
theorem fp:∀{gs:List iF} {nx:Nat} {ov:Ov} {f fr:Fr} {H:Hp} {K:Ov->Hp->Nat->Prop},qR f ov fr->E6 P nx gs ov fr H K->fe P nx gs f H (fun f1 H1 nx1=>∃ov1,qR f1 ov1 fr/\K ov1 H1 nx1)
 |[],nx,ov,f,fr,H,K,hF,h=>⟨ov,hF,h⟩
 |g::gs,nx,ov,f,fr,H,K,hF,h=>by
  have join:∀{q t:Bool} {d:Nat} {want:Bool},g.guard=some (d,want)->(q=true->cp f d= .sc (.bool t))->(q=false->cp f d= .sc undef)->∀{gg:Bool},(gg=true↔(q=true/\t=want))->
   (mR P nx gg (fQ ov fr) H g.op fun r=>E6 P (nx+1) gs (iE ov g.dst (some gg) r) fr H K)->fe P nx (g::gs) f H (fun f1 H1 nx1=>∃ov1,qR f1 ov1 fr/\K ov1 H1 nx1):=by
   intro q t d want hg hq1 hq2 gg hgg hJ
   obtain⟨r,h1,h2⟩:=wL hJ
   simp only[fe,hg,dc]
   cases q with
   |true=>
    simp only[hq1 rfl]
    by_cases ht:t=want
    ·rw[if_pos ht]
     have hgt:=hgg.2 ⟨rfl,ht⟩
     exact h2 hgt f hF _ (fp (hF.py g.dst (u:=r) (fun _=>rfl) fun h=>by rw[hgt] at h;cases h) h1)
    ·rw[if_neg ht]
     have hgf:gg=false:=by cases hgg':gg<;>simp_all
     exact fp (hF.py g.dst (u:= .sc undef) (fun h=>by rw[hgf] at h;cases h) fun _=>rfl) h1
   |false=>
    simp only[hq2 rfl]
    have hgf:gg=false:=by cases hgg':gg<;>simp_all
    have:=fp (hF.py g.dst (u:= .sc undef) (q:=gg) (fun h=>by rw[hgf] at h;cases h) fun _=>rfl) h1
    exact this
  have h:qU P g gs (fun nx ov fr H K=>E6 P nx gs ov fr H K) nx ov fr H K:=h
  simp only[qU] at h
  split at h
  ·rename_i hg
   simp only[fe,hg,dc]
   exact(qy hF h).mono fun r H' nx' hh=>fp (hF.put g.dst r) hh
  ·rename_i d want hg
   have hd:=hF d
   split at h
   ·rename_i t he
    rw[he] at hd
    simp only at hd
    rcases h.ok with⟨hA,hB⟩|hJ
    ·simp only[fe,hg,dc,hd]
     by_cases ht:t=want
     ·rw[if_pos ht]
      exact(qy hF (hA ht)).mono fun r H' nx' hh=>fp (hF.put g.dst r) hh
     ·rw[if_neg ht]
      exact fp (hF.put g.dst _) (hB ht)
    ·cases want with
     |true=>exact join (q:=true) hg (fun _=>hd) (fun h=>by cases h) (gg:=t) (by simp) hJ
     |false=>exact join (q:=true) hg (fun _=>hd) (fun h=>by cases h) (gg:= !t) (by simp) hJ
   ·rename_i q t he
    rw[he] at hd
    simp only at hd
    cases want with
    |true=>exact join hg hd.1 hd.2 (gg:=q&&t) (by simp) h
    |false=>exact join hg hd.1 hd.2 (gg:=q&& !t) (by simp) h
   ·rename_i v he
    rw[he] at hd
    simp only at hd
    simp only[fe,hg,dc,hd]
    exact fp (hF.put g.dst _) h
   ·exact h.elim
def E4:Tr->Tr->Prop
 |[],[]=>True
 |a::r,b::s=>(∀x∈a.1,x∈b.1)/\a.2=b.2/\E4 r s
 |_,_=>False
theorem E4.snoc {a b:List Nat} {u:Option Nat} (h1:∀x∈a,x∈b):∀{r s:Tr},E4 r s->E4 (r++[(a,u)]) (s++[(b,u)])
 |[],[],_=>⟨h1,rfl,trivial⟩
 |x::r,y::s,h=>⟨h.1,h.2.1,E4.snoc h1 h.2.2⟩
 |[],_::_,h=>h.elim
 |_::_,[],h=>h.elim
theorem E4.get:∀{r s:Tr},E4 r s->∀k,(∀x∈(r.getD k ([],none)).1,x∈(s.getD k ([],none)).1)/\(r.getD k ([],none)).2=(s.getD k ([],none)).2
 |[],[],_,k=>by simp
 |x::r,y::s,h,0=>⟨h.1,h.2.1⟩
 |x::r,y::s,h,k+1=>by simpa using E4.get h.2.2 k
 |[],_::_,h,_=>h.elim
 |_::_,[],h,_=>h.elim
theorem E4.FT {r s:Tr} (h:E4 r s) {ps:List (Nat×Nat)} (hf:jP s ps):jP r ps:=by
 intro p hp
 obtain⟨h1,h2,h3⟩:=hf p hp
 obtain⟨a1,a2⟩:=h.get p.1
 obtain⟨b1,b2⟩:=h.get p.2
 exact⟨fun b hb hm=>h1 b (by rw[<-a2];exact hb) (b1 b hm),fun b hb hm=>h2 b (by rw[<-b2];exact hb) (a1 b hm),fun b hb=>h3 b ⟨by rw[<-a2];exact hb.1,by rw[<-b2];exact hb.2⟩⟩
theorem EF {ov:Ov} {f fr:Fr} {op:dZ} (hF:qR f ov fr) (h:op.rd=true->∀y∈op.eN,G9 (fQ ov fr) y):∀x∈e8 f op,x∈GH (fQ ov fr) op:=by
 intro x hx
 unfold e8 at hx
 unfold GH
 split at hx
 ·rename_i hr
  rw[if_pos hr]
  obtain⟨y,hy,hm⟩:=List.mem_flatMap.1 hx
  exact List.mem_flatMap.2 ⟨y,hy,by rw[<-hF.raw y (h hr y hy)];exact hm⟩
 ·cases hx
theorem pE {id:Nat} {ov:Ov} {fr:Fr} {H:Hp} {op:dZ} {K:AV->Option (Nat×fC)->List Nat->Prop} (h:oL P id (fQ ov fr) H op K) {f:Fr} (hF:qR f ov fr):
 mC P id f H op (fun r u S'=>∃S,(∀x∈S',x∈S)/\K r u S):=by
 by_cases hc:∃g as,op= .call g as
 ·obtain⟨fo,as,rfl⟩:=hc
  simp only[oL] at h
  obtain⟨h1,h2⟩:=cQ h
  obtain⟨h3,h4⟩:=fV h2
  split at h4
  ·rename_i he
   rw[iy] at h4
   obtain⟨r,u,S,h5,h6⟩:=h4.ok
   refine⟨r,u,S, ?_,S,fun _ h=>h,h6⟩
   rw[hF.raw fo (h1 trivial),l6 (R:=fQ ov fr) fun x hx=>hF.raw x (h3 trivial x hx),he]
   simpa[pC] using h5
  ·exact h4.elim
 ·have e1:oL P id (fQ ov fr) H op K=qG none H (fQ ov fr) id op fun r u=>K r u (GH (fQ ov fr) op):=by cases op<;>first|rfl|exact absurd ⟨_,_,rfl⟩ hc
  rw[e1] at h
  obtain⟨r,u,h1,h2⟩:=kO h
  obtain⟨h3,h4⟩:=h2 trivial
  have e2:∀K',mC P id f H op K'=nA (cM id f H op) fun p=>K' p.1 p.2 (e8 f op):=by intro K';cases op<;>first|rfl|exact absurd ⟨_,_,rfl⟩ hc
  rw[e2,h4 f fun x hx=>hF.raw x hx]
  exact⟨_,EF hF h3,h1⟩
theorem wK {id:Nat} {g:Bool} {ov:Ov} {fr:Fr} {H:Hp} {op:dZ} {K:AV->List Nat->Prop} (h:jM P id g (fQ ov fr) H op K):
 ∃r S,K r S/\(g=true->∀f,qR f ov fr->∀K':AV->Option (Nat×fC)->List Nat->Prop,(∀S',(∀x∈S',x∈S)->K' r none S')->mC P id f H op K'):=by
 by_cases hc:∃g as,op= .call g as
 ·obtain⟨fo,as,rfl⟩:=hc
  simp only[jM] at h
  obtain⟨h1,h2⟩:=cQ h
  obtain⟨h3,h4⟩:=fV h2
  split at h4
  ·rename_i he
   rw[iy] at h4
   obtain⟨r,S,h5,h6⟩:=h4.ok
   refine⟨r,S,h6,fun hg f hF K' hK'=>⟨r,none,S, ?_,hK' S fun _ h=>h⟩⟩
   rw[hF.raw fo (h1 hg),l6 (R:=fQ ov fr) fun x hx=>hF.raw x (h3 hg x hx),he]
   simpa[pC] using h5 hg
  ·exact h4.elim
 ·have e1:jM P id g (fQ ov fr) H op K=qG (some g) H (fQ ov fr) id op fun r u=>match u with|none=>K r (GH (fQ ov fr) op)|some _=>False:=by cases op<;>first|rfl|exact absurd ⟨_,_,rfl⟩ hc
  rw[e1] at h
  obtain⟨r,u,h1,h2⟩:=kO h
  cases u with
  |some p=>exact h1.elim
  |none=>
   refine⟨r,_,h1,fun hg f hF K' hK'=> ?_⟩
   obtain⟨h3,h4⟩:=h2 hg
   have e2:mC P id f H op K'=nA (cM id f H op) fun p=>K' p.1 p.2 (e8 f op):=by cases op<;>first|rfl|exact absurd ⟨_,_,rfl⟩ hc
   rw[e2,h4 f fun x hx=>hF.raw x hx]
   exact hK' _ (EF hF h3)
theorem gM:∀{gs:List iF} {id:Nat} {ov:Ov} {f fr:Fr} {H:Hp} {tr tr':Tr} {K:Ov->Hp->Tr->Prop},qR f ov fr->E4 tr' tr->WD P id gs ov fr H tr K->jW P id gs f H tr' (fun f1 H1 tr1=>∃ov1 trj,qR f1 ov1 fr/\E4 tr1 trj/\K ov1 H1 trj)
 |[],id,ov,f,fr,H,tr,tr',K,hF,hT,h=>⟨ov,tr,hF,hT,h⟩
 |g::gs,id,ov,f,fr,H,tr,tr',K,hF,hT,h=>by
  have join:∀{q t:Bool} {d:Nat} {want:Bool},g.guard=some (d,want)->(q=true->cp f d= .sc (.bool t))->(q=false->cp f d= .sc undef)->∀{gg:Bool},(gg=true↔(q=true/\t=want))->
   (jM P id gg (fQ ov fr) H g.op fun r S=>WD P (id+1) gs (iE ov g.dst (some gg) r) fr H (tr++[(S,none)]) K)->jW P id (g::gs) f H tr' (fun f1 H1 tr1=>∃ov1 trj,qR f1 ov1 fr/\E4 tr1 trj/\K ov1 H1 trj):=by
   intro q t d want hg hq1 hq2 gg hgg hJ
   obtain⟨r,S,h1,h2⟩:=wK hJ
   simp only[jW,hg,dc]
   cases q with
   |true=>
    simp only[hq1 rfl]
    by_cases ht:t=want
    ·rw[if_pos ht]
     have hgt:=hgg.2 ⟨rfl,ht⟩
     refine h2 hgt f hF _ fun S' hS=> ?_
     exact gM (hF.py g.dst (u:=r) (fun _=>rfl) fun h=>by rw[hgt] at h;cases h) (hT.snoc hS) h1
    ·rw[if_neg ht]
     have hgf:gg=false:=by cases hgg':gg<;>simp_all
     exact gM (hF.py g.dst (u:= .sc undef) (fun h=>by rw[hgf] at h;cases h) fun _=>rfl) (hT.snoc (a:=[]) (b:=S) (fun _ h=>by cases h)) h1
   |false=>
    simp only[hq2 rfl]
    have hgf:gg=false:=by cases hgg':gg<;>simp_all
    have:=gM (hF.py g.dst (u:= .sc undef) (q:=gg) (fun h=>by rw[hgf] at h;cases h) fun _=>rfl) (hT.snoc (a:=[]) (b:=S) (fun _ h=>by cases h)) h1
    exact this
  have h:pD P g gs (fun id ov fr H tr K=>WD P id gs ov fr H tr K) id ov fr H tr K:=h
  simp only[pD] at h
  split at h
  ·rename_i hg
   simp only[jW,hg,dc]
   refine(pE h hF).mono ?_
   rintro r u S' ⟨S,hS,hh⟩
   exact gM (hF.put g.dst r) (hT.snoc hS) hh
  ·rename_i d want hg
   have hd:=hF d
   split at h
   ·rename_i t he
    rw[he] at hd
    simp only at hd
    rcases h.ok with⟨hA,hB⟩|hJ
    ·simp only[jW,hg,dc,hd]
     by_cases ht:t=want
     ·rw[if_pos ht]
      refine(pE (hA ht) hF).mono ?_
      rintro r u S' ⟨S,hS,hh⟩
      exact gM (hF.put g.dst r) (hT.snoc hS) hh
     ·rw[if_neg ht]
      exact gM (hF.put g.dst _) (hT.snoc (a:=[]) (b:=[]) (fun _ h=>h)) (hB ht)
    ·cases want with
     |true=>exact join (q:=true) hg (fun _=>hd) (fun h=>by cases h) (gg:=t) (by simp) hJ
     |false=>exact join (q:=true) hg (fun _=>hd) (fun h=>by cases h) (gg:= !t) (by simp) hJ
   ·rename_i q t he
    rw[he] at hd
    simp only at hd
    cases want with
    |true=>exact join hg hd.1 hd.2 (gg:=q&&t) (by simp) h
    |false=>exact join hg hd.1 hd.2 (gg:=q&& !t) (by simp) h
   ·rename_i v he
    rw[he] at hd
    simp only at hd
    simp only[jW,hg,dc,hd]
    exact gM (hF.put g.dst _) (hT.snoc (a:=[]) (b:=[]) (fun _ h=>h)) h
   ·exact h.elim
theorem ku:∀{segs:List sM} {nx:Nat} {ov:Ov} {f fr:Fr} {H:Hp} {K:Ov->Hp->Nat->Prop},qR f ov fr->WS P nx segs ov fr H K->iq P nx segs f H (fun f1 H1 nx1=>∃ov1,qR f1 ov1 fr/\K ov1 H1 nx1)
 |[],nx,ov,f,fr,H,K,hF,h=>⟨ov,hF,h⟩
 |⟨[g],ps⟩::rest,nx,ov,f,fr,H,K,hF,h=>by
  have h:E6 P nx [g] ov fr H fun ov' H' nx'=>WS P nx' rest ov' fr H' K:=h
  refine fe.mono (K':=fun a b c=>iq P c rest a b _) (fp hF h) ?_
  rintro f1 H1 nx1 ⟨ov1,h1,h2⟩
  exact ku h1 h2
 |⟨[],[]⟩::rest,nx,ov,f,fr,H,K,hF,h=>by
  have h:WE P nx [] ov fr H [] fun ov' H' _=>WS P (nx+0) rest ov' fr H' K:=h
  rw[xh,List.reverse_nil] at h
  simp only[iq]
  refine jW.mono (gM hF (tr':=[]) (tr:=[]) trivial h) ?_
  rintro f1 H1 tr1 ⟨ov1,trj,h1,h2,h3⟩
  exact⟨(fun p hp=>by cases hp),ku h1 h3⟩
 |⟨[],p::ps⟩::rest,nx,ov,f,fr,H,K,hF,h=>by
  have h:WE P nx [] ov fr H [] fun ov' H' tr=>Ask (jP tr.reverse (p::ps))/\WS P (nx+0) rest ov' fr H' K:=h
  rw[xh,List.reverse_nil] at h
  simp only[List.reverse_reverse] at h
  simp only[iq]
  refine jW.mono (gM hF (tr':=[]) (tr:=[]) trivial h) ?_
  rintro f1 H1 tr1 ⟨ov1,trj,h1,h2,h3⟩
  exact⟨h2.FT h3.1.ok,ku h1 h3.2⟩
 |⟨g1::g2::gs,[]⟩::rest,nx,ov,f,fr,H,K,hF,h=>by
  have h:WE P nx (g1::g2::gs) ov fr H [] fun ov' H' _=>WS P (nx+(g1::g2::gs).length) rest ov' fr H' K:=h
  rw[xh,List.reverse_nil] at h
  simp only[iq]
  refine jW.mono (gM hF (tr':=[]) (tr:=[]) trivial h) ?_
  rintro f1 H1 tr1 ⟨ov1,trj,h1,h2,h3⟩
  exact⟨(fun p hp=>by cases hp),ku h1 h3⟩
 |⟨g1::g2::gs,p::ps⟩::rest,nx,ov,f,fr,H,K,hF,h=>by
  have h:WE P nx (g1::g2::gs) ov fr H [] fun ov' H' tr=>Ask (jP tr.reverse (p::ps))/\WS P (nx+(g1::g2::gs).length) rest ov' fr H' K:=h
  rw[xh,List.reverse_nil] at h
  simp only[List.reverse_reverse] at h
  simp only[iq]
  refine jW.mono (gM hF (tr':=[]) (tr:=[]) trivial h) ?_
  rintro f1 H1 tr1 ⟨ov1,trj,h1,h2,h3⟩
  exact⟨h2.FT h3.1.ok,ku h1 h3.2⟩
theorem Holds.less {w0:World} {M0:Nat->Prop} {c0:Cx} {lo n:Nat} {fr fr':Fr} {H:Hp} {nx:Nat} {a:Act} {w:World} (h:Holds w0 M0 c0 lo n fr H nx a w) (hf:∀t,cp fr' t= .any\/cp fr' t=cp fr t):Holds w0 M0 c0 lo n fr' H nx a w:=by
 obtain⟨h1,h2,ρ,U,hU,hS,hF,hT⟩:=h
 refine⟨h1,h2,ρ,U,hU,hS,fun t=> ?_,hT⟩
 rcases hf t with h|h
 ·rw[h,VR];trivial
 ·rw[h];exact hF t
theorem WL.less {n lo:Nat} {lc:LC} {fr:Fr} {H:Hp} {nx:Nat} {Q:QT} (h:WL P n lo lc fr H nx (fun e f H nx=>∃f',(∀t,cp f' t= .any\/cp f' t=cp f t)/\Q e f' H nx)):WL P n lo lc fr H nx Q:=
 fun code hc w0 M0 c0 a w hh=>Code.wp_mono (fun _ _ _ ⟨x,f,H,nx,he,⟨f',h1,h2⟩,hhh⟩=>⟨x,f',H,nx,he,h2,hhh.less h1⟩) (h code hc w0 M0 c0 a w hh)
theorem qR.less {f:Fr} {ov:Ov} {fr:Fr} (h:qR f ov fr) (t:Nat):cp (iP ov fr) t= .any\/cp (iP ov fr) t=cp f t:=by
 rcases oZ (ov:=ov) (fr:=fr) (t:=t) with h1|⟨v,h1,h2⟩
 ·exact .inl h1
 ·have:=h t
  rw[h1] at this
  exact .inr (h2.trans this.symm)
theorem gL.of {segs:List sM} {fr:Fr} {H:Hp} {nx:Nat} {Q:QT} (h:WS P nx segs [] fr H fun ov H' nx'=>Q .normal (iP ov fr) H' nx'):gL P segs fr H nx Q:=
 ⟨fun _ _=>WL.less (WL.drawn (iq.mono (ku (qR.refl fr) h) fun _ _ _ ⟨_,h1,h2⟩=>⟨_,h1.less,h2⟩))⟩
theorem fP {n lo:Nat}:∀{lc:LC} {fr:Fr} {H:Hp} {nx:Nat} {Q:QT},W P n lo lc fr H nx Q->WL P n lo lc fr H nx Q
 | .skip,_,_,_,_,h=>WL.skip h
 | .ret,_,_,_,_,h=>WL.ret h
 | .exit _,_,_,_,_,h=>WL.exit h
 | .region gs,fr,H,nx,Q,h=>WL.less (WL.region (fe.mono (fp (qR.refl fr) h) fun _ _ _ ⟨_,h1,h2⟩=>⟨_,h1.less,h2⟩))
 | .drawn segs,fr,H,nx,Q,h=>gL.ok (P:=P) h n lo
 | .seq a b,fr,H,nx,Q,h=>WL.seq ((fP (lc:=a) (Q:=ic (fun fr H nx=>W P n lo b fr H nx Q) Q) h).mono fun e fr H nx hh=>by
  cases e with
  |normal=>exact fP (lc:=b) hh
  |exit id=>exact hh
  |ret=>exact hh)
 | .cond c a b,fr,H,nx,Q,h=>by
  have h:AJ c a b (W P n lo a) (W P n lo b) fr H nx Q:=h
  simp only[AJ] at h
  split at h
  ·rename_i t ht
   exact WL.cond ht (fun h1=>fP (lc:=a) (h.ok.1 h1)) (fun h1=>fP (lc:=b) (h.ok.2 h1))
  ·rename_i ht
   exact WL.QW ht (fP (lc:=a) h.1) (fP (lc:=b) h.2)
  ·exact h.elim
 | .block id a,fr,H,nx,Q,h=>WL.block (fP (lc:=a) h)
 | .loop a,fr,H,nx,Q,h=>h.ok
theorem jC.inv {n lo:Nat} {x:LC} {fr:Fr} {H:Hp} {nx:Nat} {Q:QT} {σ:Type} (I:σ->Fr->Hp->Nat->Prop) (μ:σ->Nat) (s0:σ) (h0:∃fr',(∀t,cp fr' t= .any\/cp fr' t=cp fr t)/\I s0 fr' H nx)
 (round:∀s fr H nx,I s fr H nx->WL P n lo x fr H nx (ic (fun fr' H' nx'=>∃s',μ s'<μ s/\∃fr2,(∀t,cp fr2 t= .any\/cp fr2 t=cp fr' t)/\I s' fr2 H' nx') Q)):jC P n lo x fr H nx Q:=by
 refine⟨fun code hc w0 M0 c0 a w hh=> ?_⟩
 have:∃c1,code= .loop c1/\cz P n c1=some x:=by
  cases code<;>simp only[cz] at hc
  case loop c1=>
   simp only[Option.map_eq_some_iff,LC.loop.injEq] at hc
   obtain⟨x',h1,rfl⟩:=hc
   exact⟨c1,rfl,h1⟩
  all_goals (exfalso;repeat' (split at hc))<;>simp at hc
 obtain⟨c1,rfl,h1⟩:=this
 intro b k cs
 have key:∀m,∀s,μ s=m->∀fr H nx,I s fr H nx->∀a w,Holds w0 M0 c0 lo n fr H nx a w->
  ∃e a' w',LQ w0 M0 c0 lo n Q e a' w'/\Arrives P (lone (b.at a (.code c1:: .inLoop c1::k)) cs w) b k cs e a' w':=by
  intro m
  induction m using Nat.strongRecOn with
  |_ m ih=>
   intro s hs fr H nx hI a w hh
   obtain⟨e,a1,w1,hq,harr⟩:=round s fr H nx hI c1 h1 w0 M0 c0 a w hh b (.inLoop c1::k) cs
   obtain⟨x',fr',H',nx',rfl,hQ,hh'⟩:=hq
   cases x' with
   |normal=>
    obtain⟨s',hlt,fr2,hless,hI'⟩:=hQ
    obtain⟨e2,a2,w2,hq2,harr2⟩:=ih (μ s') (by omega) s' rfl fr2 H' nx' hI' a1 w1 (hh'.less hless)
    exact⟨e2,a2,w2,hq2, .of_steps (Steps.trans harr (.one step_inLoop)) harr2⟩
   |exit id=>exact⟨_,a1,w1,⟨.exit id,fr',H',nx',rfl,hQ,hh'⟩, .pass (x:= .inLoop c1) rfl (fun _ _=> .inl (by simp[Ex.to])) harr⟩
   |ret=>exact⟨_,a1,w1,⟨.ret,fr',H',nx',rfl,hQ,hh'⟩, .pass (x:= .inLoop c1) rfl (fun _ _=> .inl (by simp[Ex.to])) harr⟩
 obtain⟨fr',hless,hI⟩:=h0
 obtain⟨e,a',w',hq,harr⟩:=key _ s0 rfl fr' H nx hI a w (hh.less hless)
 exact⟨e,a',w',hq, .of_steps (.one step_loop) harr⟩
def kH (fr:Fr):Fr->Prop
 |[]=>True
 |(t,v)::r=>cp fr t=v/\kH fr r
theorem iA {fr:Fr}:∀{fr':Fr},kH fr fr'->∀t,cp fr' t= .any\/cp fr' t=cp fr t
 |[],_,t=> .inl rfl
 |(d,v)::r,h,t=>by
  simp only[cp]
  by_cases ht:t=d
  ·subst ht;rw[if_pos rfl];exact .inr h.1.symm
  ·rw[if_neg ht];exact iA h.2 t
theorem jC.fr {n lo:Nat} {x:LC} {fr:Fr} {H:Hp} {nx:Nat} {Q:QT} {σ:Type} (F:σ->Fr) (I:σ->Hp->Nat->Prop) (μ:σ->Nat) (s0:σ) (h0:kH fr (F s0)) (h1:I s0 H nx)
 (round:∀s H nx,I s H nx->W P n lo x (F s) H nx (ic (fun fr' H' nx'=>∃s',μ s'<μ s/\kH fr' (F s')/\I s' H' nx') Q)):jC P n lo x fr H nx Q:=by
 refine jC.inv (fun s fr H nx=>fr=F s/\I s H nx) μ s0 ⟨F s0,iA h0,rfl,h1⟩ ?_
 rintro s fr H nx ⟨rfl,hI⟩
 refine(fP (round s H nx hI)).mono ?_
 intro e fr' H' nx' hh
 cases e with
 |normal=>
  obtain⟨s',h2,h3,h4⟩:=hh
  exact⟨s',h2,F s',iA h3,rfl,h4⟩
 |exit id=>exact hh
 |ret=>exact hh
end
end Go.cu
end
