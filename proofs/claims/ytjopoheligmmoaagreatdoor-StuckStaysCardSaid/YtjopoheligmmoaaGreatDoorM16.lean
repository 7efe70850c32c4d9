import Derived.Test.YtjopoheligmmoaaGreatDoorM9
section
/- A run by reduction alone: the code is walked by the reducer; what is to be shown stands out as questions. -/
set_option linter.unusedSimpArgs false
set_option linter.unusedVariables false
namespace Go.cp
open Go.RowKit
structure Ask (p:Prop):Prop where
 ok:p
def dv:Option Bool->Prop->Prop
 |none,p=>Ask p
 |some g,p=>Ask (g=true->p)
def Gd:Option Bool->Prop
 |none=>True
 |some g=>g=true
theorem cY {g:Option Bool} {p:Prop}:dv g p↔(Gd g->p):=by
 cases g with
 |none=>exact⟨fun h _=>h.ok,fun h=>⟨h trivial⟩⟩
 |some g=>exact⟨fun h=>h.ok,fun h=>⟨h⟩⟩
abbrev Ov:=List (Nat×Option Bool×AV)
def pa:Ov->Fr->Nat->Option Bool×AV
 |[],fr,t=>(none,cc fr t)
 |(d,c,v)::r,fr,t=>bif Nat.beq t d then(c,v) else pa r fr t
def gQ (ov:Ov) (d:Option Nat) (c:Option Bool) (v:AV):Ov:=
 match d with
 |some d=>(d,c,v)::ov
 |none=>ov
def gk:Ov->Fr->Fr
 |[],fr=>fr
 |(d,none,v)::r,fr=>(d,v)::gk r fr
 |(d,some _,_)::r,fr=>(d, .any)::gk r fr
def fB (ov:Ov) (fr:Fr):dz->Option Bool×AV
 | .t n=>pa ov fr n
 | .c v=>(none, .sc v)
 | .f n=>(none, .fn (.func n) [] [])
 | .m nm n=>match pa ov fr n with
  |(g, .lY t v)=>(g, .fn (.method nm) [.lY t v] [])
  |(g,_)=>(g, .any)
theorem qi {t d:Nat} (h:¬t=d):Nat.beq t d=false:=by
 cases hb:Nat.beq t d with
 |false=>rfl
 |true=>exact absurd (Nat.eq_of_beq_eq_true hb) h
def pO (f:Fr) (ov:Ov) (fr:Fr):Prop:=
 ∀t,match pa ov fr t with
  |(none,v)=>cc f t=v
  |(some q,v)=>(q=true->cc f t=v)/\(q=false->cc f t= .sc undef)
theorem pO.refl (fr:Fr):pO fr [] fr:=fun _=>rfl
theorem pO.put {f:Fr} {ov:Ov} {fr:Fr} (h:pO f ov fr) (d:Option Nat) (v:AV):pO (fX f d v) (gQ ov d none v) fr:=by
 cases d with
 |none=>exact h
 |some d=>
  intro t
  simp only[gQ,fX,pa,cc]
  by_cases ht:t=d
  ·subst ht;simp
  ·have:Nat.beq t d=false:=qi ht
   rw[this,if_neg ht];exact h t
theorem pO.ow {f:Fr} {ov:Ov} {fr:Fr} (h:pO f ov fr) (d:Option Nat) {q:Bool} {u v:AV} (h1:q=true->u=v) (h2:q=false->u= .sc undef):pO (fX f d u) (gQ ov d (some q) v) fr:=by
 cases d with
 |none=>exact h
 |some d=>
  intro t
  simp only[gQ,fX,pa,cc]
  by_cases ht:t=d
  ·subst ht;simpa using⟨h1,h2⟩
  ·have:Nat.beq t d=false:=qi ht
   rw[this,if_neg ht];exact h t
theorem pO.raw {f:Fr} {ov:Ov} {fr:Fr} (h:pO f ov fr) (x:dz) (hq:∀q,(fB ov fr x).1=some q->q=true):ev f x=(fB ov fr x).2:=by
 cases x with
 |t n=>
  have:=h n
  simp only[ev,fB] at hq ⊢
  split at this
  ·rename_i v he;rw[this,he]
  ·rename_i q v he;rw[he] at hq ⊢;exact this.1 (hq q rfl)
 |c v=>rfl
 |f n=>rfl
 |m nm n=>
  have:=h n
  simp only[ev,fB] at hq ⊢
  generalize pa ov fr n=x at this hq ⊢
  obtain⟨g,v⟩:=x
  have hv:cc f n=v:=by
   cases g with
   |none=>exact this
   |some q=>
    refine this.1 (hq q ?_)
    cases v<;>rfl
  rw[hv]
  cases v<;>rfl
theorem nW {fr:Fr} {t:Nat}:∀{ov:Ov},cc (gk ov fr) t= .any\/∃v,pa ov fr t=(none,v)/\cc (gk ov fr) t=v
 |[]=> .inr ⟨_,rfl,rfl⟩
 |(d,none,v)::r=>by
  simp only[gk,cc,pa]
  by_cases ht:t=d
  ·subst ht;simp
  ·have:Nat.beq t d=false:=qi ht
   rw[this,if_neg ht];exact nW
 |(d,some q,v)::r=>by
  simp only[gk,cc,pa]
  by_cases ht:t=d
  ·subst ht;simp
  ·have:Nat.beq t d=false:=qi ht
   rw[this,if_neg ht];exact nW
abbrev Raw:=dz->Option Bool×AV
def dB (g:Option Bool) (R:Raw) (x:dz) (K:AV->Prop):Prop:=
 match R x with
 |(none,v)=>K v
 |(some q,v)=>dv g (q=true)/\K v
def E3 (R:Raw) (x:dz):Prop:=∀q,(R x).1=some q->q=true
theorem cN {g:Option Bool} {R:Raw} {x:dz} {K:AV->Prop} (h:dB g R x K):(Gd g->E3 R x)/\K (R x).2:=by
 unfold dB at h
 split at h
 ·rename_i v he;rw[he];exact⟨fun _ q hq=>(by rw[he] at hq;cases hq),h⟩
 ·rename_i q v he
  rw[he]
  exact⟨fun hg q' hq=>(by rw[he] at hq;cases hq;exact cY.1 h.1 hg),h.2⟩
def zR (K:List AV->Prop):Prop:=K []
def xH (g:Option Bool) (R:Raw) (x:dz) (_:List dz) (ih:(List AV->Prop)->Prop) (K:List AV->Prop):Prop:=dB g R x fun a=>ih fun as=>K (a::as)
noncomputable def jm (g:Option Bool) (R:Raw) (xs:List dz):(List AV->Prop)->Prop:=List.rec (motive:=fun _=>(List AV->Prop)->Prop) zR (xH g R) xs
theorem fD {g:Option Bool} {R:Raw}:∀{xs:List dz} {K:List AV->Prop},jm g R xs K->(Gd g->∀x∈xs,E3 R x)/\K (xs.map fun x=>(R x).2)
 |[],K,h=>⟨fun _ _ h=>(by cases h),h⟩
 |x::r,K,h=>by
  obtain⟨h1,h2⟩:=cN h
  obtain⟨h3,h4⟩:=fD h2
  refine⟨fun hg y hy=> ?_,h4⟩
  rcases List.mem_cons.1 hy with rfl|hy
  ·exact h1 hg
  ·exact h3 hg y hy
theorem ku {f:Fr} {R:Raw}:∀{xs:List dz},(∀x∈xs,ev f x=(R x).2)->tL f xs=xs.map fun x=>(R x).2
 |[],_=>rfl
 |x::r,h=>by
  simp only[tL,List.map_cons]
  rw[h x (by simp),ku fun y hy=>h y (by simp[hy])]
def fj (v:AV) (K:AV->Prop):Prop:=
 match v with
 | .sc v=>K (.sc v)
 | .any=>K .any
 | .im a b c=>K (.im a b c)
 | .ip a b c d e=>K (.ip a b c d e)
 | .sl a b=>K (.sl a b)
 | .pt a b c d=>K (.pt a b c d)
 | .zc=>K .zc
 | .agg a=>K (.agg a)
 | .dO a=>K (.dO a)
 | .fn a b c=>K (.fn a b c)
 | .lY a b=>K (.lY a b)
 | .mp a=>K (.mp a)
 | .ab=>K .ab
 | .sv a b c d=>K (.sv a b c d)
theorem ee (v:AV) (K:AV->Prop):fj v K=K v:=by cases v<;>rfl
def zZ (K:List AV->Prop):Prop:=K []
def xK (a:AV) (_:List AV) (ih:(List AV->Prop)->Prop) (K:List AV->Prop):Prop:=ih fun r'=>K (a::r')
noncomputable def p9 (l:List AV):(List AV->Prop)->Prop:=List.rec (motive:=fun _=>(List AV->Prop)->Prop) zZ xK l
theorem iA:∀(l:List AV) (K:List AV->Prop),p9 l K=K l
 |[],_=>rfl
 |a::r,K=>iA r fun r'=>K (a::r')
structure fy (H:Hp) (b:Nat) (K:TypeId->Nat->AV->List AV->Prop):Prop where
 ok:∃e sz d es,bw H b=some (.row e sz d es)/\K e sz d es
theorem fy.of {H:Hp} {b:Nat} {K:TypeId->Nat->AV->List AV->Prop} {e:TypeId} {sz:Nat} {d:AV} {es:List AV} (h:bw H b=some (.row e sz d es)) (k:K e sz d es):fy H b K:=⟨⟨e,sz,d,es,h,k⟩⟩
structure pN (es:List AV) (i:Nat) (d:AV) (K:AV->Prop):Prop where
 ok:K (es.getD i d)
theorem pN.of {es:List AV} {i:Nat} {d:AV} {K:AV->Prop} {e:AV} (h:es.getD i d=e) (k:K e):pN es i d K:=⟨by rw[h];exact k⟩
structure jB {α:Type} (x:Option α) (K:α->Prop):Prop where
 ok:∃a,x=some a/\K a
theorem jB.of {α:Type} {x:Option α} {K:α->Prop} {a:α} (h:x=some a) (k:K a):jB x K:=⟨⟨a,h,k⟩⟩
structure jC {α:Type} (g:Option Bool) (x:Option α) (K:α->Prop):Prop where
 ok:∃a,(Gd g->x=some a)/\K a
theorem jC.of {α:Type} {g:Option Bool} {x:Option α} {K:α->Prop} {a:α} (h:Gd g->x=some a) (k:K a):jC g x K:=⟨⟨a,h,k⟩⟩
structure qH (H:Hp) (b:Nat) (K:TypeId->AV->List AV->Prop):Prop where
 ok:∃e d es,bw H b=some (.row e 0 d (mapA es))/\K e d es
theorem qH.of {H:Hp} {b:Nat} {K:TypeId->AV->List AV->Prop} {e:TypeId} {d:AV} {es:List AV} (h:bw H b=some (.row e 0 d (mapA es))) (k:K e d es):qH H b K:=⟨⟨e,d,es,h,k⟩⟩
def C2 (H:Hp) (v:AV) (K:Nat->TypeId->AV->List AV->Prop):Prop:=
 match v with
 | .mp b=>qH H b (K b)
 |_=>False
theorem k7 {H:Hp} {v:AV} {K:Nat->TypeId->AV->List AV->Prop} (h:C2 H v K):∃b e d es,mapOf H v=some (b,e,d,es)/\K b e d es:=by
 cases v<;>simp only[C2] at h
 obtain⟨e,d,es,h1,h2⟩:=h.ok
 exact⟨_,e,d,es,by simp only[mapOf,h1,mapA],h2⟩
structure tC (g:Option Bool) (k:IntKind) (n:Int) (K:Int->Prop):Prop where
 ok:∃m,(Gd g->k.wrap n=m)/\K m
theorem tC.of {g:Option Bool} {k:IntKind} {n:Int} {K:Int->Prop} {m:Int} (h:Gd g->k.wrap n=m) (hK:K m):tC g k n K:=⟨⟨m,h,hK⟩⟩
section
variable (g:Option Bool) (H:Hp)
def UL (ag:Bool) (k:Nat) (e:AV) (sz off:Nat) (K:AV->Prop):Prop:=
 match ag with
 |true=>match e with
  | .agg cs=>bif Nat.beq off 0&&Nat.beq k sz then K (.agg cs) else dv g (off+k<=cs.length)/\K (.agg ((cs.drop off).take k))
  |_=>False
 |false=>match e with
  | .agg cs=>pN cs off .any fun v=>fj v K
  | .any=>K .any
  |e=>bif one e then fj e K else False
def lookW (v:AV) (K:Nat->AV->Nat->Prop):Prop:=
 match v with
 | .ip sz d es i off=>pN es i d fun e=>K sz e off
 | .pt b len i off=>fy H b fun _ sz d es=>dv g (es.length=len)/\pN es i d fun e=>K sz e off
 |_=>False
def rj (k:Nat) (v:AV) (K:List AV->Prop):Prop:=
 match v with
 | .im sz _ es=>bif Nat.beq sz k then K es else False
 | .sl b len=>fy H b fun _ sz _ es=>dv g (es.length=len/\sz=k)/\K es
 | .sc (.slice none 0 0)=>K []
 | .zc=>K []
 | .sv b len lo n=>fy H b fun _ sz _ es=>dv g (es.length=len/\sz=k)/\K ((es.drop lo).take n)
 |_=>False
noncomputable def pD (R:Raw) (id:Nat) (op:dM) (K:AV->Option (Nat×e8)->Prop):Prop:=
 match op with
 | .mv x=>dB g R x fun a=>fj a fun a=>K a none
 | .pick c a b=>dB g R c fun v=>match v with
  | .sc (.bool t)=>
   let rest:=fun(_:Unit)=>fj (oq t (R a).2 (R b).2) fun v=>K v none
   let r2:=fun(_:Unit)=>match(R b).1 with
    |none=>rest ()
    |some q=>dv g (t=false->q=true)/\rest ()
   match(R a).1 with
   |none=>r2 ()
   |some q=>dv g (t=true->q=true)/\r2 ()
  |_=>False
 | .alloc e sz ag z=>dv g (z.length=sz)/\K (.pt id 1 0 0) (some (id, .row e sz (gN ag z) [gN ag z]))
 | .box e sz ag x=>dB g R x fun v=>dv g (fits ag sz v=true)/\K (.pt id 1 0 0) (some (id, .row e sz .any [v]))
 | .P1 z parts=>jm g R (parts.map (·.2.2)) fun as=>jB (ej (z.map .sc) (List.zipWith (fun p a=>(p.1,p.2.1,a)) parts as)) fun cs=>K (.agg cs) none
 | .NG e sz ag z n parts=>jm g R (parts.map (·.2)) fun as=>
  dv g (z.length=sz/\(List.zipWith (fun p a=>(p.1,a)) parts as).all (fun p=>decide (p.1<n)&&fits ag sz p.2)=true)/\
  K (.sl id n) (some (id, .row e sz (gN ag z) ((List.zipWith (fun p a=>(p.1,a)) parts as).foldl (fun l p=>l.set p.1 p.2) (List.replicate n (gN ag z)))))
 | .ld ag k x=>dB g R x fun v=>lookW g H v fun sz e off=>UL g ag k e sz off fun r=>K r none
 | .st ag k x y=>dB g R x fun v=>dB g R y fun yv=>match v with
  | .pt b len i off=>fy H b fun e sz d es=>dv g (es.length=len)/\pN es i d fun gD=>jB (PN ag k gD yv sz off) fun e'=>K .any (some (b, .row e sz d (es.set i e')))
  |_=>False
 | .O9 x=>dB g R x fun v=>match v with
  | .pt b len i off=>K (.pt b len i off) none
  | .ip sz d es i off=>K (.ip sz d es i off) none
  | .fn (.func f) p q=>K (.fn (.func f) p q) none
  | .lY t v=>K (.lY t v) none
  |_=>False
 | .bin op x y=>dB g R x fun a=>dB g R y fun b=>match op,a,b with
  | .add, .sc (.int k a), .sc (.int k' b)=>dv g (k=k')/\tC g k (a+b) fun m=>K (.sc (.int k m)) none
  | .sub, .sc (.int k a), .sc (.int k' b)=>dv g (k=k')/\tC g k (a - b) fun m=>K (.sc (.int k m)) none
  | .mul, .sc (.int k a), .sc (.int k' b)=>dv g (k=k')/\tC g k (a * b) fun m=>K (.sc (.int k m)) none
  | .eql, .sc (.int k a), .sc (.int k' b)=>dv g (k=k')/\K (.sc (.bool (decide (a=b)))) none
  | .neq, .sc (.int k a), .sc (.int k' b)=>dv g (k=k')/\K (.sc (.bool (decide (a≠b)))) none
  | .lss, .sc (.int k a), .sc (.int k' b)=>dv g (k=k')/\K (.sc (.bool (decide (a<b)))) none
  | .leq, .sc (.int k a), .sc (.int k' b)=>dv g (k=k')/\K (.sc (.bool (decide (a<=b)))) none
  | .gtr, .sc (.int k a), .sc (.int k' b)=>dv g (k=k')/\K (.sc (.bool (decide (b<a)))) none
  | .geq, .sc (.int k a), .sc (.int k' b)=>dv g (k=k')/\K (.sc (.bool (decide (b<=a)))) none
  | .quo, .sc (.int k a), .sc (.int k' b)=>dv g (k=k'/\b≠0)/\K (.sc (.int k (k.wrap (a.tdiv b)))) none
  | .rem, .sc (.int k a), .sc (.int k' b)=>dv g (k=k'/\b≠0)/\K (.sc (.int k (a.tmod b))) none
  | .and, .sc (.int k a), .sc (.int k' b)=>dv g (k=k')/\K (.sc (.int k (k.wrap (BitVec.ofInt k.bits a&&& BitVec.ofInt k.bits b).toNat))) none
  | .or, .sc (.int k a), .sc (.int k' b)=>dv g (k=k')/\K (.sc (.int k (k.wrap (BitVec.ofInt k.bits a|||BitVec.ofInt k.bits b).toNat))) none
  | .xor, .sc (.int k a), .sc (.int k' b)=>dv g (k=k')/\K (.sc (.int k (k.wrap (BitVec.ofInt k.bits a^^^BitVec.ofInt k.bits b).toNat))) none
  | .andNot, .sc (.int k a), .sc (.int k' b)=>dv g (k=k')/\K (.sc (.int k (k.wrap (BitVec.ofInt k.bits a&&& ~~~(BitVec.ofInt k.bits b)).toNat))) none
  | .shl, .sc (.int k a), .sc (.int _ b)=>dv g (0<=b)/\K (.sc (.int k (k.wrap (a * 2^(min b.toNat k.bits))))) none
  | .shr, .sc (.int k a), .sc (.int _ b)=>dv g (0<=b)/\K (.sc (.int k (a.fdiv (2^(min b.toNat k.bits))))) none
  |_,_,_=>False
 | .P4 neg x y=>dB g R x fun a=>dB g R y fun b=>match a,b with
  | .sc (.bool p), .sc (.bool q)=>(match neg with
   |true=>K (.sc (.bool (p != q))) none
   |false=>K (.sc (.bool (p==q))) none)
  |_,_=>False
 | .uH neg x y=>dB g R x fun a=>dB g R y fun b=>match a,b with
  | .sc (.string p), .sc (.string q)=>(match neg with
   |true=>K (.sc (.bool (p != q))) none
   |false=>K (.sc (.bool (p==q))) none)
  |_,_=>False
 | .DA op x y=>dB g R x fun a=>dB g R y fun b=>match a,b with
  | .sc (.string p), .sc (.string q)=>(match op with
   | .add=>dv g (p.size+q.size<=9223372036854775807)/\K (.sc (.string (p++q))) none
   | .lss=>K (.sc (.bool (Op.bytesLess p.toList q.toList))) none
   |_=>False)
  |_,_=>False
 | .KX sz ag z x=>dB g R x fun v=>match v with
  | .sv b len lo n=>fy H b fun e s d es=>dv g (es.length=len/\s=sz/\lo+n<=len)/\K (.dO []) (some (b, .row e s d (es.take lo++List.replicate n (gN ag z)++es.drop (lo+n))))
  |_=>False
 | .OA x=>dB g R x fun v=>rj g H 1 v fun xs=>jC g (kg xs) fun ns=>K (.sc (.string (MV ns))) none
 | .un op x=>dB g R x fun a=>match op,a with
  | .not, .sc (.bool b)=>K (.sc (.bool !b)) none
  | .neg, .sc (.int k n)=>tC g k (0 - n) fun m=>K (.sc (.int k m)) none
  |_,_=>False
 | .QQ k x=>dB g R x fun a=>match a with
  | .sc (.int _ n)=>tC g k n fun m=>K (.sc (.int k m)) none
  |_=>False
 | .fa off x=>dB g R x fun a=>match a with
  | .ip sz d es i o=>dv g (o+off<sz)/\K (.ip sz d es i (o+off)) none
  | .pt b len i o=>fy H b fun _ sz _ es=>dv g (es.length=len/\o+off<sz)/\K (.pt b len i (o+off)) none
  |_=>False
 | .ia k n x i=>dB g R x fun v=>dB g R i fun iv=>match iv with
  | .sc (.int _ j)=>
   (match n with
    |none=>match v with
     | .im sz d es=>dv g (k=sz)/\dv g (0<=j/\j<es.length)/\K (.ip sz d es j.toNat 0) none
     | .sl b len=>fy H b fun _ sz _ es=>dv g (es.length=len/\k=sz)/\dv g (0<=j/\j<len)/\K (.pt b len j.toNat 0) none
     | .sv b len lo m=>fy H b fun _ sz _ es=>dv g (es.length=len/\k=sz)/\dv g (0<=j/\j<m)/\K (.pt b len (lo+j.toNat) 0) none
     |_=>False
    |some m=>match v with
     | .ip sz d es i off=>dv g (off+m * k<=sz)/\dv g (0<=j/\j<m)/\K (.ip sz d es i (off+j.toNat * k)) none
     | .pt b len i off=>fy H b fun _ sz _ es=>dv g (es.length=len/\off+m * k<=sz)/\dv g (0<=j/\j<m)/\K (.pt b len i (off+j.toNat * k)) none
     |_=>False)
  |_=>False
 | .QX off k ag x=>dB g R x fun v=>match v with
  | .agg cs=>(match ag with
   |true=>dv g (off+k<=cs.length)/\K (.agg ((cs.drop off).take k)) none
   |false=>dv g (off+k<=cs.length/\k=1)/\pN cs off .any fun v=>fj v fun v=>K v none)
  |_=>False
 | .ix k ag n x i=>dB g R x fun v=>dB g R i fun iv=>match v,iv with
  | .agg cs, .sc (.int _ j)=>dv g (n * k=cs.length)/\dv g (0<=j/\j<n)/\(match ag with
   |true=>K (.agg ((cs.drop (j.toNat * k)).take k)) none
   |false=>dv g (k=1)/\pN cs (j.toNat * k) .any fun v=>fj v fun v=>K v none)
  |_,_=>False
 | .Q5 x i=>dB g R x fun v=>dB g R i fun iv=>match v,iv with
  | .sc (.string s), .sc (.int _ j)=>dv g (0<=j/\j<s.size)/\K (.sc (.int .u8 (s.data.toList.getD j.toNat 0).toNat)) none
  |_,_=>False
 | .lens x=>dB g R x fun v=>match v with
  | .sc (.string s)=>K (.sc (.int .i64 s.size)) none
  |_=>False
 | .O7 e sz bytes ag z l c=>dB g R l fun lv=>dB g R c fun cv=>match lv,cv with
  | .sc (.int _ n), .sc (.int _ m)=>dv g (z.length=sz/\n=m)/\dv g (0<=n/\n * bytes<=281474976710656/\n<=9223372036854775807)/\
   K (.sl id n.toNat) (some (id, .row e sz (gN ag z) (List.replicate n.toNat (gN ag z))))
  |_,_=>False
 | .ext i x=>dB g R x fun v=>match v with
  | .dO vs=>dv g (i<vs.length)/\pN vs i .any fun v=>fj v fun v=>K v none
  |_=>False
 | .P8 f first caps=>jm g R first fun a=>jm g R caps fun b=>K (.fn f a b) none
 | .TB t x=>dB g R x fun v=>K (.lY t v) none
 | .len x=>dB g R x fun v=>match v with
  | .im _ _ es=>K (.sc (.int .i64 (es.length:Int))) none
  | .sl b len=>fy H b fun _ _ _ es=>dv g (es.length=len)/\K (.sc (.int .i64 (len:Int))) none
  | .sc (.slice none 0 0)=>K (.sc (.int .i64 0)) none
  | .zc=>K (.sc (.int .i64 0)) none
  | .sv _ _ _ n=>K (.sc (.int .i64 (n:Int))) none
  |_=>False
 | .app e sz bytes ag z s x=>dB g R s fun sv=>dB g R x fun xv=>rj g H sz xv fun xs=>dv g (z.length=sz)/\match sv with
  | .sc (.slice none 0 0)=>dv g (xs.length * bytes<=gC)/\K (.sl id xs.length) (some (id, .row e sz (gN ag z) xs))
  | .sl b len=>fy H b fun e' sz' d es=>dv g (es.length=len/\e'=e/\sz'=sz)/\dv g ((len+xs.length) * bytes<=gC)/\K (.sl b (len+xs.length)) (some (b, .row e sz d (es++xs)))
  |_=>False
 | .GP e bytes z s x=>dB g R s fun sv=>dB g R x fun xv=>match xv with
  | .sc (.string q)=>(match sv with
   | .sc (.slice none 0 0)=>dv g ((cP q).length * bytes<=gC)/\K (.sl id (cP q).length) (some (id, .row e 1 z (cP q)))
   | .sl b len=>fy H b fun e' sz' d es=>dv g (es.length=len/\e'=e/\sz'=1)/\dv g ((len+(cP q).length) * bytes<=gC)/\K (.sl b (len+(cP q).length)) (some (b, .row e 1 d (es++cP q)))
   |_=>False)
  |_=>False
 | .EY neg x=>dB g R x fun v=>match v with
  | .pt _ _ _ _=>K (.sc (.bool neg)) none
  | .ip _ _ _ _ _=>K (.sc (.bool neg)) none
  | .sc (.pointer none)=>K (.sc (.bool !neg)) none
  |_=>False
 | .yA neg x=>dB g R x fun v=>jB (sW H v) fun t=>fj (qZ neg t) fun v=>K v none
 | .eqs neg ks x y=>dB g R x fun a=>dB g R y fun b=>match a,b with
  | .agg as, .agg bs=>jB (HG ks as bs) fun t=>(match neg with
   |true=>K (.sc (.bool !t)) none
   |false=>K (.sc (.bool t)) none)
  |_,_=>False
 | .ND e n=>K (.pt id n 0 0) (some (id, .row e 1 (.sc (.int .u8 0)) (List.replicate n (.sc (.int .u8 0)))))
 | .bad=>False
 | .OU n x i=>dB g R x fun v=>dB g R i fun iv=>match v,iv with
  | .pt b len 0 0, .sc (.int _ j)=>fy H b fun _ sz _ es=>dv g (len=n/\es.length=n/\sz=1)/\dv g (0<=j/\j<n)/\K (.pt b n j.toNat 0) none
  |_,_=>False
 | .PJ n x i=>dB g R x fun v=>dB g R i fun iv=>match v,iv with
  | .pt b len 0 0, .sc (.int _ j)=>fy H b fun _ sz _ es=>dv g (len=n/\es.length=n/\sz=1)/\dv g (0<=j/\j<n)/\K (.sv b n j.toNat (n - j.toNat)) none
  |_,_=>False
 | .QA sz x h m=>dB g R x fun v=>dB g R h fun a=>dB g R m fun b=>jB (FI sz a b v) fun r=>fj r fun r=>K r none
 | .MO sz x lo hi=>dB g R x fun v=>jm g R (lo.toList++hi.toList) fun bs=>
  jB (si H sz (match lo with|some _=>bs[0]?|none=>none) (match hi with|some _=>(match lo with|some _=>bs[1]?|none=>bs[0]?)|none=>none) v) fun r=>fj r fun r=>K r none
 | .K1 sz x y=>dB g R x fun xv=>dB g R y fun yv=>match xv with
  | .sl b len=>rj g H sz yv fun xs=>fy H b fun e s d es=>dv g (es.length=len/\s=sz)/\
   K (.sc (.int .i64 (Nat.min xs.length len:Nat))) (some (b, .row e s d (xs.take (Nat.min xs.length len)++es.drop (Nat.min xs.length len))))
  |_=>False
 | .call _ _=>False
 | .NV kt=>K (.mp id) (some (id, .row kt 0 .any (mapA [])))
 | .LU str ag z ok x k=>dB g R x fun v=>dB g R k fun kv=>match kv with
  | .sc kv=>C2 H v fun _ _ _ es=>dv g (j4 str kv=true)/\jC g (mA str kv es (gN ag z)) fun p=>match ok with
   |true=>K (.dO [p.1, .sc (.bool p.2)]) none
   |false=>fj p.1 fun v=>K v none
  |_=>False
 | .F8 str x k y=>dB g R x fun v=>dB g R k fun kv=>dB g R y fun yv=>match kv with
  | .sc kv=>C2 H v fun b e d es=>dv g (j4 str kv=true)/\jC g (oc str kv es yv) fun es'=>K .any (some (b, .row e 0 d (mapA es')))
  |_=>False
 | .zo x=>dB g R x fun v=>C2 H v fun _ _ _ es=>K (.sc (.int .i64 (es.length:Nat))) none
 | .del str x k=>dB g R x fun v=>dB g R k fun kv=>match kv with
  | .sc kv=>C2 H v fun b e d es=>dv g (j4 str kv=true)/\jC g (TA str kv es) fun es'=>K (.dO []) (some (b, .row e 0 d (mapA es')))
  |_=>False
 | .C9 sz v=>K (.agg (List.replicate sz (.sc v))) none
 | .w9 e sz v=>K (.pt id 1 0 0) (some (id, .row e sz (.agg (List.replicate sz (.sc v))) [.agg (List.replicate sz (.sc v))]))
 | .TO t ok ag z x=>dB g R x fun v=>match v with
  | .lY t' v=>(bif Nat.beq t' t then(match ok with
   |true=>K (.dO [v, .sc (.bool true)]) none
   |false=>fj v fun v=>K v none) else(match ok with
   |true=>K (.dO [gN ag z, .sc (.bool false)]) none
   |false=>False))
  |_=>False
end
theorem B6 {f:Fr} {R:Raw}:∀{ps:List (Nat×Nat×dz)},(∀x∈ps.map (·.2.2),ev f x=(R x).2)->NK f ps=List.zipWith (fun p a=>(p.1,p.2.1,a)) ps ((ps.map (·.2.2)).map fun x=>(R x).2)
 |[],_=>rfl
 |(i,j,x)::ps,h=>by
  simp only[NK,List.map_cons,List.zipWith_cons_cons]
  rw[h x (by simp),B6 fun y hy=>h y (by simp only[List.map_cons,List.mem_cons];exact .inr hy)]
theorem B8 {f:Fr} {R:Raw}:∀{ps:List (Nat×dz)},(∀x∈ps.map (·.2),ev f x=(R x).2)->B7 f ps=List.zipWith (fun p a=>(p.1,a)) ps ((ps.map (·.2)).map fun x=>(R x).2)
 |[],_=>rfl
 |(i,x)::ps,h=>by
  simp only[B7,List.map_cons,List.zipWith_cons_cons]
  rw[h x (by simp),B8 fun y hy=>h y (by simp only[List.map_cons,List.mem_cons];exact .inr hy)]
theorem EJ {g:Option Bool} {ag:Bool} {k:Nat} {e:AV} {sz off:Nat} {K:AV->Prop} (h:UL g ag k e sz off K):∃r,K r/\(Gd g->xg ag k e sz off=some r):=by
 unfold UL at h
 cases ag with
 |true=>
  simp only at h
  cases e
  case agg cs=>
   simp only at h
   by_cases hb:off=0/\k=sz
   ·have hb':(Nat.beq off 0&&Nat.beq k sz)=true:=by
     obtain⟨rfl,rfl⟩:=hb;simp
    rw[hb'] at h
    exact⟨_,h,fun _=>by simp[xg,hb.1,hb.2]⟩
   ·have hb':(Nat.beq off 0&&Nat.beq k sz)=false:=by
     cases hc:(Nat.beq off 0&&Nat.beq k sz) with
     |false=>rfl
     |true=>
      rw[Bool.and_eq_true] at hc
      exact absurd ⟨Nat.eq_of_beq_eq_true hc.1,Nat.eq_of_beq_eq_true hc.2⟩ hb
    rw[hb'] at h
    simp only[cond_false] at h
    refine⟨_,h.2,fun hg=> ?_⟩
    have h1:=cY.1 h.1 hg
    simp only[xg,if_true]
    rw[if_neg hb,if_pos h1]
  all_goals exact h.elim
 |false=>
  have gen:∀e:AV,(bif one e then fj e K else False)->(xg false k e sz off=if one e then some e else none)->∃r,K r/\(Gd g->xg false k e sz off=some r):=by
   intro e h1 h2
   cases ho:one e with
   |true=>rw[ho,cond_true,ee] at h1;exact⟨_,h1,fun _=>by rw[h2,ho];rfl⟩
   |false=>rw[ho] at h1;exact h1.elim
  cases e
  case agg cs=>
   simp only at h
   have:=h.ok
   rw[ee] at this
   exact⟨_,this,fun _=>by simp[xg]⟩
  case any=>exact⟨_,h,fun _=>by simp[xg]⟩
  all_goals exact gen _ h rfl
theorem xn {g:Option Bool} {H:Hp} {v:AV} {K:Nat->AV->Nat->Prop} (h:lookW g H v K):∃sz e off,K sz e off/\(Gd g->j6 H v=some (sz,e,off)):=by
 unfold lookW at h
 split at h
 ·exact⟨_,_,_,h.ok,fun _=>rfl⟩
 ·obtain⟨e,sz,d,es,h1,h2,h3⟩:=h.ok
  refine⟨_,_,_,h3.ok,fun hg=> ?_⟩
  simp only[j6,h1]
  rw[if_pos (cY.1 h2 hg)]
 ·exact h.elim
theorem kq {g:Option Bool} {H:Hp} {k:Nat} {v:AV} {K:List AV->Prop} (h:rj g H k v K):∃es,K es/\(Gd g->gX H v=some es/\yV H k v=true):=by
 unfold rj at h
 split at h
 ·rename_i sz d es
  cases hb:Nat.beq sz k with
  |true=>rw[hb] at h;exact⟨_,h,fun _=>⟨rfl,by simpa[yV] using hb⟩⟩
  |false=>rw[hb] at h;exact h.elim
 ·obtain⟨e,sz,d,es,h1,h2,h3⟩:=h.ok
  refine⟨_,h3,fun hg=> ?_⟩
  obtain⟨g1,g2⟩:=cY.1 h2 hg
  simp[gX,yV,h1,g1,g2]
 ·exact⟨_,h,fun _=>⟨rfl,rfl⟩⟩
 ·exact⟨_,h,fun _=>⟨rfl,rfl⟩⟩
 ·obtain⟨e,sz,d,es,h1,h2,h3⟩:=h.ok
  refine⟨_,h3,fun hg=> ?_⟩
  obtain⟨g1,g2⟩:=cY.1 h2 hg
  simp[gX,yV,h1,g1,g2]
 ·exact h.elim
set_option maxHeartbeats 4000000 in
theorem jd {g:Option Bool} {H:Hp} {R:Raw} {id:Nat} {op:dM} {K:AV->Option (Nat×e8)->Prop} (h:pD g H R id op K):
 ∃r u,K r u/\(Gd g->(op.rd=true->∀x∈op.eC,E3 R x)/\∀f,(∀x,E3 R x->ev f x=(R x).2)->cE id f H op=some (r,u)):=by
 cases op
 case mv x=>
  obtain⟨h1,h2⟩:=cN h
  rw[ee] at h2
  exact⟨_,_,h2,fun hg=>⟨fun hr=>by simp[dM.rd] at hr,fun f hf=>by simp only[cE,hf x (h1 hg)]⟩⟩
 case pick c a b=>
  obtain⟨h1,h2⟩:=cN h
  split at h2
  ·rename_i t ht
   simp only[ee] at h2
   have key:∀{q:Option Bool} {p:Prop} {A:Prop},(match q with|none=>A|some q=>dv g (p->q=true)/\A)->A/\(Gd g->p->∀q',q=some q'->q'=true):=by
    intro q p A h
    cases q with
    |none=>exact⟨h,fun _ _ _ hq=>by cases hq⟩
    |some q=>exact⟨h.2,fun hg hp q' hq=>by cases hq;exact cY.1 h.1 hg hp⟩
   obtain⟨h3,ha⟩:=key h2
   obtain⟨h4,hb⟩:=key h3
   refine⟨_,_,h4,fun hg=>⟨fun hr=>by simp[dM.rd] at hr,fun f hf=> ?_⟩⟩
   simp only[cE,hf c (h1 hg),ht]
   congr 2
   cases t with
   |true=>rw[s8,s8,hf a (ha hg rfl)]
   |false=>rw[qW,qW,hf b (hb hg rfl)]
  ·exact h2.elim
 case alloc e sz ag z=>
  refine⟨_,_,h.2,fun hg=>⟨fun hr=>by simp[dM.rd] at hr,fun f hf=> ?_⟩⟩
  simp only[cE];rw[if_pos (cY.1 h.1 hg)]
 case box e sz ag x=>
  obtain⟨h1,h2⟩:=cN h
  refine⟨_,_,h2.2,fun hg=>⟨fun hr=>by simp[dM.rd] at hr,fun f hf=> ?_⟩⟩
  simp only[cE,hf x (h1 hg)];rw[if_pos (cY.1 h2.1 hg)]
 case P1 z ps=>
  obtain⟨h1,h2⟩:=fD h
  obtain⟨cs,h3,h4⟩:=h2.ok
  refine⟨_,_,h4,fun hg=>⟨fun hr=>by simp[dM.rd] at hr,fun f hf=> ?_⟩⟩
  simp only[cE]
  rw[B6 (R:=R) fun x hx=>hf x (h1 hg x hx),h3]
 case NG e sz ag z n ps=>
  obtain⟨h1,h2⟩:=fD h
  refine⟨_,_,h2.2,fun hg=>⟨fun hr=>by simp[dM.rd] at hr,fun f hf=> ?_⟩⟩
  have h3:=cY.1 h2.1 hg
  simp only[cE]
  rw[B8 (R:=R) fun x hx=>hf x (h1 hg x hx),if_pos h3]
 case ld ag k x=>
  obtain⟨h1,h2⟩:=cN h
  obtain⟨sz,e,off,h3,h4⟩:=xn h2
  obtain⟨r,h5,h6⟩:=EJ h3
  refine⟨_,_,h5,fun hg=>⟨fun _ y hy=>by simp[dM.eC] at hy;subst hy;exact h1 hg,fun f hf=> ?_⟩⟩
  simp only[cE,hf x (h1 hg),h4 hg,h6 hg,Option.map_some]
 case st ag k x y=>
  obtain⟨h1,h2⟩:=cN h
  obtain⟨h3,h4⟩:=cN h2
  split at h4
  ·rename_i b len i off hx
   obtain⟨e,sz,d,es,g1,g2,g3⟩:=h4.ok
   obtain⟨e',g4,g5⟩:=g3.ok.ok
   refine⟨_,_,g5,fun hg=>⟨fun _ z hz=>by simp[dM.eC] at hz;rcases hz with rfl|rfl;exact h1 hg;exact h3 hg,fun f hf=> ?_⟩⟩
   simp only[cE,hf x (h1 hg),hf y (h3 hg),hx,g1,g4]
   rw[if_pos (cY.1 g2 hg)]
  ·exact h4.elim
 case O9 x=>
  obtain⟨h1,h2⟩:=cN h
  split at h2
  all_goals first
   |exact h2.elim
   |(rename_i hx;exact⟨_,_,h2,fun hg=>⟨fun hr=>by simp[dM.rd] at hr,fun f hf=>by simp only[cE,hf x (h1 hg),hx]⟩⟩)
 case bin op x y=>
  obtain⟨h1,h2⟩:=cN h
  obtain⟨h3,h4⟩:=cN h2
  split at h4
  all_goals first
   |exact h4.elim
   |(rename_i hx hy;obtain⟨q1,q2⟩:=h4;obtain⟨m,q3,q4⟩:=q2.ok;refine⟨_,_,q4,fun hg=>⟨fun hr=>by simp[dM.rd] at hr,fun f hf=> ?_⟩⟩;simp only[cE,hf x (h1 hg),hf y (h3 hg),hx,hy,C8];rw[if_pos (cY.1 q1 hg),q3 hg];rfl)
   |(rename_i hx hy;refine⟨_,_,h4.2,fun hg=>⟨fun hr=>by simp[dM.rd] at hr,fun f hf=> ?_⟩⟩;simp only[cE,hf x (h1 hg),hf y (h3 hg),hx,hy,C8];rw[if_pos (cY.1 h4.1 hg)];rfl)
 case P4 neg x y=>
  obtain⟨h1,h2⟩:=cN h
  obtain⟨h3,h4⟩:=cN h2
  split at h4
  ·rename_i p q hx hy
   cases neg
   all_goals exact⟨_,_,h4,fun hg=>⟨fun hr=>by simp[dM.rd] at hr,fun f hf=>by simp[cE,hf x (h1 hg),hf y (h3 hg),hx,hy]⟩⟩
  ·exact h4.elim
 case uH neg x y=>
  obtain⟨h1,h2⟩:=cN h
  obtain⟨h3,h4⟩:=cN h2
  split at h4
  ·rename_i p q hx hy
   cases neg
   all_goals exact⟨_,_,h4,fun hg=>⟨fun hr=>by simp[dM.rd] at hr,fun f hf=>by simp[cE,hf x (h1 hg),hf y (h3 hg),hx,hy]⟩⟩
  ·exact h4.elim
 case DA op x y=>
  obtain⟨h1,h2⟩:=cN h
  obtain⟨h3,h4⟩:=cN h2
  split at h4
  ·rename_i p q hx hy
   cases op
   case add=>exact⟨_,_,h4.2,fun hg=>⟨fun hr=>by simp[dM.rd] at hr,fun f hf=>by simp only[cE,hf x (h1 hg),hf y (h3 hg),hx,hy,JZ];rw[if_pos (cY.1 h4.1 hg)];rfl⟩⟩
   case lss=>exact⟨_,_,h4,fun hg=>⟨fun hr=>by simp[dM.rd] at hr,fun f hf=>by simp only[cE,hf x (h1 hg),hf y (h3 hg),hx,hy,JZ];rfl⟩⟩
   all_goals exact h4.elim
  ·exact h4.elim
 case KX sz ag z x=>
  obtain⟨h1,h2⟩:=cN h
  split at h2
  ·rename_i b len lo n hx
   obtain⟨e,s,d,es,q1,q2,q3⟩:=h2.ok
   exact⟨_,_,q3,fun hg=>⟨fun hr y hy=>by simp[dM.eC] at hy;subst hy;exact h1 hg,fun f hf=>by
    simp only[cE,hf x (h1 hg),hx,q1];rw[if_pos (cY.1 q2 hg)]⟩⟩
  ·exact h2.elim
 case OA x=>
  obtain⟨h1,h2⟩:=cN h
  obtain⟨xs,h3,h4⟩:=kq h2
  obtain⟨ns,h5,h6⟩:=h3.ok
  exact⟨_,_,h6,fun hg=>⟨fun hr y hy=>by simp[dM.eC] at hy;subst hy;exact h1 hg,fun f hf=>by
   obtain⟨q1,q2⟩:=h4 hg
   simp only[cE,hf x (h1 hg),q1,q2,if_true,h5 hg,Option.map_some]⟩⟩
 case un op x=>
  obtain⟨h1,h2⟩:=cN h
  split at h2
  all_goals first
   |exact h2.elim
   |(rename_i hx;obtain⟨m,q3,q4⟩:=h2.ok;exact⟨_,_,q4,fun hg=>⟨fun hr=>by simp[dM.rd] at hr,fun f hf=>by simp only[cE,hf x (h1 hg),hx,TQ,Option.map_some,q3 hg]⟩⟩)
   |(rename_i hx;exact⟨_,_,h2,fun hg=>⟨fun hr=>by simp[dM.rd] at hr,fun f hf=>by simp only[cE,hf x (h1 hg),hx,TQ,Option.map_some]⟩⟩)
 case QQ k x=>
  obtain⟨h1,h2⟩:=cN h
  split at h2
  all_goals first
   |exact h2.elim
   |(rename_i hx;obtain⟨m,q3,q4⟩:=h2.ok;exact⟨_,_,q4,fun hg=>⟨fun hr=>by simp[dM.rd] at hr,fun f hf=>by simp only[cE,hf x (h1 hg),hx,q3 hg]⟩⟩)
 case fa off x=>
  obtain⟨h1,h2⟩:=cN h
  have hr:Gd g->((dM.fa off x).rd=true->∀y∈(dM.fa off x).eC,E3 R y):=fun hg _ y hy=>by simp[dM.eC] at hy;subst hy;exact h1 hg
  split at h2
  ·rename_i hx
   refine⟨_,_,h2.2,fun hg=>⟨hr hg,fun f hf=> ?_⟩⟩
   simp only[cE,hf x (h1 hg),hx];rw[if_pos (cY.1 h2.1 hg)]
  ·rename_i hx
   obtain⟨e,sz,d,es,g1,g2,g3⟩:=h2.ok
   refine⟨_,_,g3,fun hg=>⟨hr hg,fun f hf=> ?_⟩⟩
   simp only[cE,hf x (h1 hg),hx,g1];rw[if_pos (cY.1 g2 hg)]
  ·exact h2.elim
 case ia k n x i=>
  obtain⟨h1,h2⟩:=cN h
  obtain⟨h3,h4⟩:=cN h2
  have hr:Gd g->((dM.ia k n x i).rd=true->∀y∈(dM.ia k n x i).eC,E3 R y):=fun hg _ y hy=>by simp[dM.eC] at hy;rcases hy with rfl|rfl;exact h1 hg;exact h3 hg
  split at h4
  ·rename_i kk j hi
   cases n with
   |none=>
    simp only at h4
    split at h4
    ·rename_i hx
     refine⟨_,_,h4.2.2,fun hg=>⟨hr hg,fun f hf=> ?_⟩⟩
     simp only[cE,hf x (h1 hg),hf i (h3 hg),hx,hi,F7]
     rw[if_pos ⟨cY.1 h4.1 hg,cY.1 h4.2.1 hg⟩];rfl
    ·rename_i hx
     obtain⟨e,sz,d,es,g1,g2,g3,g4⟩:=h4.ok
     refine⟨_,_,g4,fun hg=>⟨hr hg,fun f hf=> ?_⟩⟩
     obtain⟨q1,q2⟩:=cY.1 g2 hg
     simp only[cE,hf x (h1 hg),hf i (h3 hg),hx,hi,F7,g1]
     rw[if_pos ⟨q1,q2,cY.1 g3 hg⟩];rfl
    ·rename_i hx
     obtain⟨e,sz,d,es,g1,g2,g3,g4⟩:=h4.ok
     refine⟨_,_,g4,fun hg=>⟨hr hg,fun f hf=> ?_⟩⟩
     obtain⟨q1,q2⟩:=cY.1 g2 hg
     simp only[cE,hf x (h1 hg),hf i (h3 hg),hx,hi,F7,g1]
     rw[if_pos ⟨q1,q2,cY.1 g3 hg⟩];rfl
    ·exact h4.elim
   |some m=>
    simp only at h4
    split at h4
    ·rename_i hx
     refine⟨_,_,h4.2.2,fun hg=>⟨hr hg,fun f hf=> ?_⟩⟩
     simp only[cE,hf x (h1 hg),hf i (h3 hg),hx,hi,F7]
     rw[if_pos ⟨cY.1 h4.1 hg,cY.1 h4.2.1 hg⟩];rfl
    ·rename_i hx
     obtain⟨e,sz,d,es,g1,g2,g3,g4⟩:=h4.ok
     refine⟨_,_,g4,fun hg=>⟨hr hg,fun f hf=> ?_⟩⟩
     obtain⟨q1,q2⟩:=cY.1 g2 hg
     simp only[cE,hf x (h1 hg),hf i (h3 hg),hx,hi,F7,g1]
     rw[if_pos ⟨q1,q2,cY.1 g3 hg⟩];rfl
    ·exact h4.elim
  ·exact h4.elim
 case QX off k ag x=>
  obtain⟨h1,h2⟩:=cN h
  split at h2
  ·rename_i cs hx
   cases ag with
   |true=>
    refine⟨_,_,h2.2,fun hg=>⟨fun hr=>by simp[dM.rd] at hr,fun f hf=> ?_⟩⟩
    simp only[cE,hf x (h1 hg),hx,if_true];rw[if_pos (cY.1 h2.1 hg)]
   |false=>
    have h3:=h2.2.ok
    rw[ee] at h3
    refine⟨_,_,h3,fun hg=>⟨fun hr=>by simp[dM.rd] at hr,fun f hf=> ?_⟩⟩
    obtain⟨q1,q2⟩:=cY.1 h2.1 hg
    simp only[cE,hf x (h1 hg),hx,Bool.false_eq_true,if_false];rw[if_pos q1,if_pos q2]
  ·exact h2.elim
 case ix k ag n x i=>
  obtain⟨h1,h2⟩:=cN h
  obtain⟨h3,h4⟩:=cN h2
  split at h4
  ·rename_i cs kk j hx hi
   obtain⟨p1,p2,p3⟩:=h4
   cases ag with
   |true=>
    refine⟨_,_,p3,fun hg=>⟨fun hr=>by simp[dM.rd] at hr,fun f hf=> ?_⟩⟩
    have q2:=cY.1 p2 hg
    simp only[cE,hf x (h1 hg),hf i (h3 hg),hx,hi,if_true];rw[if_pos ⟨q2.1,q2.2,cY.1 p1 hg⟩]
   |false=>
    have h5:=p3.2.ok
    rw[ee] at h5
    refine⟨_,_,h5,fun hg=>⟨fun hr=>by simp[dM.rd] at hr,fun f hf=> ?_⟩⟩
    have q2:=cY.1 p2 hg
    simp only[cE,hf x (h1 hg),hf i (h3 hg),hx,hi,Bool.false_eq_true,if_false];rw[if_pos ⟨q2.1,q2.2,cY.1 p1 hg⟩,if_pos (cY.1 p3.1 hg)]
  ·exact h4.elim
 case Q5 x i=>
  obtain⟨h1,h2⟩:=cN h
  obtain⟨h3,h4⟩:=cN h2
  split at h4
  ·rename_i hx hi
   refine⟨_,_,h4.2,fun hg=>⟨fun hr=>by simp[dM.rd] at hr,fun f hf=> ?_⟩⟩
   simp only[cE,hf x (h1 hg),hf i (h3 hg),hx,hi];rw[if_pos (cY.1 h4.1 hg)]
  ·exact h4.elim
 case lens x=>
  obtain⟨h1,h2⟩:=cN h
  split at h2
  all_goals first
   |exact h2.elim
   |(rename_i hx;exact⟨_,_,h2,fun hg=>⟨fun hr=>by simp[dM.rd] at hr,fun f hf=>by simp only[cE,hf x (h1 hg),hx]⟩⟩)
 case O7 e sz bytes ag z l c=>
  obtain⟨h1,h2⟩:=cN h
  obtain⟨h3,h4⟩:=cN h2
  split at h4
  ·rename_i hx hi
   refine⟨_,_,h4.2.2,fun hg=>⟨fun hr=>by simp[dM.rd] at hr,fun f hf=> ?_⟩⟩
   obtain⟨q1,q2⟩:=cY.1 h4.1 hg
   obtain⟨q3,q4,q5⟩:=cY.1 h4.2.1 hg
   simp only[cE,hf l (h1 hg),hf c (h3 hg),hx,hi];rw[if_pos ⟨q1,q3,q2,q4,q5⟩]
  ·exact h4.elim
 case ext i x=>
  obtain⟨h1,h2⟩:=cN h
  split at h2
  ·rename_i hx
   have h3:=h2.2.ok
   rw[ee] at h3
   refine⟨_,_,h3,fun hg=>⟨fun hr=>by simp[dM.rd] at hr,fun f hf=> ?_⟩⟩
   simp only[cE,hf x (h1 hg),hx];rw[if_pos (cY.1 h2.1 hg)]
  ·exact h2.elim
 case P8 fn first caps=>
  obtain⟨h1,h2⟩:=fD h
  obtain⟨h3,h4⟩:=fD h2
  refine⟨_,_,h4,fun hg=>⟨fun hr=>by simp[dM.rd] at hr,fun f hf=> ?_⟩⟩
  simp only[cE]
  rw[ku (R:=R) fun x hx=>hf x (h1 hg x hx),ku (R:=R) fun x hx=>hf x (h3 hg x hx)]
 case TB t x=>
  obtain⟨h1,h2⟩:=cN h
  exact⟨_,_,h2,fun hg=>⟨fun hr=>by simp[dM.rd] at hr,fun f hf=>by simp only[cE,hf x (h1 hg)]⟩⟩
 case len x=>
  obtain⟨h1,h2⟩:=cN h
  have hr:Gd g->((dM.len x).rd=true->∀y∈(dM.len x).eC,E3 R y):=fun hg _ y hy=>by simp[dM.eC] at hy;subst hy;exact h1 hg
  split at h2
  ·rename_i hx;exact⟨_,_,h2,fun hg=>⟨hr hg,fun f hf=>by simp only[cE,hf x (h1 hg),hx,sO]⟩⟩
  ·rename_i hx
   obtain⟨e,sz,d,es,g1,g2,g3⟩:=h2.ok
   refine⟨_,_,g3,fun hg=>⟨hr hg,fun f hf=> ?_⟩⟩
   simp only[cE,hf x (h1 hg),hx,sO,g1];rw[if_pos (cY.1 g2 hg)]
  ·rename_i hx;exact⟨_,_,h2,fun hg=>⟨hr hg,fun f hf=>by simp[cE,hf x (h1 hg),hx,sO]⟩⟩
  ·rename_i hx;exact⟨_,_,h2,fun hg=>⟨hr hg,fun f hf=>by simp[cE,hf x (h1 hg),hx,sO]⟩⟩
  ·rename_i hx;exact⟨_,_,h2,fun hg=>⟨hr hg,fun f hf=>by simp only[cE,hf x (h1 hg),hx,sO]⟩⟩
  ·exact h2.elim
 case app e sz bytes ag z s x=>
  obtain⟨h1,h2⟩:=cN h
  obtain⟨h3,h4⟩:=cN h2
  obtain⟨xs,⟨h5,h5'⟩,h6⟩:=kq h4
  have hr:Gd g->((dM.app e sz bytes ag z s x).rd=true->∀y∈(dM.app e sz bytes ag z s x).eC,E3 R y):=fun hg _ y hy=>by simp[dM.eC] at hy;rcases hy with rfl|rfl;exact h1 hg;exact h3 hg
  split at h5'
  ·rename_i hx
   refine⟨_,_,h5'.2,fun hg=>⟨hr hg,fun f hf=> ?_⟩⟩
   obtain⟨q1,q2⟩:=h6 hg
   simp only[cE,hf s (h1 hg),hf x (h3 hg),hx,q1];rw[if_pos ⟨q2,cY.1 h5 hg⟩,if_pos (cY.1 h5'.1 hg)]
  ·rename_i hx
   obtain⟨e',sz',d,es,g1,g2,g3,g4⟩:=h5'.ok
   refine⟨_,_,g4,fun hg=>⟨hr hg,fun f hf=> ?_⟩⟩
   obtain⟨q1,q2⟩:=h6 hg
   obtain⟨q3,q4,q5⟩:=cY.1 g2 hg
   simp only[cE,hf s (h1 hg),hf x (h3 hg),hx,q1,g1];rw[if_pos ⟨q2,cY.1 h5 hg⟩,if_pos ⟨q3,q4,q5,cY.1 g3 hg⟩]
  ·exact h5'.elim
 case GP e bytes z s x=>
  obtain⟨h1,h2⟩:=cN h
  obtain⟨h3,h4⟩:=cN h2
  have hr:Gd g->((dM.GP e bytes z s x).rd=true->∀y∈(dM.GP e bytes z s x).eC,E3 R y):=fun hg _ y hy=>by simp[dM.eC] at hy;rcases hy with rfl|rfl;exact h1 hg;exact h3 hg
  split at h4
  ·rename_i q hq
   split at h4
   ·rename_i hx
    refine⟨_,_,h4.2,fun hg=>⟨hr hg,fun f hf=> ?_⟩⟩
    simp only[cE,hf s (h1 hg),hf x (h3 hg),hx,hq];rw[if_pos (cY.1 h4.1 hg)]
   ·rename_i hx
    obtain⟨e',sz',d,es,g1,g2,g3,g4⟩:=h4.ok
    refine⟨_,_,g4,fun hg=>⟨hr hg,fun f hf=> ?_⟩⟩
    obtain⟨q3,q4,q5⟩:=cY.1 g2 hg
    simp only[cE,hf s (h1 hg),hf x (h3 hg),hx,hq,g1];rw[if_pos ⟨q3,q4,q5,cY.1 g3 hg⟩]
   ·exact h4.elim
  ·exact h4.elim
 case EY neg x=>
  obtain⟨h1,h2⟩:=cN h
  split at h2
  all_goals first
   |exact h2.elim
   |(rename_i hx;exact⟨_,_,h2,fun hg=>⟨fun hr=>by simp[dM.rd] at hr,fun f hf=>by simp only[cE,hf x (h1 hg),hx]⟩⟩)
 case yA neg x=>
  obtain⟨h1,h2⟩:=cN h
  obtain⟨t,h3,h4⟩:=h2.ok
  rw[ee] at h4
  refine⟨_,_,h4,fun hg=>⟨fun _ y hy=>by simp[dM.eC] at hy;subst hy;exact h1 hg,fun f hf=> ?_⟩⟩
  simp only[cE,hf x (h1 hg),h3]
 case eqs neg ks x y=>
  obtain⟨h1,h2⟩:=cN h
  obtain⟨h3,h4⟩:=cN h2
  split at h4
  ·rename_i hx hy
   obtain⟨t,g1,g2⟩:=h4.ok
   cases neg
   all_goals exact⟨_,_,g2,fun hg=>⟨fun hr=>by simp[dM.rd] at hr,fun f hf=>by simp[cE,hf x (h1 hg),hf y (h3 hg),hx,hy,g1]⟩⟩
  ·exact h4.elim
 case MO sz x lo hi=>
  obtain⟨h1,h2⟩:=cN h
  obtain⟨h3,h4⟩:=fD h2
  obtain⟨r,g1,g2⟩:=h4.ok
  rw[ee] at g2
  refine⟨_,_,g2,fun hg=>⟨fun _ y hy=> ?_,fun f hf=> ?_⟩⟩
  ·simp only[dM.eC,List.mem_append,List.mem_singleton] at hy
   rcases hy with(rfl|hy)|hy
   ·exact h1 hg
   ·exact h3 hg y (by simp only[List.mem_append];exact .inl hy)
   ·exact h3 hg y (by simp only[List.mem_append];exact .inr hy)
  ·simp only[cE,hf x (h1 hg)]
   have e1:∀y∈lo.toList++hi.toList,ev f y=(R y).2:=fun y hy=>hf y (h3 hg y hy)
   cases lo<;>cases hi<;>simp_all
 case OU n x i=>
  obtain⟨h1,h2⟩:=cN h
  obtain⟨h3,h4⟩:=cN h2
  split at h4
  ·rename_i b len kk j hx hi
   obtain⟨e,sz,d,es,g1,g2,g3,g4⟩:=h4.ok
   refine⟨_,_,g4,fun hg=>⟨fun _ y hy=>by simp[dM.eC] at hy;rcases hy with rfl|rfl;exact h1 hg;exact h3 hg,fun f hf=> ?_⟩⟩
   obtain⟨q1,q2,q3⟩:=cY.1 g2 hg
   obtain⟨q4,q5⟩:=cY.1 g3 hg
   simp only[cE,hf x (h1 hg),hf i (h3 hg),hx,hi,zi,g1]
   rw[if_pos ⟨q1,q2,q3,q4,q5⟩];rfl
  ·exact h4.elim
 case PJ n x i=>
  obtain⟨h1,h2⟩:=cN h
  obtain⟨h3,h4⟩:=cN h2
  split at h4
  ·rename_i b len kk j hx hi
   obtain⟨e,sz,d,es,g1,g2,g3,g4⟩:=h4.ok
   refine⟨_,_,g4,fun hg=>⟨fun _ y hy=>by simp[dM.eC] at hy;rcases hy with rfl|rfl;exact h1 hg;exact h3 hg,fun f hf=> ?_⟩⟩
   obtain⟨q1,q2,q3⟩:=cY.1 g2 hg
   obtain⟨q4,q5⟩:=cY.1 g3 hg
   simp only[cE,hf x (h1 hg),hf i (h3 hg),hx,hi,A1,g1]
   rw[if_pos ⟨q1,q2,q3,q4,q5⟩];rfl
  ·exact h4.elim
 case bad=>exact h.elim
 case ND e n=>exact⟨_,_,h,fun hg=>⟨fun hr=>by simp[dM.rd] at hr,fun f hf=>rfl⟩⟩
 case QA sz x a b=>
  obtain⟨h1,h2⟩:=cN h
  obtain⟨h3,h4⟩:=cN h2
  obtain⟨h5,h6⟩:=cN h4
  obtain⟨r,g1,g2⟩:=h6.ok
  rw[ee] at g2
  refine⟨_,_,g2,fun hg=>⟨fun _ y hy=> ?_,fun f hf=> ?_⟩⟩
  ·simp only[dM.eC,List.mem_cons,List.not_mem_nil,or_false] at hy
   rcases hy with rfl|rfl|rfl
   ·exact h1 hg
   ·exact h3 hg
   ·exact h5 hg
  ·simp only[cE,hf x (h1 hg),hf a (h3 hg),hf b (h5 hg),g1]
   rfl
 case K1 sz x y=>
  obtain⟨h1,h2⟩:=cN h
  obtain⟨h3,h4⟩:=cN h2
  split at h4
  ·rename_i b len hx
   obtain⟨xs,h5,h6⟩:=kq h4
   obtain⟨e,s,d,es,g1,g2,g3⟩:=h5.ok
   refine⟨_,_,g3,fun hg=>⟨fun _ z hz=>by simp[dM.eC] at hz;rcases hz with rfl|rfl;exact h1 hg;exact h3 hg,fun f hf=> ?_⟩⟩
   obtain⟨q1,q2⟩:=h6 hg
   obtain⟨q3,q4⟩:=cY.1 g2 hg
   simp only[cE,hf x (h1 hg),hf y (h3 hg),hx,q1,g1];rw[if_pos ⟨q3,q4,q2⟩]
  ·exact h4.elim
 case call f as=>exact h.elim
 case NV kt=>exact⟨_,_,h,fun hg=>⟨fun hr=>by simp[dM.rd] at hr,fun f hf=>rfl⟩⟩
 case C9 sz v=>exact⟨_,_,h,fun hg=>⟨fun hr=>by simp[dM.rd] at hr,fun f hf=>rfl⟩⟩
 case w9 e sz v=>exact⟨_,_,h,fun hg=>⟨fun hr=>by simp[dM.rd] at hr,fun f hf=>rfl⟩⟩
 case zo x=>
  obtain⟨h1,h2⟩:=cN h
  obtain⟨b,e,d,es,h3,h4⟩:=k7 h2
  exact⟨_,_,h4,fun hg=>⟨fun _ y hy=>by simp[dM.eC] at hy;subst hy;exact h1 hg,fun f hf=>by simp only[cE,hf x (h1 hg),h3]⟩⟩
 case LU str ag z ok x k=>
  obtain⟨h1,h2⟩:=cN h
  obtain⟨h3,h4⟩:=cN h2
  have hr:Gd g->((dM.LU str ag z ok x k).rd=true->∀y∈(dM.LU str ag z ok x k).eC,E3 R y):=fun hg _ y hy=>by simp[dM.eC] at hy;rcases hy with rfl|rfl;exact h1 hg;exact h3 hg
  split at h4
  ·rename_i kv hk
   obtain⟨b,e,d,es,h5,h6,h7⟩:=k7 h4
   obtain⟨p,h8,h9⟩:=h7.ok
   cases ok with
   |true=>
    refine⟨_,_,h9,fun hg=>⟨hr hg,fun f hf=> ?_⟩⟩
    have h10:=h8 hg
    unfold mA at h10
    simp only[cE,hf x (h1 hg),hf k (h3 hg),h5,hk]
    rw[if_pos (cY.1 h6 hg)]
    split at h10<;>simp only[Option.some.injEq,reduceCtorEq] at h10
    ·subst h10;simp_all
    ·subst h10;simp_all
   |false=>
    simp only[ee] at h9
    refine⟨_,_,h9,fun hg=>⟨hr hg,fun f hf=> ?_⟩⟩
    have h10:=h8 hg
    unfold mA at h10
    simp only[cE,hf x (h1 hg),hf k (h3 hg),h5,hk]
    rw[if_pos (cY.1 h6 hg)]
    split at h10<;>simp only[Option.some.injEq,reduceCtorEq] at h10
    ·subst h10;simp_all
    ·subst h10;simp_all
  ·exact h4.elim
 case F8 str x k y=>
  obtain⟨h1,h2⟩:=cN h
  obtain⟨h3,h4⟩:=cN h2
  obtain⟨h3',h4'⟩:=cN h4
  have hr:Gd g->((dM.F8 str x k y).rd=true->∀w∈(dM.F8 str x k y).eC,E3 R w):=fun hg _ w hy=>by simp[dM.eC] at hy;rcases hy with rfl|rfl|rfl;exact h1 hg;exact h3 hg;exact h3' hg
  split at h4'
  ·rename_i kv hk
   obtain⟨b,e,d,es,h5,h6,h7⟩:=k7 h4'
   obtain⟨p,h8,h9⟩:=h7.ok
   refine⟨_,_,h9,fun hg=>⟨hr hg,fun f hf=> ?_⟩⟩
   have h10:=h8 hg
   unfold oc at h10
   simp only[cE,hf x (h1 hg),hf k (h3 hg),hf y (h3' hg),h5,hk]
   rw[if_pos (cY.1 h6 hg)]
   split at h10<;>simp only[Option.some.injEq,reduceCtorEq] at h10
   ·subst h10;simp_all[mz]
   ·subst h10;simp_all[mz]
  ·exact h4'.elim
 case del str x k=>
  obtain⟨h1,h2⟩:=cN h
  obtain⟨h3,h4⟩:=cN h2
  have hr:Gd g->((dM.del str x k).rd=true->∀y∈(dM.del str x k).eC,E3 R y):=fun hg _ y hy=>by simp[dM.eC] at hy;rcases hy with rfl|rfl;exact h1 hg;exact h3 hg
  split at h4
  ·rename_i kv hk
   obtain⟨b,e,d,es,h5,h6,h7⟩:=k7 h4
   obtain⟨p,h8,h9⟩:=h7.ok
   refine⟨_,_,h9,fun hg=>⟨hr hg,fun f hf=> ?_⟩⟩
   have h10:=h8 hg
   unfold TA at h10
   simp only[cE,hf x (h1 hg),hf k (h3 hg),h5,hk]
   rw[if_pos (cY.1 h6 hg)]
   split at h10<;>simp only[Option.some.injEq,reduceCtorEq] at h10
   ·subst h10;simp_all
   ·subst h10;simp_all
  ·exact h4.elim
 case TO t ok ag z x=>
  obtain⟨h1,h2⟩:=cN h
  split at h2
  ·rename_i t' v hx
   cases hb:Nat.beq t' t with
   |true=>
    rw[hb] at h2
    have e:=Nat.eq_of_beq_eq_true hb
    cases ok with
    |true=>
     simp only[cond_true] at h2
     exact⟨_,_,h2,fun hg=>⟨fun hr=>by simp[dM.rd] at hr,fun f hf=>by simp only[cE,hf x (h1 hg),hx];rw[if_pos e];rfl⟩⟩
    |false=>
     simp only[cond_true,ee] at h2
     exact⟨_,_,h2,fun hg=>⟨fun hr=>by simp[dM.rd] at hr,fun f hf=>by simp only[cE,hf x (h1 hg),hx];rw[if_pos e];rfl⟩⟩
   |false=>
    rw[hb] at h2
    have e:¬t'=t:=fun e=>by rw[e] at hb;simp at hb
    cases ok with
    |true=>
     simp only[cond_false] at h2
     exact⟨_,_,h2,fun hg=>⟨fun hr=>by simp[dM.rd] at hr,fun f hf=>by simp only[cE,hf x (h1 hg),hx];rw[if_neg e];rfl⟩⟩
    |false=>exact h2.elim
  ·exact h2.elim
end Go.cp
/- Code as a whole, run by reduction alone; it is so. -/
namespace Go.cp
open Go.RowKit
structure fF (t:Bool) (A B:Prop):Prop where
 ok:(t=true->A)/\(t=false->B)
theorem fF.lt {A B:Prop} (h:A):fF true A B:=⟨⟨fun _=>h,fun h=>(by cases h)⟩⟩
theorem fF.lf {A B:Prop} (h:B):fF false A B:=⟨⟨fun h=>(by cases h),fun _=>h⟩⟩
theorem fF.of {t:Bool} {A B:Prop} (h1:t=true->A) (h2:t=false->B):fF t A B:=⟨⟨h1,h2⟩⟩
structure eR (t want:Bool) (A B J:Prop):Prop where
 ok:((t=want->A)/\(t≠want->B))\/J
theorem eR.tt {A B J:Prop} (h:A):eR true true A B J:=⟨.inl ⟨fun _=>h,fun h=>absurd rfl h⟩⟩
theorem eR.join {t want:Bool} {A B J:Prop} (h:J):eR t want A B J:=⟨.inr h⟩
theorem eR.split {t want:Bool} {A B J:Prop} (h1:t=want->A) (h2:t= !want->B):eR t want A B J:=⟨.inl ⟨h1,fun h=>h2 (by cases t<;>cases want<;>simp_all)⟩⟩
structure iE (P:Program) (f:FuncId) (args:List AV) (H:Hp) (nx:Nat) (K:AV->Hp->Nat->Prop):Prop where
 ok:cO P f args H nx K
structure nB (P:Program) (g:Bool) (f:FuncId) (args:List AV) (H:Hp) (nx:Nat) (K:AV->Prop):Prop where
 ok:∃r,(g=true->∀(K':AV->Hp->Nat->Prop),K' r H (nx+1)->cO P f args H nx K')/\K r
structure lL (P:Program) (id:Nat) (f:FuncId) (args:List AV) (H:Hp) (K:AV->Option (Nat×e8)->List Nat->Prop):Prop where
 ok:∃r u S,ny P id (.fn (.func f) [] []) args H r u S/\K r u S
structure QE (P:Program) (t:TypeId) (v:AV) (nm:String) (args:List AV) (H:Hp) (nx:Nat) (K:AV->Hp->Nat->Prop):Prop where
 ok:tY P t v nm args H nx K
structure tX (P:Program) (g:Bool) (id:Nat) (f:FuncId) (args:List AV) (H:Hp) (K:AV->List Nat->Prop):Prop where
 ok:∃r S,(g=true->ny P id (.fn (.func f) [] []) args H r none S)/\K r S
theorem Pure.OD {P:Program} {f:FuncId} {args:List AV} {R:AV->Prop} {H:Hp} {nx:Nat} {K:AV->Hp->Nat->Prop} (h:Pure P f args R) (hf:c8 0 args) (hK:∀r,R r->K r H (nx+1)):cO P f args H nx K:=by
 have:=h.cz (H:=H) (nx:=nx) (K:=fun r H' n=>∃n',n<=n'/\K r H' n') hf fun r hr=>⟨_,Nat.le_succ _,hK r hr⟩
 refine⟨this.1,fun w0 c vs a1 a2 a3 a4=>(this.2 w0 c vs a1 a2 a3 a4).mono ?_⟩
 rintro e w' ⟨v,r,H',nx',ρ,U,he,⟨n',hn,hR⟩,hU,hrest⟩
 exact⟨v,r,H',n',ρ,U,he,hR,fun b hb=>Nat.lt_of_lt_of_le (hU b hb) hn,hrest⟩
theorem iE.pure {P:Program} {f:FuncId} {args:List AV} {R:AV->Prop} {H:Hp} {nx:Nat} {K:AV->Hp->Nat->Prop} (h:Pure P f args R) (hf:c8 0 args) (hK:∀r,R r->K r H nx):iE P f args H nx K:=⟨h.cz hf hK⟩
theorem iE.KF {P:Program} {f:FuncId} {args:List AV} {r:AV} {H:Hp} {nx:Nat} {K:AV->Hp->Nat->Prop} (h:Pure P f args (fun x=>x=r)) (hf:c8 0 args) (hK:K r H nx):iE P f args H nx K:=⟨h.cz hf fun x hx=>by rw[hx];exact hK⟩
theorem iE.of {P:Program} {f:FuncId} {args:List AV} {H:Hp} {nx:Nat} {R K:AV->Hp->Nat->Prop} (h:cO P f args H nx R) (hK:∀r H' nx',R r H' nx'->K r H' nx'):iE P f args H nx K:=⟨h.mono hK⟩
theorem nB.KF {P:Program} {g:Bool} {f:FuncId} {args:List AV} {r:AV} {H:Hp} {nx:Nat} {K:AV->Prop} (h:g=true->Pure P f args (fun x=>x=r)) (hf:c8 0 args) (hK:K r):nB P g f args H nx K:=
 ⟨⟨r,fun hg K' hK'=>(h hg).OD hf fun x hx=>by rw[hx];exact hK',hK⟩⟩
theorem lL.KF {P:Program} {id:Nat} {f:FuncId} {args:List AV} {H:Hp} {r:AV} {K:AV->Option (Nat×e8)->List Nat->Prop} (h:Pure P f args (fun x=>x=r)) (hf:c8 0 args) (hK:K r none []):lL P id f args H K:=
 ⟨⟨r,none,[],Pure.NX (by simpa using hf) (by simpa using h),hK⟩⟩
theorem tX.KF {P:Program} {g:Bool} {id:Nat} {f:FuncId} {args:List AV} {H:Hp} {r:AV} {K:AV->List Nat->Prop} (h:g=true->Pure P f args (fun x=>x=r)) (hf:c8 0 args) (hK:K r []):tX P g id f args H K:=
 ⟨⟨r,[],fun hg=>Pure.NX (by simpa using hf) (by simpa using h hg),hK⟩⟩
theorem lL.fresh {P:Program} {id:Nat} {f:FuncId} {args:List AV} {H:Hp} {r:AV} {u:Option (Nat×e8)} (S:List Nat) {K:AV->Option (Nat×e8)->List Nat->Prop}
 (h:∀H1,(∀b∈S,bw H1 b=bw H b)->jy P f args H1 id (fun r' H'=>r'=r/\H'=dH H1 u)) (hu:∀b q,u=some (b,q)->b=id) (hK:K r u S):lL P id f args H K:=
 ⟨⟨r,u,S,⟨by simpa using h,hu⟩,hK⟩⟩
section
variable (P:Program)
noncomputable def wZ (nx:Nat) (R:Raw) (H:Hp) (op:dM) (K:AV->Hp->Nat->Prop):Prop:=
 match op with
 | .call f args=>dB none R f fun fv=>jm none R args fun as=>match fv with
  | .fn (.func g) first caps=>p9 (first++as++caps) fun as=>iE P g as H nx K
  | .fn (.method nm) [.lY t v] []=>p9 as fun as=>QE P t v nm as H nx K
  |_=>False
 |op=>pD none H R nx op fun r u=>K r (dH H u) (nx+1)
noncomputable def l6 (nx:Nat) (g:Bool) (R:Raw) (H:Hp) (op:dM) (K:AV->Prop):Prop:=
 match op with
 | .call f args=>dB (some g) R f fun fv=>jm (some g) R args fun as=>match fv with
  | .fn (.func q) first caps=>p9 (first++as++caps) fun as=>nB P g q as H nx K
  |_=>False
 |op=>pD (some g) H R nx op fun r u=>match u with
  |none=>K r
  |some _=>False
abbrev BQ:=Nat->Ov->Fr->Hp->(Ov->Hp->Nat->Prop)->Prop
def w3 (nx:Nat) (ov:Ov) (_:Fr) (H:Hp) (K:Ov->Hp->Nat->Prop):Prop:=K ov H nx
noncomputable def pR (g:gS) (_:List gS) (ih:BQ) (nx:Nat) (ov:Ov) (fr:Fr) (H:Hp) (K:Ov->Hp->Nat->Prop):Prop:=match g.guard with
 |none=>wZ P nx (fB ov fr) H g.op fun r H' nx'=>ih nx' (gQ ov g.dst none r) fr H' K
 |some (d,want)=>match pa ov fr d with
  |(none, .sc (.bool t))=>eR t want (wZ P nx (fB ov fr) H g.op fun r H' nx'=>ih nx' (gQ ov g.dst none r) fr H' K) (ih (nx+1) (gQ ov g.dst none (.sc undef)) fr H K)
   (match want with
    |true=>l6 P nx t (fB ov fr) H g.op fun r=>ih (nx+1) (gQ ov g.dst (some t) r) fr H K
    |false=>l6 P nx (!t) (fB ov fr) H g.op fun r=>ih (nx+1) (gQ ov g.dst (some !t) r) fr H K)
  |(some q, .sc (.bool t))=>(match want with
   |true=>l6 P nx (q&&t) (fB ov fr) H g.op fun r=>ih (nx+1) (gQ ov g.dst (some (q&&t)) r) fr H K
   |false=>l6 P nx (q&& !t) (fB ov fr) H g.op fun r=>ih (nx+1) (gQ ov g.dst (some (q&& !t)) r) fr H K)
  |(none, .sc (.tuple _))=>ih (nx+1) (gQ ov g.dst none (.sc undef)) fr H K
  |_=>False
noncomputable def C5 (nx:Nat) (gs:List gS) (ov:Ov) (fr:Fr) (H:Hp) (K:Ov->Hp->Nat->Prop):Prop:=List.rec (motive:=fun _=>BQ) w3 (pR P) gs nx ov fr H K
def EE (R:Raw) (op:dM):List Nat:=if op.rd then op.eC.flatMap (fun x=>gK (R x).2) else[]
noncomputable def nN (id:Nat) (R:Raw) (H:Hp) (op:dM) (K:AV->Option (Nat×e8)->List Nat->Prop):Prop:=
 match op with
 | .call f args=>dB none R f fun fv=>jm none R args fun as=>match fv with
  | .fn (.func g) first caps=>p9 (first++as++caps) fun as=>lL P id g as H K
  |_=>False
 |op=>pD none H R id op fun r u=>K r u (EE R op)
noncomputable def iL (id:Nat) (g:Bool) (R:Raw) (H:Hp) (op:dM) (K:AV->List Nat->Prop):Prop:=
 match op with
 | .call f args=>dB (some g) R f fun fv=>jm (some g) R args fun as=>match fv with
  | .fn (.func q) first caps=>p9 (first++as++caps) fun as=>tX P g id q as H K
  |_=>False
 |op=>pD (some g) H R id op fun r u=>match u with
  |none=>K r (EE R op)
  |some _=>False
abbrev TZ:=Nat->Ov->Fr->Hp->Tr->(Ov->Hp->Tr->Prop)->Prop
def GG (_:Nat) (ov:Ov) (_:Fr) (H:Hp) (tr:Tr) (K:Ov->Hp->Tr->Prop):Prop:=K ov H tr
noncomputable def nz (g:gS) (_:List gS) (ih:TZ) (id:Nat) (ov:Ov) (fr:Fr) (H:Hp) (tr:Tr) (K:Ov->Hp->Tr->Prop):Prop:=match g.guard with
 |none=>nN P id (fB ov fr) H g.op fun r u S=>ih (id+1) (gQ ov g.dst none r) fr (dH H u) (tr++[(S,u.map (·.1))]) K
 |some (d,want)=>match pa ov fr d with
  |(none, .sc (.bool t))=>eR t want (nN P id (fB ov fr) H g.op fun r u S=>ih (id+1) (gQ ov g.dst none r) fr (dH H u) (tr++[(S,u.map (·.1))]) K) (ih (id+1) (gQ ov g.dst none (.sc undef)) fr H (tr++[([],none)]) K)
   (match want with
    |true=>iL P id t (fB ov fr) H g.op fun r S=>ih (id+1) (gQ ov g.dst (some t) r) fr H (tr++[(S,none)]) K
    |false=>iL P id (!t) (fB ov fr) H g.op fun r S=>ih (id+1) (gQ ov g.dst (some !t) r) fr H (tr++[(S,none)]) K)
  |(some q, .sc (.bool t))=>(match want with
   |true=>iL P id (q&&t) (fB ov fr) H g.op fun r S=>ih (id+1) (gQ ov g.dst (some (q&&t)) r) fr H (tr++[(S,none)]) K
   |false=>iL P id (q&& !t) (fB ov fr) H g.op fun r S=>ih (id+1) (gQ ov g.dst (some (q&& !t)) r) fr H (tr++[(S,none)]) K)
  |(none, .sc (.tuple _))=>ih (id+1) (gQ ov g.dst none (.sc undef)) fr H (tr++[([],none)]) K
  |_=>False
noncomputable def WD (id:Nat) (gs:List gS) (ov:Ov) (fr:Fr) (H:Hp) (tr:Tr) (K:Ov->Hp->Tr->Prop):Prop:=List.rec (motive:=fun _=>TZ) GG (nz P) gs id ov fr H tr K
noncomputable def PA (S:List Nat):(List Nat->Prop)->Prop:=List.rec (motive:=fun _=>(List Nat->Prop)->Prop) (fun K=>K []) (fun b _ ih K=>ih fun S'=>K (b::S')) S
theorem sY:∀(S:List Nat) (K:List Nat->Prop),PA S K=K S
 |[],_=>rfl
 |b::S,K=>sY S fun S'=>K (b::S')
def uW (u:Option (Nat×e8)) (K:Option Nat->Prop):Prop:=match u with
 |none=>K none
 |some (b,_)=>K (some b)
theorem TP (u:Option (Nat×e8)) (K:Option Nat->Prop):uW u K=K (u.map (·.1)):=by
 cases u<;>rfl
noncomputable def vE (g:gS) (_:List gS) (ih:TZ) (id:Nat) (ov:Ov) (fr:Fr) (H:Hp) (tr:Tr) (K:Ov->Hp->Tr->Prop):Prop:=match g.guard with
 |none=>nN P id (fB ov fr) H g.op fun r u S=>PA S fun S=>uW u fun x=>ih (id+1) (gQ ov g.dst none r) fr (dH H u) ((S,x)::tr) K
 |some (d,want)=>match pa ov fr d with
  |(none, .sc (.bool t))=>eR t want (nN P id (fB ov fr) H g.op fun r u S=>PA S fun S=>uW u fun x=>ih (id+1) (gQ ov g.dst none r) fr (dH H u) ((S,x)::tr) K) (ih (id+1) (gQ ov g.dst none (.sc undef)) fr H (([],none)::tr) K)
   (match want with
    |true=>iL P id t (fB ov fr) H g.op fun r S=>PA S fun S=>ih (id+1) (gQ ov g.dst (some t) r) fr H ((S,none)::tr) K
    |false=>iL P id (!t) (fB ov fr) H g.op fun r S=>PA S fun S=>ih (id+1) (gQ ov g.dst (some !t) r) fr H ((S,none)::tr) K)
  |(some q, .sc (.bool t))=>(match want with
   |true=>iL P id (q&&t) (fB ov fr) H g.op fun r S=>PA S fun S=>ih (id+1) (gQ ov g.dst (some (q&&t)) r) fr H ((S,none)::tr) K
   |false=>iL P id (q&& !t) (fB ov fr) H g.op fun r S=>PA S fun S=>ih (id+1) (gQ ov g.dst (some (q&& !t)) r) fr H ((S,none)::tr) K)
  |(none, .sc (.tuple _))=>ih (id+1) (gQ ov g.dst none (.sc undef)) fr H (([],none)::tr) K
  |_=>False
noncomputable def WE (id:Nat) (gs:List gS) (ov:Ov) (fr:Fr) (H:Hp) (tr:Tr) (K:Ov->Hp->Tr->Prop):Prop:=List.rec (motive:=fun _=>TZ) GG (vE P) gs id ov fr H tr K
theorem wY:∀(gs:List gS) (id:Nat) (ov:Ov) (fr:Fr) (H:Hp) (tr:Tr) (K:Ov->Hp->Tr->Prop),WE P id gs ov fr H tr K=WD P id gs ov fr H tr.reverse fun ov H t=>K ov H t.reverse
 |[],id,ov,fr,H,tr,K=>by
  show K ov H tr=K ov H tr.reverse.reverse
  rw[List.reverse_reverse]
 |g::gs,id,ov,fr,H,tr,K=>by
  have ih:=wY gs
  show vE P g gs (fun id ov fr H tr K=>WE P id gs ov fr H tr K) id ov fr H tr K=nz P g gs (fun id ov fr H tr K=>WD P id gs ov fr H tr K) id ov fr H tr.reverse fun ov H t=>K ov H t.reverse
  simp only[vE,nz,sY,TP,ih,List.reverse_cons]
noncomputable def KL (s:tG) (_:List tG) (ih:BQ) (nx:Nat) (ov:Ov) (fr:Fr) (H:Hp) (K:Ov->Hp->Nat->Prop):Prop:=match s.ops with
 |[g]=>C5 P nx [g] ov fr H fun ov' H' nx'=>ih nx' ov' fr H' K
 |gs=>WE P nx gs ov fr H [] fun ov' H' tr=>(match s.ps with
  |[]=>ih (nx+gs.length) ov' fr H' K
  |p::ps=>Ask (iO tr.reverse (p::ps))/\ih (nx+gs.length) ov' fr H' K)
noncomputable def WS (nx:Nat) (segs:List tG) (ov:Ov) (fr:Fr) (H:Hp) (K:Ov->Hp->Nat->Prop):Prop:=List.rec (motive:=fun _=>BQ) w3 (KL P) segs nx ov fr H K
structure iF (n lo:Nat) (x:LC) (fr:Fr) (H:Hp) (nx:Nat) (Q:QT):Prop where
 ok:WL P n lo (.loop x) fr H nx Q
abbrev WT:=Fr->Hp->Nat->QT->Prop
def N6 (fr:Fr) (H:Hp) (nx:Nat) (Q:QT):Prop:=Q .normal fr H nx
noncomputable def GH (gs:List gS) (fr:Fr) (H:Hp) (nx:Nat) (Q:QT):Prop:=C5 P nx gs [] fr H fun ov H' nx'=>Q .normal (gk ov fr) H' nx'
structure gx (segs:List tG) (fr:Fr) (H:Hp) (nx:Nat) (Q:QT):Prop where
 ok:∀n lo,WL P n lo (.drawn segs) fr H nx Q
def KN (segs:List tG) (fr:Fr) (H:Hp) (nx:Nat) (Q:QT):Prop:=gx P segs fr H nx Q
def QG (_ _:LC) (ia ib:WT) (fr:Fr) (H:Hp) (nx:Nat) (Q:QT):Prop:=ia fr H nx (gw (fun fr H nx=>ib fr H nx Q) Q)
def yk (c:dz) (_ _:LC) (ia ib:WT) (fr:Fr) (H:Hp) (nx:Nat) (Q:QT):Prop:=match ev fr c with
 | .sc (.bool t)=>fF t (ia fr H nx Q) (ib fr H nx Q)
 | .ab=>ia fr H nx Q/\ib fr H nx Q
 |_=>False
def KM (id:Nat) (_:LC) (ia:WT) (fr:Fr) (H:Hp) (nx:Nat) (Q:QT):Prop:=ia fr H nx (yw id Q)
def N5 (n lo:Nat) (a:LC) (_:WT) (fr:Fr) (H:Hp) (nx:Nat) (Q:QT):Prop:=iF P n lo a fr H nx Q
def N4 (id:Nat) (fr:Fr) (H:Hp) (nx:Nat) (Q:QT):Prop:=Q (.exit id) fr H nx
def QF (fr:Fr) (H:Hp) (nx:Nat) (Q:QT):Prop:=Q .ret fr H nx
noncomputable def W (n lo:Nat) (lc:LC):WT:=LC.rec (motive:=fun _=>WT) N6 (GH P) (KN P) QG yk KM (N5 P n lo) N4 QF lc
end
section
variable {P:Program}
theorem qJ {nx:Nat} {ov:Ov} {f fr:Fr} {H:Hp} {op:dM} {K:AV->Hp->Nat->Prop} (hF:pO f ov fr) (h:wZ P nx (fB ov fr) H op K):dw P nx f H op K:=by
 by_cases hc:∃g as,op= .call g as
 ·obtain⟨fo,as,rfl⟩:=hc
  simp only[wZ] at h
  obtain⟨h1,h2⟩:=cN h
  obtain⟨h3,h4⟩:=fD h2
  simp only[dw]
  rw[hF.raw fo (h1 trivial),ku (R:=fB ov fr) fun x hx=>hF.raw x (h3 trivial x hx)]
  split at h4
  ·rename_i he
   rw[he]
   rw[iA] at h4
   exact h4.ok
  ·rename_i he
   rw[he]
   rw[iA] at h4
   exact h4.ok
  ·exact h4.elim
 ·have e1:wZ P nx (fB ov fr) H op K=pD none H (fB ov fr) nx op fun r u=>K r (dH H u) (nx+1):=by cases op<;>first|rfl|exact absurd ⟨_,_,rfl⟩ hc
  have e2:dw P nx f H op K=mD (cE nx f H op) fun p=>K p.1 (dH H p.2) (nx+1):=by cases op<;>first|rfl|exact absurd ⟨_,_,rfl⟩ hc
  rw[e1] at h
  obtain⟨r,u,h1,h2⟩:=jd h
  rw[e2,(h2 trivial).2 f fun x hx=>hF.raw x hx]
  exact h1
theorem vG {nx:Nat} {g:Bool} {ov:Ov} {fr:Fr} {H:Hp} {op:dM} {K:AV->Prop} (h:l6 P nx g (fB ov fr) H op K):
 ∃r,K r/\(g=true->∀f,pO f ov fr->∀K':AV->Hp->Nat->Prop,K' r H (nx+1)->dw P nx f H op K'):=by
 by_cases hc:∃g as,op= .call g as
 ·obtain⟨fo,as,rfl⟩:=hc
  simp only[l6] at h
  obtain⟨h1,h2⟩:=cN h
  obtain⟨h3,h4⟩:=fD h2
  split at h4
  ·rename_i he
   rw[iA] at h4
   obtain⟨r,h5,h6⟩:=h4.ok
   refine⟨r,h6,fun hg f hF K' hK'=> ?_⟩
   simp only[dw]
   rw[hF.raw fo (h1 hg),ku (R:=fB ov fr) fun x hx=>hF.raw x (h3 hg x hx),he]
   exact h5 hg K' hK'
  ·exact h4.elim
 ·have e1:l6 P nx g (fB ov fr) H op K=pD (some g) H (fB ov fr) nx op fun r u=>match u with|none=>K r|some _=>False:=by cases op<;>first|rfl|exact absurd ⟨_,_,rfl⟩ hc
  rw[e1] at h
  obtain⟨r,u,h1,h2⟩:=jd h
  cases u with
  |some p=>exact h1.elim
  |none=>
   refine⟨r,h1,fun hg f hF K' hK'=> ?_⟩
   have e2:dw P nx f H op K'=mD (cE nx f H op) fun p=>K' p.1 (dH H p.2) (nx+1):=by cases op<;>first|rfl|exact absurd ⟨_,_,rfl⟩ hc
   rw[e2,(h2 hg).2 f fun x hx=>hF.raw x hx]
   exact hK'
theorem fP:∀{gs:List gS} {nx:Nat} {ov:Ov} {f fr:Fr} {H:Hp} {K:Ov->Hp->Nat->Prop},pO f ov fr->C5 P nx gs ov fr H K->fH P nx gs f H (fun f1 H1 nx1=>∃ov1,pO f1 ov1 fr/\K ov1 H1 nx1)
 |[],nx,ov,f,fr,H,K,hF,h=>⟨ov,hF,h⟩
 |g::gs,nx,ov,f,fr,H,K,hF,h=>by
  have join:∀{q t:Bool} {d:Nat} {want:Bool},g.guard=some (d,want)->(q=true->cc f d= .sc (.bool t))->(q=false->cc f d= .sc undef)->∀{gg:Bool},(gg=true↔(q=true/\t=want))->
   (l6 P nx gg (fB ov fr) H g.op fun r=>C5 P (nx+1) gs (gQ ov g.dst (some gg) r) fr H K)->fH P nx (g::gs) f H (fun f1 H1 nx1=>∃ov1,pO f1 ov1 fr/\K ov1 H1 nx1):=by
   intro q t d want hg hq1 hq2 gg hgg hJ
   obtain⟨r,h1,h2⟩:=vG hJ
   simp only[fH,hg,dR]
   cases q with
   |true=>
    simp only[hq1 rfl]
    by_cases ht:t=want
    ·rw[if_pos ht]
     have hgt:=hgg.2 ⟨rfl,ht⟩
     exact h2 hgt f hF _ (fP (hF.ow g.dst (u:=r) (fun _=>rfl) fun h=>by rw[hgt] at h;cases h) h1)
    ·rw[if_neg ht]
     have hgf:gg=false:=by cases hgg':gg<;>simp_all
     exact fP (hF.ow g.dst (u:= .sc undef) (fun h=>by rw[hgf] at h;cases h) fun _=>rfl) h1
   |false=>
    simp only[hq2 rfl]
    have hgf:gg=false:=by cases hgg':gg<;>simp_all
    have:=fP (hF.ow g.dst (u:= .sc undef) (q:=gg) (fun h=>by rw[hgf] at h;cases h) fun _=>rfl) h1
    exact this
  have h:pR P g gs (fun nx ov fr H K=>C5 P nx gs ov fr H K) nx ov fr H K:=h
  simp only[pR] at h
  split at h
  ·rename_i hg
   simp only[fH,hg,dR]
   exact(qJ hF h).mono fun r H' nx' hh=>fP (hF.put g.dst r) hh
  ·rename_i d want hg
   have hd:=hF d
   split at h
   ·rename_i t he
    rw[he] at hd
    simp only at hd
    rcases h.ok with⟨hA,hB⟩|hJ
    ·simp only[fH,hg,dR,hd]
     by_cases ht:t=want
     ·rw[if_pos ht]
      exact(qJ hF (hA ht)).mono fun r H' nx' hh=>fP (hF.put g.dst r) hh
     ·rw[if_neg ht]
      exact fP (hF.put g.dst _) (hB ht)
    ·cases want with
     |true=>exact join (q:=true) hg (fun _=>hd) (fun h=>by cases h) (gg:=t) (by simp) hJ
     |false=>exact join (q:=true) hg (fun _=>hd) (fun h=>by cases h) (gg:= !t) (by simp) hJ
   ·rename_i q t he
    rw[he] at hd
    simp only at hd
    cases want with
    |true=>exact join hg hd.1 hd.2 (gg:=q&&t) (by simp) h
    |false=>exact join hg hd.1 hd.2 (gg:=q&& !t) (by simp) h
   ·rename_i v he
    rw[he] at hd
    simp only at hd
    simp only[fH,hg,dR,hd]
    exact fP (hF.put g.dst _) h
   ·exact h.elim
def C3:Tr->Tr->Prop
 |[],[]=>True
 |a::r,b::s=>(∀x∈a.1,x∈b.1)/\a.2=b.2/\C3 r s
 |_,_=>False
theorem C3.snoc {a b:List Nat} {u:Option Nat} (h1:∀x∈a,x∈b):∀{r s:Tr},C3 r s->C3 (r++[(a,u)]) (s++[(b,u)])
 |[],[],_=>⟨h1,rfl,trivial⟩
 |x::r,y::s,h=>⟨h.1,h.2.1,C3.snoc h1 h.2.2⟩
 |[],_::_,h=>h.elim
 |_::_,[],h=>h.elim
theorem C3.get:∀{r s:Tr},C3 r s->∀k,(∀x∈(r.getD k ([],none)).1,x∈(s.getD k ([],none)).1)/\(r.getD k ([],none)).2=(s.getD k ([],none)).2
 |[],[],_,k=>by simp
 |x::r,y::s,h,0=>⟨h.1,h.2.1⟩
 |x::r,y::s,h,k+1=>by simpa using C3.get h.2.2 k
 |[],_::_,h,_=>h.elim
 |_::_,[],h,_=>h.elim
theorem C3.DN {r s:Tr} (h:C3 r s) {ps:List (Nat×Nat)} (hf:iO s ps):iO r ps:=by
 intro p hp
 obtain⟨h1,h2,h3⟩:=hf p hp
 obtain⟨a1,a2⟩:=h.get p.1
 obtain⟨b1,b2⟩:=h.get p.2
 exact⟨fun b hb hm=>h1 b (by rw[<-a2];exact hb) (b1 b hm),fun b hb hm=>h2 b (by rw[<-b2];exact hb) (a1 b hm),fun b hb=>h3 b ⟨by rw[<-a2];exact hb.1,by rw[<-b2];exact hb.2⟩⟩
theorem CF {ov:Ov} {f fr:Fr} {op:dM} (hF:pO f ov fr) (h:op.rd=true->∀y∈op.eC,E3 (fB ov fr) y):∀x∈eQ f op,x∈EE (fB ov fr) op:=by
 intro x hx
 unfold eQ at hx
 unfold EE
 split at hx
 ·rename_i hr
  rw[if_pos hr]
  obtain⟨y,hy,hm⟩:=List.mem_flatMap.1 hx
  exact List.mem_flatMap.2 ⟨y,hy,by rw[<-hF.raw y (h hr y hy)];exact hm⟩
 ·cases hx
theorem oA {id:Nat} {ov:Ov} {fr:Fr} {H:Hp} {op:dM} {K:AV->Option (Nat×e8)->List Nat->Prop} (h:nN P id (fB ov fr) H op K) {f:Fr} (hF:pO f ov fr):
 lN P id f H op (fun r u S'=>∃S,(∀x∈S',x∈S)/\K r u S):=by
 by_cases hc:∃g as,op= .call g as
 ·obtain⟨fo,as,rfl⟩:=hc
  simp only[nN] at h
  obtain⟨h1,h2⟩:=cN h
  obtain⟨h3,h4⟩:=fD h2
  split at h4
  ·rename_i he
   rw[iA] at h4
   obtain⟨r,u,S,h5,h6⟩:=h4.ok
   refine⟨r,u,S, ?_,S,fun _ h=>h,h6⟩
   rw[hF.raw fo (h1 trivial),ku (R:=fB ov fr) fun x hx=>hF.raw x (h3 trivial x hx),he]
   simpa[ny] using h5
  ·exact h4.elim
 ·have e1:nN P id (fB ov fr) H op K=pD none H (fB ov fr) id op fun r u=>K r u (EE (fB ov fr) op):=by cases op<;>first|rfl|exact absurd ⟨_,_,rfl⟩ hc
  rw[e1] at h
  obtain⟨r,u,h1,h2⟩:=jd h
  obtain⟨h3,h4⟩:=h2 trivial
  have e2:∀K',lN P id f H op K'=mD (cE id f H op) fun p=>K' p.1 p.2 (eQ f op):=by intro K';cases op<;>first|rfl|exact absurd ⟨_,_,rfl⟩ hc
  rw[e2,h4 f fun x hx=>hF.raw x hx]
  exact⟨_,CF hF h3,h1⟩
theorem vF {id:Nat} {g:Bool} {ov:Ov} {fr:Fr} {H:Hp} {op:dM} {K:AV->List Nat->Prop} (h:iL P id g (fB ov fr) H op K):
 ∃r S,K r S/\(g=true->∀f,pO f ov fr->∀K':AV->Option (Nat×e8)->List Nat->Prop,(∀S',(∀x∈S',x∈S)->K' r none S')->lN P id f H op K'):=by
 by_cases hc:∃g as,op= .call g as
 ·obtain⟨fo,as,rfl⟩:=hc
  simp only[iL] at h
  obtain⟨h1,h2⟩:=cN h
  obtain⟨h3,h4⟩:=fD h2
  split at h4
  ·rename_i he
   rw[iA] at h4
   obtain⟨r,S,h5,h6⟩:=h4.ok
   refine⟨r,S,h6,fun hg f hF K' hK'=>⟨r,none,S, ?_,hK' S fun _ h=>h⟩⟩
   rw[hF.raw fo (h1 hg),ku (R:=fB ov fr) fun x hx=>hF.raw x (h3 hg x hx),he]
   simpa[ny] using h5 hg
  ·exact h4.elim
 ·have e1:iL P id g (fB ov fr) H op K=pD (some g) H (fB ov fr) id op fun r u=>match u with|none=>K r (EE (fB ov fr) op)|some _=>False:=by cases op<;>first|rfl|exact absurd ⟨_,_,rfl⟩ hc
  rw[e1] at h
  obtain⟨r,u,h1,h2⟩:=jd h
  cases u with
  |some p=>exact h1.elim
  |none=>
   refine⟨r,_,h1,fun hg f hF K' hK'=> ?_⟩
   obtain⟨h3,h4⟩:=h2 hg
   have e2:lN P id f H op K'=mD (cE id f H op) fun p=>K' p.1 p.2 (eQ f op):=by cases op<;>first|rfl|exact absurd ⟨_,_,rfl⟩ hc
   rw[e2,h4 f fun x hx=>hF.raw x hx]
   exact hK' _ (CF hF h3)
theorem fi:∀{gs:List gS} {id:Nat} {ov:Ov} {f fr:Fr} {H:Hp} {tr tr':Tr} {K:Ov->Hp->Tr->Prop},pO f ov fr->C3 tr' tr->WD P id gs ov fr H tr K->iV P id gs f H tr' (fun f1 H1 tr1=>∃ov1 trj,pO f1 ov1 fr/\C3 tr1 trj/\K ov1 H1 trj)
 |[],id,ov,f,fr,H,tr,tr',K,hF,hT,h=>⟨ov,tr,hF,hT,h⟩
 |g::gs,id,ov,f,fr,H,tr,tr',K,hF,hT,h=>by
  have join:∀{q t:Bool} {d:Nat} {want:Bool},g.guard=some (d,want)->(q=true->cc f d= .sc (.bool t))->(q=false->cc f d= .sc undef)->∀{gg:Bool},(gg=true↔(q=true/\t=want))->
   (iL P id gg (fB ov fr) H g.op fun r S=>WD P (id+1) gs (gQ ov g.dst (some gg) r) fr H (tr++[(S,none)]) K)->iV P id (g::gs) f H tr' (fun f1 H1 tr1=>∃ov1 trj,pO f1 ov1 fr/\C3 tr1 trj/\K ov1 H1 trj):=by
   intro q t d want hg hq1 hq2 gg hgg hJ
   obtain⟨r,S,h1,h2⟩:=vF hJ
   simp only[iV,hg,dR]
   cases q with
   |true=>
    simp only[hq1 rfl]
    by_cases ht:t=want
    ·rw[if_pos ht]
     have hgt:=hgg.2 ⟨rfl,ht⟩
     refine h2 hgt f hF _ fun S' hS=> ?_
     exact fi (hF.ow g.dst (u:=r) (fun _=>rfl) fun h=>by rw[hgt] at h;cases h) (hT.snoc hS) h1
    ·rw[if_neg ht]
     have hgf:gg=false:=by cases hgg':gg<;>simp_all
     exact fi (hF.ow g.dst (u:= .sc undef) (fun h=>by rw[hgf] at h;cases h) fun _=>rfl) (hT.snoc (a:=[]) (b:=S) (fun _ h=>by cases h)) h1
   |false=>
    simp only[hq2 rfl]
    have hgf:gg=false:=by cases hgg':gg<;>simp_all
    have:=fi (hF.ow g.dst (u:= .sc undef) (q:=gg) (fun h=>by rw[hgf] at h;cases h) fun _=>rfl) (hT.snoc (a:=[]) (b:=S) (fun _ h=>by cases h)) h1
    exact this
  have h:nz P g gs (fun id ov fr H tr K=>WD P id gs ov fr H tr K) id ov fr H tr K:=h
  simp only[nz] at h
  split at h
  ·rename_i hg
   simp only[iV,hg,dR]
   refine(oA h hF).mono ?_
   rintro r u S' ⟨S,hS,hh⟩
   exact fi (hF.put g.dst r) (hT.snoc hS) hh
  ·rename_i d want hg
   have hd:=hF d
   split at h
   ·rename_i t he
    rw[he] at hd
    simp only at hd
    rcases h.ok with⟨hA,hB⟩|hJ
    ·simp only[iV,hg,dR,hd]
     by_cases ht:t=want
     ·rw[if_pos ht]
      refine(oA (hA ht) hF).mono ?_
      rintro r u S' ⟨S,hS,hh⟩
      exact fi (hF.put g.dst r) (hT.snoc hS) hh
     ·rw[if_neg ht]
      exact fi (hF.put g.dst _) (hT.snoc (a:=[]) (b:=[]) (fun _ h=>h)) (hB ht)
    ·cases want with
     |true=>exact join (q:=true) hg (fun _=>hd) (fun h=>by cases h) (gg:=t) (by simp) hJ
     |false=>exact join (q:=true) hg (fun _=>hd) (fun h=>by cases h) (gg:= !t) (by simp) hJ
   ·rename_i q t he
    rw[he] at hd
    simp only at hd
    cases want with
    |true=>exact join hg hd.1 hd.2 (gg:=q&&t) (by simp) h
    |false=>exact join hg hd.1 hd.2 (gg:=q&& !t) (by simp) h
   ·rename_i v he
    rw[he] at hd
    simp only at hd
    simp only[iV,hg,dR,hd]
    exact fi (hF.put g.dst _) (hT.snoc (a:=[]) (b:=[]) (fun _ h=>h)) h
   ·exact h.elim
theorem kC:∀{segs:List tG} {nx:Nat} {ov:Ov} {f fr:Fr} {H:Hp} {K:Ov->Hp->Nat->Prop},pO f ov fr->WS P nx segs ov fr H K->gy P nx segs f H (fun f1 H1 nx1=>∃ov1,pO f1 ov1 fr/\K ov1 H1 nx1)
 |[],nx,ov,f,fr,H,K,hF,h=>⟨ov,hF,h⟩
 |⟨[g],ps⟩::rest,nx,ov,f,fr,H,K,hF,h=>by
  have h:C5 P nx [g] ov fr H fun ov' H' nx'=>WS P nx' rest ov' fr H' K:=h
  refine fH.mono (K':=fun a b c=>gy P c rest a b _) (fP hF h) ?_
  rintro f1 H1 nx1 ⟨ov1,h1,h2⟩
  exact kC h1 h2
 |⟨[],[]⟩::rest,nx,ov,f,fr,H,K,hF,h=>by
  have h:WE P nx [] ov fr H [] fun ov' H' _=>WS P (nx+0) rest ov' fr H' K:=h
  rw[wY,List.reverse_nil] at h
  simp only[gy]
  refine iV.mono (fi hF (tr':=[]) (tr:=[]) trivial h) ?_
  rintro f1 H1 tr1 ⟨ov1,trj,h1,h2,h3⟩
  exact⟨(fun p hp=>by cases hp),kC h1 h3⟩
 |⟨[],p::ps⟩::rest,nx,ov,f,fr,H,K,hF,h=>by
  have h:WE P nx [] ov fr H [] fun ov' H' tr=>Ask (iO tr.reverse (p::ps))/\WS P (nx+0) rest ov' fr H' K:=h
  rw[wY,List.reverse_nil] at h
  simp only[List.reverse_reverse] at h
  simp only[gy]
  refine iV.mono (fi hF (tr':=[]) (tr:=[]) trivial h) ?_
  rintro f1 H1 tr1 ⟨ov1,trj,h1,h2,h3⟩
  exact⟨h2.DN h3.1.ok,kC h1 h3.2⟩
 |⟨g1::g2::gs,[]⟩::rest,nx,ov,f,fr,H,K,hF,h=>by
  have h:WE P nx (g1::g2::gs) ov fr H [] fun ov' H' _=>WS P (nx+(g1::g2::gs).length) rest ov' fr H' K:=h
  rw[wY,List.reverse_nil] at h
  simp only[gy]
  refine iV.mono (fi hF (tr':=[]) (tr:=[]) trivial h) ?_
  rintro f1 H1 tr1 ⟨ov1,trj,h1,h2,h3⟩
  exact⟨(fun p hp=>by cases hp),kC h1 h3⟩
 |⟨g1::g2::gs,p::ps⟩::rest,nx,ov,f,fr,H,K,hF,h=>by
  have h:WE P nx (g1::g2::gs) ov fr H [] fun ov' H' tr=>Ask (iO tr.reverse (p::ps))/\WS P (nx+(g1::g2::gs).length) rest ov' fr H' K:=h
  rw[wY,List.reverse_nil] at h
  simp only[List.reverse_reverse] at h
  simp only[gy]
  refine iV.mono (fi hF (tr':=[]) (tr:=[]) trivial h) ?_
  rintro f1 H1 tr1 ⟨ov1,trj,h1,h2,h3⟩
  exact⟨h2.DN h3.1.ok,kC h1 h3.2⟩
theorem Holds.less {w0:World} {M0:Nat->Prop} {c0:Cx} {lo n:Nat} {fr fr':Fr} {H:Hp} {nx:Nat} {a:Act} {w:World} (h:Holds w0 M0 c0 lo n fr H nx a w) (hf:∀t,cc fr' t= .any\/cc fr' t=cc fr t):Holds w0 M0 c0 lo n fr' H nx a w:=by
 obtain⟨h1,h2,ρ,U,hU,hS,hF,hT⟩:=h
 refine⟨h1,h2,ρ,U,hU,hS,fun t=> ?_,hT⟩
 rcases hf t with h|h
 ·rw[h,VR];trivial
 ·rw[h];exact hF t
theorem WL.less {n lo:Nat} {lc:LC} {fr:Fr} {H:Hp} {nx:Nat} {Q:QT} (h:WL P n lo lc fr H nx (fun e f H nx=>∃f',(∀t,cc f' t= .any\/cc f' t=cc f t)/\Q e f' H nx)):WL P n lo lc fr H nx Q:=
 fun code hc w0 M0 c0 a w hh=>Code.wp_mono (fun _ _ _ ⟨x,f,H,nx,he,⟨f',h1,h2⟩,hhh⟩=>⟨x,f',H,nx,he,h2,hhh.less h1⟩) (h code hc w0 M0 c0 a w hh)
theorem pO.less {f:Fr} {ov:Ov} {fr:Fr} (h:pO f ov fr) (t:Nat):cc (gk ov fr) t= .any\/cc (gk ov fr) t=cc f t:=by
 rcases nW (ov:=ov) (fr:=fr) (t:=t) with h1|⟨v,h1,h2⟩
 ·exact .inl h1
 ·have:=h t
  rw[h1] at this
  exact .inr (h2.trans this.symm)
theorem gx.of {segs:List tG} {fr:Fr} {H:Hp} {nx:Nat} {Q:QT} (h:WS P nx segs [] fr H fun ov H' nx'=>Q .normal (gk ov fr) H' nx'):gx P segs fr H nx Q:=
 ⟨fun _ _=>WL.less (WL.drawn (gy.mono (kC (pO.refl fr) h) fun _ _ _ ⟨_,h1,h2⟩=>⟨_,h1.less,h2⟩))⟩
theorem ew {n lo:Nat}:∀{lc:LC} {fr:Fr} {H:Hp} {nx:Nat} {Q:QT},W P n lo lc fr H nx Q->WL P n lo lc fr H nx Q
 | .skip,_,_,_,_,h=>WL.skip h
 | .ret,_,_,_,_,h=>WL.ret h
 | .exit _,_,_,_,_,h=>WL.exit h
 | .region gs,fr,H,nx,Q,h=>WL.less (WL.region (fH.mono (fP (pO.refl fr) h) fun _ _ _ ⟨_,h1,h2⟩=>⟨_,h1.less,h2⟩))
 | .drawn segs,fr,H,nx,Q,h=>gx.ok (P:=P) h n lo
 | .seq a b,fr,H,nx,Q,h=>WL.seq ((ew (lc:=a) (Q:=gw (fun fr H nx=>W P n lo b fr H nx Q) Q) h).mono fun e fr H nx hh=>by
  cases e with
  |normal=>exact ew (lc:=b) hh
  |exit id=>exact hh
  |ret=>exact hh)
 | .cond c a b,fr,H,nx,Q,h=>by
  have h:yk c a b (W P n lo a) (W P n lo b) fr H nx Q:=h
  simp only[yk] at h
  split at h
  ·rename_i t ht
   exact WL.cond ht (fun h1=>ew (lc:=a) (h.ok.1 h1)) (fun h1=>ew (lc:=b) (h.ok.2 h1))
  ·rename_i ht
   exact WL.OE ht (ew (lc:=a) h.1) (ew (lc:=b) h.2)
  ·exact h.elim
 | .block id a,fr,H,nx,Q,h=>WL.block (ew (lc:=a) h)
 | .loop a,fr,H,nx,Q,h=>h.ok
theorem iF.inv {n lo:Nat} {x:LC} {fr:Fr} {H:Hp} {nx:Nat} {Q:QT} {σ:Type} (I:σ->Fr->Hp->Nat->Prop) (μ:σ->Nat) (s0:σ) (h0:∃fr',(∀t,cc fr' t= .any\/cc fr' t=cc fr t)/\I s0 fr' H nx)
 (round:∀s fr H nx,I s fr H nx->WL P n lo x fr H nx (gw (fun fr' H' nx'=>∃s',μ s'<μ s/\∃fr2,(∀t,cc fr2 t= .any\/cc fr2 t=cc fr' t)/\I s' fr2 H' nx') Q)):iF P n lo x fr H nx Q:=by
 refine⟨fun code hc w0 M0 c0 a w hh=> ?_⟩
 have:∃c1,code= .loop c1/\cq P n c1=some x:=by
  cases code<;>simp only[cq] at hc
  case loop c1=>
   simp only[Option.map_eq_some_iff,LC.loop.injEq] at hc
   obtain⟨x',h1,rfl⟩:=hc
   exact⟨c1,rfl,h1⟩
  all_goals (exfalso;repeat' (split at hc))<;>simp at hc
 obtain⟨c1,rfl,h1⟩:=this
 intro b k cs
 have key:∀m,∀s,μ s=m->∀fr H nx,I s fr H nx->∀a w,Holds w0 M0 c0 lo n fr H nx a w->
  ∃e a' w',LQ w0 M0 c0 lo n Q e a' w'/\Arrives P (lone (b.at a (.code c1:: .inLoop c1::k)) cs w) b k cs e a' w':=by
  intro m
  induction m using Nat.strongRecOn with
  |_ m ih=>
   intro s hs fr H nx hI a w hh
   obtain⟨e,a1,w1,hq,harr⟩:=round s fr H nx hI c1 h1 w0 M0 c0 a w hh b (.inLoop c1::k) cs
   obtain⟨x',fr',H',nx',rfl,hQ,hh'⟩:=hq
   cases x' with
   |normal=>
    obtain⟨s',hlt,fr2,hless,hI'⟩:=hQ
    obtain⟨e2,a2,w2,hq2,harr2⟩:=ih (μ s') (by omega) s' rfl fr2 H' nx' hI' a1 w1 (hh'.less hless)
    exact⟨e2,a2,w2,hq2, .of_steps (Steps.trans harr (.one step_inLoop)) harr2⟩
   |exit id=>exact⟨_,a1,w1,⟨.exit id,fr',H',nx',rfl,hQ,hh'⟩, .pass (x:= .inLoop c1) rfl (fun _ _=> .inl (by simp[Ex.to])) harr⟩
   |ret=>exact⟨_,a1,w1,⟨.ret,fr',H',nx',rfl,hQ,hh'⟩, .pass (x:= .inLoop c1) rfl (fun _ _=> .inl (by simp[Ex.to])) harr⟩
 obtain⟨fr',hless,hI⟩:=h0
 obtain⟨e,a',w',hq,harr⟩:=key _ s0 rfl fr' H nx hI a w (hh.less hless)
 exact⟨e,a',w',hq, .of_steps (.one step_loop) harr⟩
def j5 (fr:Fr):Fr->Prop
 |[]=>True
 |(t,v)::r=>cc fr t=v/\j5 fr r
theorem gL {fr:Fr}:∀{fr':Fr},j5 fr fr'->∀t,cc fr' t= .any\/cc fr' t=cc fr t
 |[],_,t=> .inl rfl
 |(d,v)::r,h,t=>by
  simp only[cc]
  by_cases ht:t=d
  ·subst ht;rw[if_pos rfl];exact .inr h.1.symm
  ·rw[if_neg ht];exact gL h.2 t
theorem iF.fr {n lo:Nat} {x:LC} {fr:Fr} {H:Hp} {nx:Nat} {Q:QT} {σ:Type} (F:σ->Fr) (I:σ->Hp->Nat->Prop) (μ:σ->Nat) (s0:σ) (h0:j5 fr (F s0)) (h1:I s0 H nx)
 (round:∀s H nx,I s H nx->W P n lo x (F s) H nx (gw (fun fr' H' nx'=>∃s',μ s'<μ s/\j5 fr' (F s')/\I s' H' nx') Q)):iF P n lo x fr H nx Q:=by
 refine iF.inv (fun s fr H nx=>fr=F s/\I s H nx) μ s0 ⟨F s0,gL h0,rfl,h1⟩ ?_
 rintro s fr H nx ⟨rfl,hI⟩
 refine(ew (round s H nx hI)).mono ?_
 intro e fr' H' nx' hh
 cases e with
 |normal=>
  obtain⟨s',h2,h3,h4⟩:=hh
  exact⟨s',h2,F s',gL h3,rfl,h4⟩
 |exit id=>exact hh
 |ret=>exact hh
end
end Go.cp
end
