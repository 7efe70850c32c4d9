import Derived.Test.YtjopoheligmmoaaGreatDoorM9
section
/- A run by reduction alone: the code is walked by the reducer; what is to be shown stands out as questions. -/
set_option linter.unusedSimpArgs false
set_option linter.unusedVariables false
namespace Go.cZ
open Go.RowKit
structure Ask (p:Prop):Prop where
 ok:p
def dy:Option Bool→Prop→Prop
 |none,p=>Ask p
 |some g,p=>Ask (g=true→p)
def Gd:Option Bool→Prop
 |none=>True
 |some g=>g=true
theorem cY {g:Option Bool} {p:Prop}:dy g p↔(Gd g→p):=by
 cases g with
 |none=>exact⟨fun h _=>h.ok,fun h=>⟨h trivial⟩⟩
 |some g=>exact⟨fun h=>h.ok,fun h=>⟨h⟩⟩
abbrev Ov:=List (Nat×Option Bool×AV)
def qC:Ov→Fr→Nat→Option Bool×AV
 |[],fr,t=>(none,cc fr t)
 |(d,c,v)::r,fr,t=>bif Nat.beq t d then(c,v) else qC r fr t
def gW (ov:Ov) (d:Option Nat) (c:Option Bool) (v:AV):Ov:=
 match d with
 |some d=>(d,c,v)::ov
 |none=>ov
def gq:Ov→Fr→Fr
 |[],fr=>fr
 |(d,none,v)::r,fr=>(d,v)::gq r fr
 |(d,some _,_)::r,fr=>(d, .any)::gq r fr
def fC (ov:Ov) (fr:Fr):eA→Option Bool×AV
 | .t n=>qC ov fr n
 | .c v=>(none, .sc v)
 | .f n=>(none, .fn (.func n) [] [])
 | .m nm n=>match qC ov fr n with
  |(g, .l9 t v)=>(g, .fn (.method nm) [.l9 t v] [])
  |(g,_)=>(g, .any)
theorem rG {t d:Nat} (h:¬t=d):Nat.beq t d=false:=by
 cases hb:Nat.beq t d with
 |false=>rfl
 |true=>exact absurd (Nat.eq_of_beq_eq_true hb) h
def pc (f:Fr) (ov:Ov) (fr:Fr):Prop:=
 ∀t,match qC ov fr t with
  |(none,v)=>cc f t=v
  |(some q,v)=>(q=true→cc f t=v)∧(q=false→cc f t= .sc undef)
theorem pc.refl (fr:Fr):pc fr [] fr:=fun _=>rfl
theorem pc.put {f:Fr} {ov:Ov} {fr:Fr} (h:pc f ov fr) (d:Option Nat) (v:AV):pc (fP f d v) (gW ov d none v) fr:=by
 cases d with
 |none=>exact h
 |some d=>
  intro t
  simp only[gW,fP,qC,cc]
  by_cases ht:t=d
  ·subst ht;simp
  ·have:Nat.beq t d=false:=rG ht
   rw[this,if_neg ht];exact h t
theorem pc.pO {f:Fr} {ov:Ov} {fr:Fr} (h:pc f ov fr) (d:Option Nat) {q:Bool} {u v:AV} (h1:q=true→u=v) (h2:q=false→u= .sc undef):pc (fP f d u) (gW ov d (some q) v) fr:=by
 cases d with
 |none=>exact h
 |some d=>
  intro t
  simp only[gW,fP,qC,cc]
  by_cases ht:t=d
  ·subst ht;simpa using⟨h1,h2⟩
  ·have:Nat.beq t d=false:=rG ht
   rw[this,if_neg ht];exact h t
theorem pc.raw {f:Fr} {ov:Ov} {fr:Fr} (h:pc f ov fr) (x:eA) (hq:∀q,(fC ov fr x).1=some q→q=true):ev f x=(fC ov fr x).2:=by
 cases x with
 |t n=>
  have:=h n
  simp only[ev,fC] at hq ⊢
  split at this
  ·rename_i v he;rw[this,he]
  ·rename_i q v he;rw[he] at hq ⊢;exact this.1 (hq q rfl)
 |c v=>rfl
 |f n=>rfl
 |m nm n=>
  have:=h n
  simp only[ev,fC] at hq ⊢
  generalize qC ov fr n=x at this hq ⊢
  obtain⟨g,v⟩:=x
  have hv:cc f n=v:=by
   cases g with
   |none=>exact this
   |some q=>
    refine this.1 (hq q ?_)
    cases v<;>rfl
  rw[hv]
  cases v<;>rfl
theorem nu {fr:Fr} {t:Nat}:∀{ov:Ov},cc (gq ov fr) t= .any∨∃v,qC ov fr t=(none,v)∧cc (gq ov fr) t=v
 |[]=> .inr ⟨_,rfl,rfl⟩
 |(d,none,v)::r=>by
  simp only[gq,cc,qC]
  by_cases ht:t=d
  ·subst ht;simp
  ·have:Nat.beq t d=false:=rG ht
   rw[this,if_neg ht];exact nu
 |(d,some q,v)::r=>by
  simp only[gq,cc,qC]
  by_cases ht:t=d
  ·subst ht;simp
  ·have:Nat.beq t d=false:=rG ht
   rw[this,if_neg ht];exact nu
abbrev Raw:=eA→Option Bool×AV
def dB (g:Option Bool) (R:Raw) (x:eA) (K:AV→Prop):Prop:=
 match R x with
 |(none,v)=>K v
 |(some q,v)=>dy g (q=true)∧K v
def KB (R:Raw) (x:eA):Prop:=∀q,(R x).1=some q→q=true
theorem cN {g:Option Bool} {R:Raw} {x:eA} {K:AV→Prop} (h:dB g R x K):(Gd g→KB R x)∧K (R x).2:=by
 unfold dB at h
 split at h
 ·rename_i v he;rw[he];exact⟨fun _ q hq=>(by rw[he] at hq;cases hq),h⟩
 ·rename_i q v he
  rw[he]
  exact⟨fun hg q' hq=>(by rw[he] at hq;cases hq;exact cY.1 h.1 hg),h.2⟩
def B9 (K:List AV→Prop):Prop:=K []
def xr (g:Option Bool) (R:Raw) (x:eA) (_:List eA) (ih:(List AV→Prop)→Prop) (K:List AV→Prop):Prop:=dB g R x fun a=>ih fun as=>K (a::as)
noncomputable def jy (g:Option Bool) (R:Raw) (xs:List eA):(List AV→Prop)→Prop:=List.rec (motive:=fun _=>(List AV→Prop)→Prop) B9 (xr g R) xs
theorem fE {g:Option Bool} {R:Raw}:∀{xs:List eA} {K:List AV→Prop},jy g R xs K→(Gd g→∀x∈xs,KB R x)∧K (xs.map fun x=>(R x).2)
 |[],K,h=>⟨fun _ _ h=>(by cases h),h⟩
 |x::r,K,h=>by
  obtain⟨h1,h2⟩:=cN h
  obtain⟨h3,h4⟩:=fE h2
  refine⟨fun hg y hy=> ?_,h4⟩
  rcases List.mem_cons.1 hy with rfl|hy
  ·exact h1 hg
  ·exact h3 hg y hy
theorem lI {f:Fr} {R:Raw}:∀{xs:List eA},(∀x∈xs,ev f x=(R x).2)→qd f xs=xs.map fun x=>(R x).2
 |[],_=>rfl
 |x::r,h=>by
  simp only[qd,List.map_cons]
  rw[h x (by simp),lI fun y hy=>h y (by simp[hy])]
def fk (v:AV) (K:AV→Prop):Prop:=
 match v with
 | .sc v=>K (.sc v)
 | .any=>K .any
 | .im a b c=>K (.im a b c)
 | .ip a b c d e=>K (.ip a b c d e)
 | .sl a b=>K (.sl a b)
 | .pt a b c d=>K (.pt a b c d)
 | .zc=>K .zc
 | .agg a=>K (.agg a)
 | .dK a=>K (.dK a)
 | .fn a b c=>K (.fn a b c)
 | .l9 a b=>K (.l9 a b)
 | .mp a=>K (.mp a)
 | .ab=>K .ab
 | .sv a b c d=>K (.sv a b c d)
theorem ed (v:AV) (K:AV→Prop):fk v K=K v:=by cases v<;>rfl
def CC (K:List AV→Prop):Prop:=K []
def xz (a:AV) (_:List AV) (ih:(List AV→Prop)→Prop) (K:List AV→Prop):Prop:=ih fun r'=>K (a::r')
noncomputable def qB (l:List AV):(List AV→Prop)→Prop:=List.rec (motive:=fun _=>(List AV→Prop)→Prop) CC xz l
theorem iH:∀(l:List AV) (K:List AV→Prop),qB l K=K l
 |[],_=>rfl
 |a::r,K=>iH r fun r'=>K (a::r')
structure gB (H:Hp) (b:Nat) (K:TypeId→Nat→AV→List AV→Prop):Prop where
 ok:∃e sz d es,bu H b=some (.row e sz d es)∧K e sz d es
theorem gB.of {H:Hp} {b:Nat} {K:TypeId→Nat→AV→List AV→Prop} {e:TypeId} {sz:Nat} {d:AV} {es:List AV} (h:bu H b=some (.row e sz d es)) (k:K e sz d es):gB H b K:=⟨⟨e,sz,d,es,h,k⟩⟩
structure pb (es:List AV) (i:Nat) (d:AV) (K:AV→Prop):Prop where
 ok:K (es.getD i d)
theorem pb.of {es:List AV} {i:Nat} {d:AV} {K:AV→Prop} {e:AV} (h:es.getD i d=e) (k:K e):pb es i d K:=⟨by rw[h];exact k⟩
structure jJ {α:Type} (x:Option α) (K:α→Prop):Prop where
 ok:∃a,x=some a∧K a
theorem jJ.of {α:Type} {x:Option α} {K:α→Prop} {a:α} (h:x=some a) (k:K a):jJ x K:=⟨⟨a,h,k⟩⟩
structure jK {α:Type} (g:Option Bool) (x:Option α) (K:α→Prop):Prop where
 ok:∃a,(Gd g→x=some a)∧K a
theorem jK.of {α:Type} {g:Option Bool} {x:Option α} {K:α→Prop} {a:α} (h:Gd g→x=some a) (k:K a):jK g x K:=⟨⟨a,h,k⟩⟩
structure qZ (H:Hp) (b:Nat) (K:TypeId→AV→List AV→Prop):Prop where
 ok:∃e d es,bu H b=some (.row e 0 d (mapA es))∧K e d es
theorem qZ.of {H:Hp} {b:Nat} {K:TypeId→AV→List AV→Prop} {e:TypeId} {d:AV} {es:List AV} (h:bu H b=some (.row e 0 d (mapA es))) (k:K e d es):qZ H b K:=⟨⟨e,d,es,h,k⟩⟩
def HX (H:Hp) (v:AV) (K:Nat→TypeId→AV→List AV→Prop):Prop:=
 match v with
 | .mp b=>qZ H b (K b)
 |_=>False
theorem ky {H:Hp} {v:AV} {K:Nat→TypeId→AV→List AV→Prop} (h:HX H v K):∃b e d es,mapOf H v=some (b,e,d,es)∧K b e d es:=by
 cases v<;>simp only[HX] at h
 obtain⟨e,d,es,h1,h2⟩:=h.ok
 exact⟨_,e,d,es,by simp only[mapOf,h1,mapA],h2⟩
structure ta (g:Option Bool) (k:IntKind) (n:Int) (K:Int→Prop):Prop where
 ok:∃m,(Gd g→k.wrap n=m)∧K m
theorem ta.of {g:Option Bool} {k:IntKind} {n:Int} {K:Int→Prop} {m:Int} (h:Gd g→k.wrap n=m) (hK:K m):ta g k n K:=⟨⟨m,h,hK⟩⟩
section
variable (g:Option Bool) (H:Hp)
def ldW (ag:Bool) (k:Nat) (e:AV) (sz off:Nat) (K:AV→Prop):Prop:=
 match ag with
 |true=>match e with
  | .agg cs=>bif Nat.beq off 0&&Nat.beq k sz then K (.agg cs) else dy g (off+k≤cs.length)∧K (.agg ((cs.drop off).take k))
  |_=>False
 |false=>match e with
  | .agg cs=>pb cs off .any fun v=>fk v K
  | .any=>K .any
  |e=>bif one e then fk e K else False
def lookW (v:AV) (K:Nat→AV→Nat→Prop):Prop:=
 match v with
 | .ip sz d es i off=>pb es i d fun e=>K sz e off
 | .pt b len i off=>gB H b fun _ sz d es=>dy g (es.length=len)∧pb es i d fun e=>K sz e off
 |_=>False
def sN (k:Nat) (v:AV) (K:List AV→Prop):Prop:=
 match v with
 | .im sz _ es=>bif Nat.beq sz k then K es else False
 | .sl b len=>gB H b fun _ sz _ es=>dy g (es.length=len∧sz=k)∧K es
 | .sc (.slice none 0 0)=>K []
 | .zc=>K []
 | .sv b len lo n=>gB H b fun _ sz _ es=>dy g (es.length=len∧sz=k)∧K ((es.drop lo).take n)
 |_=>False
noncomputable def pW (R:Raw) (id:Nat) (op:dM) (K:AV→Option (Nat×eU)→Prop):Prop:=
 match op with
 | .mv x=>dB g R x fun a=>fk a fun a=>K a none
 | .pick c a b=>dB g R c fun v=>match v with
  | .sc (.bool t)=>
   let rest:=fun(_:Unit)=>fk (pM t (R a).2 (R b).2) fun v=>K v none
   let r2:=fun(_:Unit)=>match(R b).1 with
    |none=>rest ()
    |some q=>dy g (t=false→q=true)∧rest ()
   match(R a).1 with
   |none=>r2 ()
   |some q=>dy g (t=true→q=true)∧r2 ()
  |_=>False
 | .alloc e sz ag z=>dy g (z.length=sz)∧K (.pt id 1 0 0) (some (id, .row e sz (gM ag z) [gM ag z]))
 | .box e sz ag x=>dB g R x fun v=>dy g (fits ag sz v=true)∧K (.pt id 1 0 0) (some (id, .row e sz .any [v]))
 | .XG z parts=>jy g R (parts.map (·.2.2)) fun as=>jJ (mC (z.map .sc) (List.zipWith (fun p a=>(p.1,p.2.1,a)) parts as)) fun cs=>K (.agg cs) none
 | .UK e sz ag z n parts=>jy g R (parts.map (·.2)) fun as=>
  dy g (z.length=sz∧(List.zipWith (fun p a=>(p.1,a)) parts as).all (fun p=>decide (p.1<n)&&fits ag sz p.2)=true)∧
  K (.sl id n) (some (id, .row e sz (gM ag z) ((List.zipWith (fun p a=>(p.1,a)) parts as).foldl (fun l p=>l.set p.1 p.2) (List.replicate n (gM ag z)))))
 | .ld ag k x=>dB g R x fun v=>lookW g H v fun sz e off=>ldW g ag k e sz off fun r=>K r none
 | .st ag k x y=>dB g R x fun v=>dB g R y fun yv=>match v with
  | .pt b len i off=>gB H b fun e sz d es=>dy g (es.length=len)∧pb es i d fun gR=>jJ (W3 ag k gR yv sz off) fun e'=>K .any (some (b, .row e sz d (es.set i e')))
  |_=>False
 | .WN x=>dB g R x fun v=>match v with
  | .pt b len i off=>K (.pt b len i off) none
  | .ip sz d es i off=>K (.ip sz d es i off) none
  | .fn (.func f) p q=>K (.fn (.func f) p q) none
  | .l9 t v=>K (.l9 t v) none
  |_=>False
 | .bin op x y=>dB g R x fun a=>dB g R y fun b=>match op,a,b with
  | .add, .sc (.int k a), .sc (.int k' b)=>dy g (k=k')∧ta g k (a+b) fun m=>K (.sc (.int k m)) none
  | .sub, .sc (.int k a), .sc (.int k' b)=>dy g (k=k')∧ta g k (a - b) fun m=>K (.sc (.int k m)) none
  | .mul, .sc (.int k a), .sc (.int k' b)=>dy g (k=k')∧ta g k (a * b) fun m=>K (.sc (.int k m)) none
  | .eql, .sc (.int k a), .sc (.int k' b)=>dy g (k=k')∧K (.sc (.bool (decide (a=b)))) none
  | .neq, .sc (.int k a), .sc (.int k' b)=>dy g (k=k')∧K (.sc (.bool (decide (a≠b)))) none
  | .lss, .sc (.int k a), .sc (.int k' b)=>dy g (k=k')∧K (.sc (.bool (decide (a<b)))) none
  | .leq, .sc (.int k a), .sc (.int k' b)=>dy g (k=k')∧K (.sc (.bool (decide (a≤b)))) none
  | .gtr, .sc (.int k a), .sc (.int k' b)=>dy g (k=k')∧K (.sc (.bool (decide (b<a)))) none
  | .geq, .sc (.int k a), .sc (.int k' b)=>dy g (k=k')∧K (.sc (.bool (decide (b≤a)))) none
  | .quo, .sc (.int k a), .sc (.int k' b)=>dy g (k=k'∧b≠0)∧K (.sc (.int k (k.wrap (a.tdiv b)))) none
  | .rem, .sc (.int k a), .sc (.int k' b)=>dy g (k=k'∧b≠0)∧K (.sc (.int k (a.tmod b))) none
  | .and, .sc (.int k a), .sc (.int k' b)=>dy g (k=k')∧K (.sc (.int k (k.wrap (BitVec.ofInt k.bits a&&& BitVec.ofInt k.bits b).toNat))) none
  | .or, .sc (.int k a), .sc (.int k' b)=>dy g (k=k')∧K (.sc (.int k (k.wrap (BitVec.ofInt k.bits a|||BitVec.ofInt k.bits b).toNat))) none
  | .xor, .sc (.int k a), .sc (.int k' b)=>dy g (k=k')∧K (.sc (.int k (k.wrap (BitVec.ofInt k.bits a^^^BitVec.ofInt k.bits b).toNat))) none
  | .andNot, .sc (.int k a), .sc (.int k' b)=>dy g (k=k')∧K (.sc (.int k (k.wrap (BitVec.ofInt k.bits a&&& ~~~(BitVec.ofInt k.bits b)).toNat))) none
  | .shl, .sc (.int k a), .sc (.int _ b)=>dy g (0≤b)∧K (.sc (.int k (k.wrap (a * 2^(min b.toNat k.bits))))) none
  | .shr, .sc (.int k a), .sc (.int _ b)=>dy g (0≤b)∧K (.sc (.int k (a.fdiv (2^(min b.toNat k.bits))))) none
  |_,_,_=>False
 | .XI neg x y=>dB g R x fun a=>dB g R y fun b=>match a,b with
  | .sc (.bool p), .sc (.bool q)=>(match neg with
   |true=>K (.sc (.bool (p != q))) none
   |false=>K (.sc (.bool (p==q))) none)
  |_,_=>False
 | .u9 neg x y=>dB g R x fun a=>dB g R y fun b=>match a,b with
  | .sc (.string p), .sc (.string q)=>(match neg with
   |true=>K (.sc (.bool (p != q))) none
   |false=>K (.sc (.bool (p==q))) none)
  |_,_=>False
 | .IB op x y=>dB g R x fun a=>dB g R y fun b=>match a,b with
  | .sc (.string p), .sc (.string q)=>(match op with
   | .add=>dy g (p.size+q.size≤9223372036854775807)∧K (.sc (.string (p++q))) none
   | .lss=>K (.sc (.bool (Op.bytesLess p.toList q.toList))) none
   |_=>False)
  |_,_=>False
 | .Q4 sz ag z x=>dB g R x fun v=>match v with
  | .sv b len lo n=>gB H b fun e s d es=>dy g (es.length=len∧s=sz∧lo+n≤len)∧K (.dK []) (some (b, .row e s d (es.take lo++List.replicate n (gM ag z)++es.drop (lo+n))))
  |_=>False
 | .VK x=>dB g R x fun v=>sN g H 1 v fun xs=>jK g (lD xs) fun ns=>K (.sc (.string (T1 ns))) none
 | .un op x=>dB g R x fun a=>match op,a with
  | .not, .sc (.bool b)=>K (.sc (.bool !b)) none
  | .neg, .sc (.int k n)=>ta g k (0 - n) fun m=>K (.sc (.int k m)) none
  |_,_=>False
 | .X8 k x=>dB g R x fun a=>match a with
  | .sc (.int _ n)=>ta g k n fun m=>K (.sc (.int k m)) none
  |_=>False
 | .fa off x=>dB g R x fun a=>match a with
  | .ip sz d es i o=>dy g (o+off<sz)∧K (.ip sz d es i (o+off)) none
  | .pt b len i o=>gB H b fun _ sz _ es=>dy g (es.length=len∧o+off<sz)∧K (.pt b len i (o+off)) none
  |_=>False
 | .ia k n x i=>dB g R x fun v=>dB g R i fun iv=>match iv with
  | .sc (.int _ j)=>
   (match n with
    |none=>match v with
     | .im sz d es=>dy g (k=sz)∧dy g (0≤j∧j<es.length)∧K (.ip sz d es j.toNat 0) none
     | .sl b len=>gB H b fun _ sz _ es=>dy g (es.length=len∧k=sz)∧dy g (0≤j∧j<len)∧K (.pt b len j.toNat 0) none
     | .sv b len lo m=>gB H b fun _ sz _ es=>dy g (es.length=len∧k=sz)∧dy g (0≤j∧j<m)∧K (.pt b len (lo+j.toNat) 0) none
     |_=>False
    |some m=>match v with
     | .ip sz d es i off=>dy g (off+m * k≤sz)∧dy g (0≤j∧j<m)∧K (.ip sz d es i (off+j.toNat * k)) none
     | .pt b len i off=>gB H b fun _ sz _ es=>dy g (es.length=len∧off+m * k≤sz)∧dy g (0≤j∧j<m)∧K (.pt b len i (off+j.toNat * k)) none
     |_=>False)
  |_=>False
 | .YE off k ag x=>dB g R x fun v=>match v with
  | .agg cs=>(match ag with
   |true=>dy g (off+k≤cs.length)∧K (.agg ((cs.drop off).take k)) none
   |false=>dy g (off+k≤cs.length∧k=1)∧pb cs off .any fun v=>fk v fun v=>K v none)
  |_=>False
 | .ix k ag n x i=>dB g R x fun v=>dB g R i fun iv=>match v,iv with
  | .agg cs, .sc (.int _ j)=>dy g (n * k=cs.length)∧dy g (0≤j∧j<n)∧(match ag with
   |true=>K (.agg ((cs.drop (j.toNat * k)).take k)) none
   |false=>dy g (k=1)∧pb cs (j.toNat * k) .any fun v=>fk v fun v=>K v none)
  |_,_=>False
 | .YM x i=>dB g R x fun v=>dB g R i fun iv=>match v,iv with
  | .sc (.string s), .sc (.int _ j)=>dy g (0≤j∧j<s.size)∧K (.sc (.int .u8 (s.data.toList.getD j.toNat 0).toNat)) none
  |_,_=>False
 | .lens x=>dB g R x fun v=>match v with
  | .sc (.string s)=>K (.sc (.int .i64 s.size)) none
  |_=>False
 | .WK e sz bytes ag z l c=>dB g R l fun lv=>dB g R c fun cv=>match lv,cv with
  | .sc (.int _ n), .sc (.int _ m)=>dy g (z.length=sz∧n=m)∧dy g (0≤n∧n * bytes≤281474976710656∧n≤9223372036854775807)∧
   K (.sl id n.toNat) (some (id, .row e sz (gM ag z) (List.replicate n.toNat (gM ag z))))
  |_,_=>False
 | .ext i x=>dB g R x fun v=>match v with
  | .dK vs=>dy g (i<vs.length)∧pb vs i .any fun v=>fk v fun v=>K v none
  |_=>False
 | .XN f first caps=>jy g R first fun a=>jy g R caps fun b=>K (.fn f a b) none
 | .YU t x=>dB g R x fun v=>K (.l9 t v) none
 | .len x=>dB g R x fun v=>match v with
  | .im _ _ es=>K (.sc (.int .i64 (es.length:Int))) none
  | .sl b len=>gB H b fun _ _ _ es=>dy g (es.length=len)∧K (.sc (.int .i64 (len:Int))) none
  | .sc (.slice none 0 0)=>K (.sc (.int .i64 0)) none
  | .zc=>K (.sc (.int .i64 0)) none
  | .sv _ _ _ n=>K (.sc (.int .i64 (n:Int))) none
  |_=>False
 | .app e sz bytes ag z s x=>dB g R s fun sv=>dB g R x fun xv=>sN g H sz xv fun xs=>dy g (z.length=sz)∧match sv with
  | .sc (.slice none 0 0)=>dy g (xs.length * bytes≤iZ)∧K (.sl id xs.length) (some (id, .row e sz (gM ag z) xs))
  | .sl b len=>gB H b fun e' sz' d es=>dy g (es.length=len∧e'=e∧sz'=sz)∧dy g ((len+xs.length) * bytes≤iZ)∧K (.sl b (len+xs.length)) (some (b, .row e sz d (es++xs)))
  |_=>False
 | .LY e bytes z s x=>dB g R s fun sv=>dB g R x fun xv=>match xv with
  | .sc (.string q)=>(match sv with
   | .sc (.slice none 0 0)=>dy g ((cO q).length * bytes≤iZ)∧K (.sl id (cO q).length) (some (id, .row e 1 z (cO q)))
   | .sl b len=>gB H b fun e' sz' d es=>dy g (es.length=len∧e'=e∧sz'=1)∧dy g ((len+(cO q).length) * bytes≤iZ)∧K (.sl b (len+(cO q).length)) (some (b, .row e 1 d (es++cO q)))
   |_=>False)
  |_=>False
 | .J7 neg x=>dB g R x fun v=>match v with
  | .pt _ _ _ _=>K (.sc (.bool neg)) none
  | .ip _ _ _ _ _=>K (.sc (.bool neg)) none
  | .sc (.pointer none)=>K (.sc (.bool !neg)) none
  |_=>False
 | .AD neg x=>dB g R x fun v=>jJ (tD H v) fun t=>fk (qp neg t) fun v=>K v none
 | .eqs neg ks x y=>dB g R x fun a=>dB g R y fun b=>match a,b with
  | .agg as, .agg bs=>jJ (MR ks as bs) fun t=>(match neg with
   |true=>K (.sc (.bool !t)) none
   |false=>K (.sc (.bool t)) none)
  |_,_=>False
 | .UI e n=>K (.pt id n 0 0) (some (id, .row e 1 (.sc (.int .u8 0)) (List.replicate n (.sc (.int .u8 0)))))
 | .bad=>False
 | .V8 n x i=>dB g R x fun v=>dB g R i fun iv=>match v,iv with
  | .pt b len 0 0, .sc (.int _ j)=>gB H b fun _ sz _ es=>dy g (len=n∧es.length=n∧sz=1)∧dy g (0≤j∧j<n)∧K (.pt b n j.toNat 0) none
  |_,_=>False
 | .WZ n x i=>dB g R x fun v=>dB g R i fun iv=>match v,iv with
  | .pt b len 0 0, .sc (.int _ j)=>gB H b fun _ sz _ es=>dy g (len=n∧es.length=n∧sz=1)∧dy g (0≤j∧j<n)∧K (.sv b n j.toNat (n - j.toNat)) none
  |_,_=>False
 | .XP sz x h m=>dB g R x fun v=>dB g R h fun a=>dB g R m fun b=>jJ (KQ sz a b v) fun r=>fk r fun r=>K r none
 | .TV sz x lo hi=>dB g R x fun v=>jy g R (lo.toList++hi.toList) fun bs=>
  jJ (tO H sz (match lo with|some _=>bs[0]?|none=>none) (match hi with|some _=>(match lo with|some _=>bs[1]?|none=>bs[0]?)|none=>none) v) fun r=>fk r fun r=>K r none
 | .Q8 sz x y=>dB g R x fun xv=>dB g R y fun yv=>match xv with
  | .sl b len=>sN g H sz yv fun xs=>gB H b fun e s d es=>dy g (es.length=len∧s=sz)∧
   K (.sc (.int .i64 (Nat.min xs.length len:Nat))) (some (b, .row e s d (xs.take (Nat.min xs.length len)++es.drop (Nat.min xs.length len))))
  |_=>False
 | .call _ _=>False
 | .UW kt=>K (.mp id) (some (id, .row kt 0 .any (mapA [])))
 | .S5 str ag z ok x k=>dB g R x fun v=>dB g R k fun kv=>match kv with
  | .sc kv=>HX H v fun _ _ _ es=>dy g (jd str kv=true)∧jK g (mK str kv es (gM ag z)) fun p=>match ok with
   |true=>K (.dK [p.1, .sc (.bool p.2)]) none
   |false=>fk p.1 fun v=>K v none
  |_=>False
 | .LG str x k y=>dB g R x fun v=>dB g R k fun kv=>dB g R y fun yv=>match kv with
  | .sc kv=>HX H v fun b e d es=>dy g (jd str kv=true)∧jK g (pD str kv es yv) fun es'=>K .any (some (b, .row e 0 d (mapA es')))
  |_=>False
 | .CV x=>dB g R x fun v=>HX H v fun _ _ _ es=>K (.sc (.int .i64 (es.length:Nat))) none
 | .del str x k=>dB g R x fun v=>dB g R k fun kv=>match kv with
  | .sc kv=>HX H v fun b e d es=>dy g (jd str kv=true)∧jK g (YT str kv es) fun es'=>K (.dK []) (some (b, .row e 0 d (mapA es')))
  |_=>False
 | .IA sz v=>K (.agg (List.replicate sz (.sc v))) none
 | .xZ e sz v=>K (.pt id 1 0 0) (some (id, .row e sz (.agg (List.replicate sz (.sc v))) [.agg (List.replicate sz (.sc v))]))
 | .Y7 t ok ag z x=>dB g R x fun v=>match v with
  | .l9 t' v=>(bif Nat.beq t' t then(match ok with
   |true=>K (.dK [v, .sc (.bool true)]) none
   |false=>fk v fun v=>K v none) else(match ok with
   |true=>K (.dK [gM ag z, .sc (.bool false)]) none
   |false=>False))
  |_=>False
end
theorem E5 {f:Fr} {R:Raw}:∀{ps:List (Nat×Nat×eA)},(∀x∈ps.map (·.2.2),ev f x=(R x).2)→UO f ps=List.zipWith (fun p a=>(p.1,p.2.1,a)) ps ((ps.map (·.2.2)).map fun x=>(R x).2)
 |[],_=>rfl
 |(i,j,x)::ps,h=>by
  simp only[UO,List.map_cons,List.zipWith_cons_cons]
  rw[h x (by simp),E5 fun y hy=>h y (by simp only[List.map_cons,List.mem_cons];exact .inr hy)]
theorem E7 {f:Fr} {R:Raw}:∀{ps:List (Nat×eA)},(∀x∈ps.map (·.2),ev f x=(R x).2)→E6 f ps=List.zipWith (fun p a=>(p.1,a)) ps ((ps.map (·.2)).map fun x=>(R x).2)
 |[],_=>rfl
 |(i,x)::ps,h=>by
  simp only[E6,List.map_cons,List.zipWith_cons_cons]
  rw[h x (by simp),E7 fun y hy=>h y (by simp only[List.map_cons,List.mem_cons];exact .inr hy)]
theorem JK {g:Option Bool} {ag:Bool} {k:Nat} {e:AV} {sz off:Nat} {K:AV→Prop} (h:ldW g ag k e sz off K):∃r,K r∧(Gd g→yZ ag k e sz off=some r):=by
 unfold ldW at h
 cases ag with
 |true=>
  simp only at h
  cases e
  case agg cs=>
   simp only at h
   by_cases hb:off=0∧k=sz
   ·have hb':(Nat.beq off 0&&Nat.beq k sz)=true:=by
     obtain⟨rfl,rfl⟩:=hb;simp
    rw[hb'] at h
    exact⟨_,h,fun _=>by simp[yZ,hb.1,hb.2]⟩
   ·have hb':(Nat.beq off 0&&Nat.beq k sz)=false:=by
     cases hc:(Nat.beq off 0&&Nat.beq k sz) with
     |false=>rfl
     |true=>
      rw[Bool.and_eq_true] at hc
      exact absurd ⟨Nat.eq_of_beq_eq_true hc.1,Nat.eq_of_beq_eq_true hc.2⟩ hb
    rw[hb'] at h
    simp only[cond_false] at h
    refine⟨_,h.2,fun hg=> ?_⟩
    have h1:=cY.1 h.1 hg
    simp only[yZ,if_true]
    rw[if_neg hb,if_pos h1]
  all_goals exact h.elim
 |false=>
  have gen:∀e:AV,(bif one e then fk e K else False)→(yZ false k e sz off=if one e then some e else none)→∃r,K r∧(Gd g→yZ false k e sz off=some r):=by
   intro e h1 h2
   cases ho:one e with
   |true=>rw[ho,cond_true,ed] at h1;exact⟨_,h1,fun _=>by rw[h2,ho];rfl⟩
   |false=>rw[ho] at h1;exact h1.elim
  cases e
  case agg cs=>
   simp only at h
   have:=h.ok
   rw[ed] at this
   exact⟨_,this,fun _=>by simp[yZ]⟩
  case any=>exact⟨_,h,fun _=>by simp[yZ]⟩
  all_goals exact gen _ h rfl
theorem zo {g:Option Bool} {H:Hp} {v:AV} {K:Nat→AV→Nat→Prop} (h:lookW g H v K):∃sz e off,K sz e off∧(Gd g→jf H v=some (sz,e,off)):=by
 unfold lookW at h
 split at h
 ·exact⟨_,_,_,h.ok,fun _=>rfl⟩
 ·obtain⟨e,sz,d,es,h1,h2,h3⟩:=h.ok
  refine⟨_,_,_,h3.ok,fun hg=> ?_⟩
  simp only[jf,h1]
  rw[if_pos (cY.1 h2 hg)]
 ·exact h.elim
theorem lG {g:Option Bool} {H:Hp} {k:Nat} {v:AV} {K:List AV→Prop} (h:sN g H k v K):∃es,K es∧(Gd g→gk H v=some es∧AZ H k v=true):=by
 unfold sN at h
 split at h
 ·rename_i sz d es
  cases hb:Nat.beq sz k with
  |true=>rw[hb] at h;exact⟨_,h,fun _=>⟨rfl,by simpa[AZ] using hb⟩⟩
  |false=>rw[hb] at h;exact h.elim
 ·obtain⟨e,sz,d,es,h1,h2,h3⟩:=h.ok
  refine⟨_,h3,fun hg=> ?_⟩
  obtain⟨g1,g2⟩:=cY.1 h2 hg
  simp[gk,AZ,h1,g1,g2]
 ·exact⟨_,h,fun _=>⟨rfl,rfl⟩⟩
 ·exact⟨_,h,fun _=>⟨rfl,rfl⟩⟩
 ·obtain⟨e,sz,d,es,h1,h2,h3⟩:=h.ok
  refine⟨_,h3,fun hg=> ?_⟩
  obtain⟨g1,g2⟩:=cY.1 h2 hg
  simp[gk,AZ,h1,g1,g2]
 ·exact h.elim
set_option maxHeartbeats 4000000 in
theorem jo {g:Option Bool} {H:Hp} {R:Raw} {id:Nat} {op:dM} {K:AV→Option (Nat×eU)→Prop} (h:pW g H R id op K):
 ∃r u,K r u∧(Gd g→(op.rd=true→∀x∈op.eD,KB R x)∧∀f,(∀x,KB R x→ev f x=(R x).2)→cC id f H op=some (r,u)):=by
 cases op
 case mv x=>
  obtain⟨h1,h2⟩:=cN h
  rw[ed] at h2
  exact⟨_,_,h2,fun hg=>⟨fun hr=>by simp[dM.rd] at hr,fun f hf=>by simp only[cC,hf x (h1 hg)]⟩⟩
 case pick c a b=>
  obtain⟨h1,h2⟩:=cN h
  split at h2
  ·rename_i t ht
   simp only[ed] at h2
   have key:∀{q:Option Bool} {p:Prop} {A:Prop},(match q with|none=>A|some q=>dy g (p→q=true)∧A)→A∧(Gd g→p→∀q',q=some q'→q'=true):=by
    intro q p A h
    cases q with
    |none=>exact⟨h,fun _ _ _ hq=>by cases hq⟩
    |some q=>exact⟨h.2,fun hg hp q' hq=>by cases hq;exact cY.1 h.1 hg hp⟩
   obtain⟨h3,ha⟩:=key h2
   obtain⟨h4,hb⟩:=key h3
   refine⟨_,_,h4,fun hg=>⟨fun hr=>by simp[dM.rd] at hr,fun f hf=> ?_⟩⟩
   simp only[cC,hf c (h1 hg),ht]
   congr 2
   cases t with
   |true=>rw[tH,tH,hf a (ha hg rfl)]
   |false=>rw[qn,qn,hf b (hb hg rfl)]
  ·exact h2.elim
 case alloc e sz ag z=>
  refine⟨_,_,h.2,fun hg=>⟨fun hr=>by simp[dM.rd] at hr,fun f hf=> ?_⟩⟩
  simp only[cC];rw[if_pos (cY.1 h.1 hg)]
 case box e sz ag x=>
  obtain⟨h1,h2⟩:=cN h
  refine⟨_,_,h2.2,fun hg=>⟨fun hr=>by simp[dM.rd] at hr,fun f hf=> ?_⟩⟩
  simp only[cC,hf x (h1 hg)];rw[if_pos (cY.1 h2.1 hg)]
 case XG z ps=>
  obtain⟨h1,h2⟩:=fE h
  obtain⟨cs,h3,h4⟩:=h2.ok
  refine⟨_,_,h4,fun hg=>⟨fun hr=>by simp[dM.rd] at hr,fun f hf=> ?_⟩⟩
  simp only[cC]
  rw[E5 (R:=R) fun x hx=>hf x (h1 hg x hx),h3]
 case UK e sz ag z n ps=>
  obtain⟨h1,h2⟩:=fE h
  refine⟨_,_,h2.2,fun hg=>⟨fun hr=>by simp[dM.rd] at hr,fun f hf=> ?_⟩⟩
  have h3:=cY.1 h2.1 hg
  simp only[cC]
  rw[E7 (R:=R) fun x hx=>hf x (h1 hg x hx),if_pos h3]
 case ld ag k x=>
  obtain⟨h1,h2⟩:=cN h
  obtain⟨sz,e,off,h3,h4⟩:=zo h2
  obtain⟨r,h5,h6⟩:=JK h3
  refine⟨_,_,h5,fun hg=>⟨fun _ y hy=>by simp[dM.eD] at hy;subst hy;exact h1 hg,fun f hf=> ?_⟩⟩
  simp only[cC,hf x (h1 hg),h4 hg,h6 hg,Option.map_some]
 case st ag k x y=>
  obtain⟨h1,h2⟩:=cN h
  obtain⟨h3,h4⟩:=cN h2
  split at h4
  ·rename_i b len i off hx
   obtain⟨e,sz,d,es,g1,g2,g3⟩:=h4.ok
   obtain⟨e',g4,g5⟩:=g3.ok.ok
   refine⟨_,_,g5,fun hg=>⟨fun _ z hz=>by simp[dM.eD] at hz;rcases hz with rfl|rfl;exact h1 hg;exact h3 hg,fun f hf=> ?_⟩⟩
   simp only[cC,hf x (h1 hg),hf y (h3 hg),hx,g1,g4]
   rw[if_pos (cY.1 g2 hg)]
  ·exact h4.elim
 case WN x=>
  obtain⟨h1,h2⟩:=cN h
  split at h2
  all_goals first
   |exact h2.elim
   |(rename_i hx;exact⟨_,_,h2,fun hg=>⟨fun hr=>by simp[dM.rd] at hr,fun f hf=>by simp only[cC,hf x (h1 hg),hx]⟩⟩)
 case bin op x y=>
  obtain⟨h1,h2⟩:=cN h
  obtain⟨h3,h4⟩:=cN h2
  split at h4
  all_goals first
   |exact h4.elim
   |(rename_i hx hy;obtain⟨q1,q2⟩:=h4;obtain⟨m,q3,q4⟩:=q2.ok;refine⟨_,_,q4,fun hg=>⟨fun hr=>by simp[dM.rd] at hr,fun f hf=> ?_⟩⟩;simp only[cC,hf x (h1 hg),hf y (h3 hg),hx,hy,H9];rw[if_pos (cY.1 q1 hg),q3 hg];rfl)
   |(rename_i hx hy;refine⟨_,_,h4.2,fun hg=>⟨fun hr=>by simp[dM.rd] at hr,fun f hf=> ?_⟩⟩;simp only[cC,hf x (h1 hg),hf y (h3 hg),hx,hy,H9];rw[if_pos (cY.1 h4.1 hg)];rfl)
 case XI neg x y=>
  obtain⟨h1,h2⟩:=cN h
  obtain⟨h3,h4⟩:=cN h2
  split at h4
  ·rename_i p q hx hy
   cases neg
   all_goals exact⟨_,_,h4,fun hg=>⟨fun hr=>by simp[dM.rd] at hr,fun f hf=>by simp[cC,hf x (h1 hg),hf y (h3 hg),hx,hy]⟩⟩
  ·exact h4.elim
 case u9 neg x y=>
  obtain⟨h1,h2⟩:=cN h
  obtain⟨h3,h4⟩:=cN h2
  split at h4
  ·rename_i p q hx hy
   cases neg
   all_goals exact⟨_,_,h4,fun hg=>⟨fun hr=>by simp[dM.rd] at hr,fun f hf=>by simp[cC,hf x (h1 hg),hf y (h3 hg),hx,hy]⟩⟩
  ·exact h4.elim
 case IB op x y=>
  obtain⟨h1,h2⟩:=cN h
  obtain⟨h3,h4⟩:=cN h2
  split at h4
  ·rename_i p q hx hy
   cases op
   case add=>exact⟨_,_,h4.2,fun hg=>⟨fun hr=>by simp[dM.rd] at hr,fun f hf=>by simp only[cC,hf x (h1 hg),hf y (h3 hg),hx,hy,P1];rw[if_pos (cY.1 h4.1 hg)];rfl⟩⟩
   case lss=>exact⟨_,_,h4,fun hg=>⟨fun hr=>by simp[dM.rd] at hr,fun f hf=>by simp only[cC,hf x (h1 hg),hf y (h3 hg),hx,hy,P1];rfl⟩⟩
   all_goals exact h4.elim
  ·exact h4.elim
 case Q4 sz ag z x=>
  obtain⟨h1,h2⟩:=cN h
  split at h2
  ·rename_i b len lo n hx
   obtain⟨e,s,d,es,q1,q2,q3⟩:=h2.ok
   exact⟨_,_,q3,fun hg=>⟨fun hr y hy=>by simp[dM.eD] at hy;subst hy;exact h1 hg,fun f hf=>by
    simp only[cC,hf x (h1 hg),hx,q1];rw[if_pos (cY.1 q2 hg)]⟩⟩
  ·exact h2.elim
 case VK x=>
  obtain⟨h1,h2⟩:=cN h
  obtain⟨xs,h3,h4⟩:=lG h2
  obtain⟨ns,h5,h6⟩:=h3.ok
  exact⟨_,_,h6,fun hg=>⟨fun hr y hy=>by simp[dM.eD] at hy;subst hy;exact h1 hg,fun f hf=>by
   obtain⟨q1,q2⟩:=h4 hg
   simp only[cC,hf x (h1 hg),q1,q2,if_true,h5 hg,Option.map_some]⟩⟩
 case un op x=>
  obtain⟨h1,h2⟩:=cN h
  split at h2
  all_goals first
   |exact h2.elim
   |(rename_i hx;obtain⟨m,q3,q4⟩:=h2.ok;exact⟨_,_,q4,fun hg=>⟨fun hr=>by simp[dM.rd] at hr,fun f hf=>by simp only[cC,hf x (h1 hg),hx,Y9,Option.map_some,q3 hg]⟩⟩)
   |(rename_i hx;exact⟨_,_,h2,fun hg=>⟨fun hr=>by simp[dM.rd] at hr,fun f hf=>by simp only[cC,hf x (h1 hg),hx,Y9,Option.map_some]⟩⟩)
 case X8 k x=>
  obtain⟨h1,h2⟩:=cN h
  split at h2
  all_goals first
   |exact h2.elim
   |(rename_i hx;obtain⟨m,q3,q4⟩:=h2.ok;exact⟨_,_,q4,fun hg=>⟨fun hr=>by simp[dM.rd] at hr,fun f hf=>by simp only[cC,hf x (h1 hg),hx,q3 hg]⟩⟩)
 case fa off x=>
  obtain⟨h1,h2⟩:=cN h
  have hr:Gd g→((dM.fa off x).rd=true→∀y∈(dM.fa off x).eD,KB R y):=fun hg _ y hy=>by simp[dM.eD] at hy;subst hy;exact h1 hg
  split at h2
  ·rename_i hx
   refine⟨_,_,h2.2,fun hg=>⟨hr hg,fun f hf=> ?_⟩⟩
   simp only[cC,hf x (h1 hg),hx];rw[if_pos (cY.1 h2.1 hg)]
  ·rename_i hx
   obtain⟨e,sz,d,es,g1,g2,g3⟩:=h2.ok
   refine⟨_,_,g3,fun hg=>⟨hr hg,fun f hf=> ?_⟩⟩
   simp only[cC,hf x (h1 hg),hx,g1];rw[if_pos (cY.1 g2 hg)]
  ·exact h2.elim
 case ia k n x i=>
  obtain⟨h1,h2⟩:=cN h
  obtain⟨h3,h4⟩:=cN h2
  have hr:Gd g→((dM.ia k n x i).rd=true→∀y∈(dM.ia k n x i).eD,KB R y):=fun hg _ y hy=>by simp[dM.eD] at hy;rcases hy with rfl|rfl;exact h1 hg;exact h3 hg
  split at h4
  ·rename_i kk j hi
   cases n with
   |none=>
    simp only at h4
    split at h4
    ·rename_i hx
     refine⟨_,_,h4.2.2,fun hg=>⟨hr hg,fun f hf=> ?_⟩⟩
     simp only[cC,hf x (h1 hg),hf i (h3 hg),hx,hi,LD]
     rw[if_pos ⟨cY.1 h4.1 hg,cY.1 h4.2.1 hg⟩];rfl
    ·rename_i hx
     obtain⟨e,sz,d,es,g1,g2,g3,g4⟩:=h4.ok
     refine⟨_,_,g4,fun hg=>⟨hr hg,fun f hf=> ?_⟩⟩
     obtain⟨q1,q2⟩:=cY.1 g2 hg
     simp only[cC,hf x (h1 hg),hf i (h3 hg),hx,hi,LD,g1]
     rw[if_pos ⟨q1,q2,cY.1 g3 hg⟩];rfl
    ·rename_i hx
     obtain⟨e,sz,d,es,g1,g2,g3,g4⟩:=h4.ok
     refine⟨_,_,g4,fun hg=>⟨hr hg,fun f hf=> ?_⟩⟩
     obtain⟨q1,q2⟩:=cY.1 g2 hg
     simp only[cC,hf x (h1 hg),hf i (h3 hg),hx,hi,LD,g1]
     rw[if_pos ⟨q1,q2,cY.1 g3 hg⟩];rfl
    ·exact h4.elim
   |some m=>
    simp only at h4
    split at h4
    ·rename_i hx
     refine⟨_,_,h4.2.2,fun hg=>⟨hr hg,fun f hf=> ?_⟩⟩
     simp only[cC,hf x (h1 hg),hf i (h3 hg),hx,hi,LD]
     rw[if_pos ⟨cY.1 h4.1 hg,cY.1 h4.2.1 hg⟩];rfl
    ·rename_i hx
     obtain⟨e,sz,d,es,g1,g2,g3,g4⟩:=h4.ok
     refine⟨_,_,g4,fun hg=>⟨hr hg,fun f hf=> ?_⟩⟩
     obtain⟨q1,q2⟩:=cY.1 g2 hg
     simp only[cC,hf x (h1 hg),hf i (h3 hg),hx,hi,LD,g1]
     rw[if_pos ⟨q1,q2,cY.1 g3 hg⟩];rfl
    ·exact h4.elim
  ·exact h4.elim
 case YE off k ag x=>
  obtain⟨h1,h2⟩:=cN h
  split at h2
  ·rename_i cs hx
   cases ag with
   |true=>
    refine⟨_,_,h2.2,fun hg=>⟨fun hr=>by simp[dM.rd] at hr,fun f hf=> ?_⟩⟩
    simp only[cC,hf x (h1 hg),hx,if_true];rw[if_pos (cY.1 h2.1 hg)]
   |false=>
    have h3:=h2.2.ok
    rw[ed] at h3
    refine⟨_,_,h3,fun hg=>⟨fun hr=>by simp[dM.rd] at hr,fun f hf=> ?_⟩⟩
    obtain⟨q1,q2⟩:=cY.1 h2.1 hg
    simp only[cC,hf x (h1 hg),hx,Bool.false_eq_true,if_false];rw[if_pos q1,if_pos q2]
  ·exact h2.elim
 case ix k ag n x i=>
  obtain⟨h1,h2⟩:=cN h
  obtain⟨h3,h4⟩:=cN h2
  split at h4
  ·rename_i cs kk j hx hi
   obtain⟨p1,p2,p3⟩:=h4
   cases ag with
   |true=>
    refine⟨_,_,p3,fun hg=>⟨fun hr=>by simp[dM.rd] at hr,fun f hf=> ?_⟩⟩
    have q2:=cY.1 p2 hg
    simp only[cC,hf x (h1 hg),hf i (h3 hg),hx,hi,if_true];rw[if_pos ⟨q2.1,q2.2,cY.1 p1 hg⟩]
   |false=>
    have h5:=p3.2.ok
    rw[ed] at h5
    refine⟨_,_,h5,fun hg=>⟨fun hr=>by simp[dM.rd] at hr,fun f hf=> ?_⟩⟩
    have q2:=cY.1 p2 hg
    simp only[cC,hf x (h1 hg),hf i (h3 hg),hx,hi,Bool.false_eq_true,if_false];rw[if_pos ⟨q2.1,q2.2,cY.1 p1 hg⟩,if_pos (cY.1 p3.1 hg)]
  ·exact h4.elim
 case YM x i=>
  obtain⟨h1,h2⟩:=cN h
  obtain⟨h3,h4⟩:=cN h2
  split at h4
  ·rename_i hx hi
   refine⟨_,_,h4.2,fun hg=>⟨fun hr=>by simp[dM.rd] at hr,fun f hf=> ?_⟩⟩
   simp only[cC,hf x (h1 hg),hf i (h3 hg),hx,hi];rw[if_pos (cY.1 h4.1 hg)]
  ·exact h4.elim
 case lens x=>
  obtain⟨h1,h2⟩:=cN h
  split at h2
  all_goals first
   |exact h2.elim
   |(rename_i hx;exact⟨_,_,h2,fun hg=>⟨fun hr=>by simp[dM.rd] at hr,fun f hf=>by simp only[cC,hf x (h1 hg),hx]⟩⟩)
 case WK e sz bytes ag z l c=>
  obtain⟨h1,h2⟩:=cN h
  obtain⟨h3,h4⟩:=cN h2
  split at h4
  ·rename_i hx hi
   refine⟨_,_,h4.2.2,fun hg=>⟨fun hr=>by simp[dM.rd] at hr,fun f hf=> ?_⟩⟩
   obtain⟨q1,q2⟩:=cY.1 h4.1 hg
   obtain⟨q3,q4,q5⟩:=cY.1 h4.2.1 hg
   simp only[cC,hf l (h1 hg),hf c (h3 hg),hx,hi];rw[if_pos ⟨q1,q3,q2,q4,q5⟩]
  ·exact h4.elim
 case ext i x=>
  obtain⟨h1,h2⟩:=cN h
  split at h2
  ·rename_i hx
   have h3:=h2.2.ok
   rw[ed] at h3
   refine⟨_,_,h3,fun hg=>⟨fun hr=>by simp[dM.rd] at hr,fun f hf=> ?_⟩⟩
   simp only[cC,hf x (h1 hg),hx];rw[if_pos (cY.1 h2.1 hg)]
  ·exact h2.elim
 case XN fn first caps=>
  obtain⟨h1,h2⟩:=fE h
  obtain⟨h3,h4⟩:=fE h2
  refine⟨_,_,h4,fun hg=>⟨fun hr=>by simp[dM.rd] at hr,fun f hf=> ?_⟩⟩
  simp only[cC]
  rw[lI (R:=R) fun x hx=>hf x (h1 hg x hx),lI (R:=R) fun x hx=>hf x (h3 hg x hx)]
 case YU t x=>
  obtain⟨h1,h2⟩:=cN h
  exact⟨_,_,h2,fun hg=>⟨fun hr=>by simp[dM.rd] at hr,fun f hf=>by simp only[cC,hf x (h1 hg)]⟩⟩
 case len x=>
  obtain⟨h1,h2⟩:=cN h
  have hr:Gd g→((dM.len x).rd=true→∀y∈(dM.len x).eD,KB R y):=fun hg _ y hy=>by simp[dM.eD] at hy;subst hy;exact h1 hg
  split at h2
  ·rename_i hx;exact⟨_,_,h2,fun hg=>⟨hr hg,fun f hf=>by simp only[cC,hf x (h1 hg),hx,sj]⟩⟩
  ·rename_i hx
   obtain⟨e,sz,d,es,g1,g2,g3⟩:=h2.ok
   refine⟨_,_,g3,fun hg=>⟨hr hg,fun f hf=> ?_⟩⟩
   simp only[cC,hf x (h1 hg),hx,sj,g1];rw[if_pos (cY.1 g2 hg)]
  ·rename_i hx;exact⟨_,_,h2,fun hg=>⟨hr hg,fun f hf=>by simp[cC,hf x (h1 hg),hx,sj]⟩⟩
  ·rename_i hx;exact⟨_,_,h2,fun hg=>⟨hr hg,fun f hf=>by simp[cC,hf x (h1 hg),hx,sj]⟩⟩
  ·rename_i hx;exact⟨_,_,h2,fun hg=>⟨hr hg,fun f hf=>by simp only[cC,hf x (h1 hg),hx,sj]⟩⟩
  ·exact h2.elim
 case app e sz bytes ag z s x=>
  obtain⟨h1,h2⟩:=cN h
  obtain⟨h3,h4⟩:=cN h2
  obtain⟨xs,⟨h5,h5'⟩,h6⟩:=lG h4
  have hr:Gd g→((dM.app e sz bytes ag z s x).rd=true→∀y∈(dM.app e sz bytes ag z s x).eD,KB R y):=fun hg _ y hy=>by simp[dM.eD] at hy;rcases hy with rfl|rfl;exact h1 hg;exact h3 hg
  split at h5'
  ·rename_i hx
   refine⟨_,_,h5'.2,fun hg=>⟨hr hg,fun f hf=> ?_⟩⟩
   obtain⟨q1,q2⟩:=h6 hg
   simp only[cC,hf s (h1 hg),hf x (h3 hg),hx,q1];rw[if_pos ⟨q2,cY.1 h5 hg⟩,if_pos (cY.1 h5'.1 hg)]
  ·rename_i hx
   obtain⟨e',sz',d,es,g1,g2,g3,g4⟩:=h5'.ok
   refine⟨_,_,g4,fun hg=>⟨hr hg,fun f hf=> ?_⟩⟩
   obtain⟨q1,q2⟩:=h6 hg
   obtain⟨q3,q4,q5⟩:=cY.1 g2 hg
   simp only[cC,hf s (h1 hg),hf x (h3 hg),hx,q1,g1];rw[if_pos ⟨q2,cY.1 h5 hg⟩,if_pos ⟨q3,q4,q5,cY.1 g3 hg⟩]
  ·exact h5'.elim
 case LY e bytes z s x=>
  obtain⟨h1,h2⟩:=cN h
  obtain⟨h3,h4⟩:=cN h2
  have hr:Gd g→((dM.LY e bytes z s x).rd=true→∀y∈(dM.LY e bytes z s x).eD,KB R y):=fun hg _ y hy=>by simp[dM.eD] at hy;rcases hy with rfl|rfl;exact h1 hg;exact h3 hg
  split at h4
  ·rename_i q hq
   split at h4
   ·rename_i hx
    refine⟨_,_,h4.2,fun hg=>⟨hr hg,fun f hf=> ?_⟩⟩
    simp only[cC,hf s (h1 hg),hf x (h3 hg),hx,hq];rw[if_pos (cY.1 h4.1 hg)]
   ·rename_i hx
    obtain⟨e',sz',d,es,g1,g2,g3,g4⟩:=h4.ok
    refine⟨_,_,g4,fun hg=>⟨hr hg,fun f hf=> ?_⟩⟩
    obtain⟨q3,q4,q5⟩:=cY.1 g2 hg
    simp only[cC,hf s (h1 hg),hf x (h3 hg),hx,hq,g1];rw[if_pos ⟨q3,q4,q5,cY.1 g3 hg⟩]
   ·exact h4.elim
  ·exact h4.elim
 case J7 neg x=>
  obtain⟨h1,h2⟩:=cN h
  split at h2
  all_goals first
   |exact h2.elim
   |(rename_i hx;exact⟨_,_,h2,fun hg=>⟨fun hr=>by simp[dM.rd] at hr,fun f hf=>by simp only[cC,hf x (h1 hg),hx]⟩⟩)
 case AD neg x=>
  obtain⟨h1,h2⟩:=cN h
  obtain⟨t,h3,h4⟩:=h2.ok
  rw[ed] at h4
  refine⟨_,_,h4,fun hg=>⟨fun _ y hy=>by simp[dM.eD] at hy;subst hy;exact h1 hg,fun f hf=> ?_⟩⟩
  simp only[cC,hf x (h1 hg),h3]
 case eqs neg ks x y=>
  obtain⟨h1,h2⟩:=cN h
  obtain⟨h3,h4⟩:=cN h2
  split at h4
  ·rename_i hx hy
   obtain⟨t,g1,g2⟩:=h4.ok
   cases neg
   all_goals exact⟨_,_,g2,fun hg=>⟨fun hr=>by simp[dM.rd] at hr,fun f hf=>by simp[cC,hf x (h1 hg),hf y (h3 hg),hx,hy,g1]⟩⟩
  ·exact h4.elim
 case TV sz x lo hi=>
  obtain⟨h1,h2⟩:=cN h
  obtain⟨h3,h4⟩:=fE h2
  obtain⟨r,g1,g2⟩:=h4.ok
  rw[ed] at g2
  refine⟨_,_,g2,fun hg=>⟨fun _ y hy=> ?_,fun f hf=> ?_⟩⟩
  ·simp only[dM.eD,List.mem_append,List.mem_singleton] at hy
   rcases hy with(rfl|hy)|hy
   ·exact h1 hg
   ·exact h3 hg y (by simp only[List.mem_append];exact .inl hy)
   ·exact h3 hg y (by simp only[List.mem_append];exact .inr hy)
  ·simp only[cC,hf x (h1 hg)]
   have e1:∀y∈lo.toList++hi.toList,ev f y=(R y).2:=fun y hy=>hf y (h3 hg y hy)
   cases lo<;>cases hi<;>simp_all
 case V8 n x i=>
  obtain⟨h1,h2⟩:=cN h
  obtain⟨h3,h4⟩:=cN h2
  split at h4
  ·rename_i b len kk j hx hi
   obtain⟨e,sz,d,es,g1,g2,g3,g4⟩:=h4.ok
   refine⟨_,_,g4,fun hg=>⟨fun _ y hy=>by simp[dM.eD] at hy;rcases hy with rfl|rfl;exact h1 hg;exact h3 hg,fun f hf=> ?_⟩⟩
   obtain⟨q1,q2,q3⟩:=cY.1 g2 hg
   obtain⟨q4,q5⟩:=cY.1 g3 hg
   simp only[cC,hf x (h1 hg),hf i (h3 hg),hx,hi,CO,g1]
   rw[if_pos ⟨q1,q2,q3,q4,q5⟩];rfl
  ·exact h4.elim
 case WZ n x i=>
  obtain⟨h1,h2⟩:=cN h
  obtain⟨h3,h4⟩:=cN h2
  split at h4
  ·rename_i b len kk j hx hi
   obtain⟨e,sz,d,es,g1,g2,g3,g4⟩:=h4.ok
   refine⟨_,_,g4,fun hg=>⟨fun _ y hy=>by simp[dM.eD] at hy;rcases hy with rfl|rfl;exact h1 hg;exact h3 hg,fun f hf=> ?_⟩⟩
   obtain⟨q1,q2,q3⟩:=cY.1 g2 hg
   obtain⟨q4,q5⟩:=cY.1 g3 hg
   simp only[cC,hf x (h1 hg),hf i (h3 hg),hx,hi,D1,g1]
   rw[if_pos ⟨q1,q2,q3,q4,q5⟩];rfl
  ·exact h4.elim
 case bad=>exact h.elim
 case UI e n=>exact⟨_,_,h,fun hg=>⟨fun hr=>by simp[dM.rd] at hr,fun f hf=>rfl⟩⟩
 case XP sz x a b=>
  obtain⟨h1,h2⟩:=cN h
  obtain⟨h3,h4⟩:=cN h2
  obtain⟨h5,h6⟩:=cN h4
  obtain⟨r,g1,g2⟩:=h6.ok
  rw[ed] at g2
  refine⟨_,_,g2,fun hg=>⟨fun _ y hy=> ?_,fun f hf=> ?_⟩⟩
  ·simp only[dM.eD,List.mem_cons,List.not_mem_nil,or_false] at hy
   rcases hy with rfl|rfl|rfl
   ·exact h1 hg
   ·exact h3 hg
   ·exact h5 hg
  ·simp only[cC,hf x (h1 hg),hf a (h3 hg),hf b (h5 hg),g1]
   rfl
 case Q8 sz x y=>
  obtain⟨h1,h2⟩:=cN h
  obtain⟨h3,h4⟩:=cN h2
  split at h4
  ·rename_i b len hx
   obtain⟨xs,h5,h6⟩:=lG h4
   obtain⟨e,s,d,es,g1,g2,g3⟩:=h5.ok
   refine⟨_,_,g3,fun hg=>⟨fun _ z hz=>by simp[dM.eD] at hz;rcases hz with rfl|rfl;exact h1 hg;exact h3 hg,fun f hf=> ?_⟩⟩
   obtain⟨q1,q2⟩:=h6 hg
   obtain⟨q3,q4⟩:=cY.1 g2 hg
   simp only[cC,hf x (h1 hg),hf y (h3 hg),hx,q1,g1];rw[if_pos ⟨q3,q4,q2⟩]
  ·exact h4.elim
 case call f as=>exact h.elim
 case UW kt=>exact⟨_,_,h,fun hg=>⟨fun hr=>by simp[dM.rd] at hr,fun f hf=>rfl⟩⟩
 case IA sz v=>exact⟨_,_,h,fun hg=>⟨fun hr=>by simp[dM.rd] at hr,fun f hf=>rfl⟩⟩
 case xZ e sz v=>exact⟨_,_,h,fun hg=>⟨fun hr=>by simp[dM.rd] at hr,fun f hf=>rfl⟩⟩
 case CV x=>
  obtain⟨h1,h2⟩:=cN h
  obtain⟨b,e,d,es,h3,h4⟩:=ky h2
  exact⟨_,_,h4,fun hg=>⟨fun _ y hy=>by simp[dM.eD] at hy;subst hy;exact h1 hg,fun f hf=>by simp only[cC,hf x (h1 hg),h3]⟩⟩
 case S5 str ag z ok x k=>
  obtain⟨h1,h2⟩:=cN h
  obtain⟨h3,h4⟩:=cN h2
  have hr:Gd g→((dM.S5 str ag z ok x k).rd=true→∀y∈(dM.S5 str ag z ok x k).eD,KB R y):=fun hg _ y hy=>by simp[dM.eD] at hy;rcases hy with rfl|rfl;exact h1 hg;exact h3 hg
  split at h4
  ·rename_i kv hk
   obtain⟨b,e,d,es,h5,h6,h7⟩:=ky h4
   obtain⟨p,h8,h9⟩:=h7.ok
   cases ok with
   |true=>
    refine⟨_,_,h9,fun hg=>⟨hr hg,fun f hf=> ?_⟩⟩
    have h10:=h8 hg
    unfold mK at h10
    simp only[cC,hf x (h1 hg),hf k (h3 hg),h5,hk]
    rw[if_pos (cY.1 h6 hg)]
    split at h10<;>simp only[Option.some.injEq,reduceCtorEq] at h10
    ·subst h10;simp_all
    ·subst h10;simp_all
   |false=>
    simp only[ed] at h9
    refine⟨_,_,h9,fun hg=>⟨hr hg,fun f hf=> ?_⟩⟩
    have h10:=h8 hg
    unfold mK at h10
    simp only[cC,hf x (h1 hg),hf k (h3 hg),h5,hk]
    rw[if_pos (cY.1 h6 hg)]
    split at h10<;>simp only[Option.some.injEq,reduceCtorEq] at h10
    ·subst h10;simp_all
    ·subst h10;simp_all
  ·exact h4.elim
 case LG str x k y=>
  obtain⟨h1,h2⟩:=cN h
  obtain⟨h3,h4⟩:=cN h2
  obtain⟨h3',h4'⟩:=cN h4
  have hr:Gd g→((dM.LG str x k y).rd=true→∀w∈(dM.LG str x k y).eD,KB R w):=fun hg _ w hy=>by simp[dM.eD] at hy;rcases hy with rfl|rfl|rfl;exact h1 hg;exact h3 hg;exact h3' hg
  split at h4'
  ·rename_i kv hk
   obtain⟨b,e,d,es,h5,h6,h7⟩:=ky h4'
   obtain⟨p,h8,h9⟩:=h7.ok
   refine⟨_,_,h9,fun hg=>⟨hr hg,fun f hf=> ?_⟩⟩
   have h10:=h8 hg
   unfold pD at h10
   simp only[cC,hf x (h1 hg),hf k (h3 hg),hf y (h3' hg),h5,hk]
   rw[if_pos (cY.1 h6 hg)]
   split at h10<;>simp only[Option.some.injEq,reduceCtorEq] at h10
   ·subst h10;simp_all[nK]
   ·subst h10;simp_all[nK]
  ·exact h4'.elim
 case del str x k=>
  obtain⟨h1,h2⟩:=cN h
  obtain⟨h3,h4⟩:=cN h2
  have hr:Gd g→((dM.del str x k).rd=true→∀y∈(dM.del str x k).eD,KB R y):=fun hg _ y hy=>by simp[dM.eD] at hy;rcases hy with rfl|rfl;exact h1 hg;exact h3 hg
  split at h4
  ·rename_i kv hk
   obtain⟨b,e,d,es,h5,h6,h7⟩:=ky h4
   obtain⟨p,h8,h9⟩:=h7.ok
   refine⟨_,_,h9,fun hg=>⟨hr hg,fun f hf=> ?_⟩⟩
   have h10:=h8 hg
   unfold YT at h10
   simp only[cC,hf x (h1 hg),hf k (h3 hg),h5,hk]
   rw[if_pos (cY.1 h6 hg)]
   split at h10<;>simp only[Option.some.injEq,reduceCtorEq] at h10
   ·subst h10;simp_all
   ·subst h10;simp_all
  ·exact h4.elim
 case Y7 t ok ag z x=>
  obtain⟨h1,h2⟩:=cN h
  split at h2
  ·rename_i t' v hx
   cases hb:Nat.beq t' t with
   |true=>
    rw[hb] at h2
    have e:=Nat.eq_of_beq_eq_true hb
    cases ok with
    |true=>
     simp only[cond_true] at h2
     exact⟨_,_,h2,fun hg=>⟨fun hr=>by simp[dM.rd] at hr,fun f hf=>by simp only[cC,hf x (h1 hg),hx];rw[if_pos e];rfl⟩⟩
    |false=>
     simp only[cond_true,ed] at h2
     exact⟨_,_,h2,fun hg=>⟨fun hr=>by simp[dM.rd] at hr,fun f hf=>by simp only[cC,hf x (h1 hg),hx];rw[if_pos e];rfl⟩⟩
   |false=>
    rw[hb] at h2
    have e:¬t'=t:=fun e=>by rw[e] at hb;simp at hb
    cases ok with
    |true=>
     simp only[cond_false] at h2
     exact⟨_,_,h2,fun hg=>⟨fun hr=>by simp[dM.rd] at hr,fun f hf=>by simp only[cC,hf x (h1 hg),hx];rw[if_neg e];rfl⟩⟩
    |false=>exact h2.elim
  ·exact h2.elim
end Go.cZ
/- Code as a whole, run by reduction alone; it is so. -/
namespace Go.cZ
open Go.RowKit
structure fI (t:Bool) (A B:Prop):Prop where
 ok:(t=true→A)∧(t=false→B)
theorem fI.lt {A B:Prop} (h:A):fI true A B:=⟨⟨fun _=>h,fun h=>(by cases h)⟩⟩
theorem fI.lf {A B:Prop} (h:B):fI false A B:=⟨⟨fun h=>(by cases h),fun _=>h⟩⟩
theorem fI.of {t:Bool} {A B:Prop} (h1:t=true→A) (h2:t=false→B):fI t A B:=⟨⟨h1,h2⟩⟩
structure eR (t want:Bool) (A B J:Prop):Prop where
 ok:((t=want→A)∧(t≠want→B))∨J
theorem eR.tt {A B J:Prop} (h:A):eR true true A B J:=⟨.inl ⟨fun _=>h,fun h=>absurd rfl h⟩⟩
theorem eR.join {t want:Bool} {A B J:Prop} (h:J):eR t want A B J:=⟨.inr h⟩
theorem eR.split {t want:Bool} {A B J:Prop} (h1:t=want→A) (h2:t= !want→B):eR t want A B J:=⟨.inl ⟨h1,fun h=>h2 (by cases t<;>cases want<;>simp_all)⟩⟩
structure iL (P:Program) (f:FuncId) (args:List AV) (H:Hp) (nx:Nat) (K:AV→Hp→Nat→Prop):Prop where
 ok:cG P f args H nx K
structure nM (P:Program) (g:Bool) (f:FuncId) (args:List AV) (H:Hp) (nx:Nat) (K:AV→Prop):Prop where
 ok:∃r,(g=true→∀(K':AV→Hp→Nat→Prop),K' r H (nx+1)→cG P f args H nx K')∧K r
structure lV (P:Program) (id:Nat) (f:FuncId) (args:List AV) (H:Hp) (K:AV→Option (Nat×eU)→List Nat→Prop):Prop where
 ok:∃r u S,nN P id (.fn (.func f) [] []) args H r u S∧K r u S
structure XV (P:Program) (t:TypeId) (v:AV) (nm:String) (args:List AV) (H:Hp) (nx:Nat) (K:AV→Hp→Nat→Prop):Prop where
 ok:uH P t v nm args H nx K
structure uG (P:Program) (g:Bool) (id:Nat) (f:FuncId) (args:List AV) (H:Hp) (K:AV→List Nat→Prop):Prop where
 ok:∃r S,(g=true→nN P id (.fn (.func f) [] []) args H r none S)∧K r S
theorem Pure.VO {P:Program} {f:FuncId} {args:List AV} {R:AV→Prop} {H:Hp} {nx:Nat} {K:AV→Hp→Nat→Prop} (h:Pure P f args R) (hf:cX 0 args) (hK:∀r,R r→K r H (nx+1)):cG P f args H nx K:=by
 have:=h.cz (H:=H) (nx:=nx) (K:=fun r H' n=>∃n',n≤n'∧K r H' n') hf fun r hr=>⟨_,Nat.le_succ _,hK r hr⟩
 refine⟨this.1,fun w0 c vs a1 a2 a3 a4=>(this.2 w0 c vs a1 a2 a3 a4).mono ?_⟩
 rintro e w' ⟨v,r,H',nx',ρ,U,he,⟨n',hn,hR⟩,hU,hrest⟩
 exact⟨v,r,H',n',ρ,U,he,hR,fun b hb=>Nat.lt_of_lt_of_le (hU b hb) hn,hrest⟩
theorem iL.pure {P:Program} {f:FuncId} {args:List AV} {R:AV→Prop} {H:Hp} {nx:Nat} {K:AV→Hp→Nat→Prop} (h:Pure P f args R) (hf:cX 0 args) (hK:∀r,R r→K r H nx):iL P f args H nx K:=⟨h.cz hf hK⟩
theorem iL.QK {P:Program} {f:FuncId} {args:List AV} {r:AV} {H:Hp} {nx:Nat} {K:AV→Hp→Nat→Prop} (h:Pure P f args (fun x=>x=r)) (hf:cX 0 args) (hK:K r H nx):iL P f args H nx K:=⟨h.cz hf fun x hx=>by rw[hx];exact hK⟩
theorem iL.of {P:Program} {f:FuncId} {args:List AV} {H:Hp} {nx:Nat} {R K:AV→Hp→Nat→Prop} (h:cG P f args H nx R) (hK:∀r H' nx',R r H' nx'→K r H' nx'):iL P f args H nx K:=⟨h.mono hK⟩
theorem nM.QK {P:Program} {g:Bool} {f:FuncId} {args:List AV} {r:AV} {H:Hp} {nx:Nat} {K:AV→Prop} (h:g=true→Pure P f args (fun x=>x=r)) (hf:cX 0 args) (hK:K r):nM P g f args H nx K:=
 ⟨⟨r,fun hg K' hK'=>(h hg).VO hf fun x hx=>by rw[hx];exact hK',hK⟩⟩
theorem lV.QK {P:Program} {id:Nat} {f:FuncId} {args:List AV} {H:Hp} {r:AV} {K:AV→Option (Nat×eU)→List Nat→Prop} (h:Pure P f args (fun x=>x=r)) (hf:cX 0 args) (hK:K r none []):lV P id f args H K:=
 ⟨⟨r,none,[],Pure.PH (by simpa using hf) (by simpa using h),hK⟩⟩
theorem uG.QK {P:Program} {g:Bool} {id:Nat} {f:FuncId} {args:List AV} {H:Hp} {r:AV} {K:AV→List Nat→Prop} (h:g=true→Pure P f args (fun x=>x=r)) (hf:cX 0 args) (hK:K r []):uG P g id f args H K:=
 ⟨⟨r,[],fun hg=>Pure.PH (by simpa using hf) (by simpa using h hg),hK⟩⟩
theorem lV.fresh {P:Program} {id:Nat} {f:FuncId} {args:List AV} {H:Hp} {r:AV} {u:Option (Nat×eU)} (S:List Nat) {K:AV→Option (Nat×eU)→List Nat→Prop}
 (h:∀H1,(∀b∈S,bu H1 b=bu H b)→kI P f args H1 id (fun r' H'=>r'=r∧H'=dC H1 u)) (hu:∀b q,u=some (b,q)→b=id) (hK:K r u S):lV P id f args H K:=
 ⟨⟨r,u,S,⟨by simpa using h,hu⟩,hK⟩⟩
section
variable (P:Program)
noncomputable def xR (nx:Nat) (R:Raw) (H:Hp) (op:dM) (K:AV→Hp→Nat→Prop):Prop:=
 match op with
 | .call f args=>dB none R f fun fv=>jy none R args fun as=>match fv with
  | .fn (.func g) first caps=>qB (first++as++caps) fun as=>iL P g as H nx K
  | .fn (.method nm) [.l9 t v] []=>qB as fun as=>XV P t v nm as H nx K
  |_=>False
 |op=>pW none H R nx op fun r u=>K r (dC H u) (nx+1)
noncomputable def ll (nx:Nat) (g:Bool) (R:Raw) (H:Hp) (op:dM) (K:AV→Prop):Prop:=
 match op with
 | .call f args=>dB (some g) R f fun fv=>jy (some g) R args fun as=>match fv with
  | .fn (.func q) first caps=>qB (first++as++caps) fun as=>nM P g q as H nx K
  |_=>False
 |op=>pW (some g) H R nx op fun r u=>match u with
  |none=>K r
  |some _=>False
abbrev EN:=Nat→Ov→Fr→Hp→(Ov→Hp→Nat→Prop)→Prop
def xT (nx:Nat) (ov:Ov) (_:Fr) (H:Hp) (K:Ov→Hp→Nat→Prop):Prop:=K ov H nx
noncomputable def pf (g:gI) (_:List gI) (ih:EN) (nx:Nat) (ov:Ov) (fr:Fr) (H:Hp) (K:Ov→Hp→Nat→Prop):Prop:=match g.guard with
 |none=>xR P nx (fC ov fr) H g.op fun r H' nx'=>ih nx' (gW ov g.dst none r) fr H' K
 |some (d,want)=>match qC ov fr d with
  |(none, .sc (.bool t))=>eR t want (xR P nx (fC ov fr) H g.op fun r H' nx'=>ih nx' (gW ov g.dst none r) fr H' K) (ih (nx+1) (gW ov g.dst none (.sc undef)) fr H K)
   (match want with
    |true=>ll P nx t (fC ov fr) H g.op fun r=>ih (nx+1) (gW ov g.dst (some t) r) fr H K
    |false=>ll P nx (!t) (fC ov fr) H g.op fun r=>ih (nx+1) (gW ov g.dst (some !t) r) fr H K)
  |(some q, .sc (.bool t))=>(match want with
   |true=>ll P nx (q&&t) (fC ov fr) H g.op fun r=>ih (nx+1) (gW ov g.dst (some (q&&t)) r) fr H K
   |false=>ll P nx (q&& !t) (fC ov fr) H g.op fun r=>ih (nx+1) (gW ov g.dst (some (q&& !t)) r) fr H K)
  |(none, .sc (.tuple _))=>ih (nx+1) (gW ov g.dst none (.sc undef)) fr H K
  |_=>False
noncomputable def H6 (nx:Nat) (gs:List gI) (ov:Ov) (fr:Fr) (H:Hp) (K:Ov→Hp→Nat→Prop):Prop:=List.rec (motive:=fun _=>EN) xT (pf P) gs nx ov fr H K
def JF (R:Raw) (op:dM):List Nat:=if op.rd then op.eD.flatMap (fun x=>gJ (R x).2) else[]
noncomputable def na (id:Nat) (R:Raw) (H:Hp) (op:dM) (K:AV→Option (Nat×eU)→List Nat→Prop):Prop:=
 match op with
 | .call f args=>dB none R f fun fv=>jy none R args fun as=>match fv with
  | .fn (.func g) first caps=>qB (first++as++caps) fun as=>lV P id g as H K
  |_=>False
 |op=>pW none H R id op fun r u=>K r u (JF R op)
noncomputable def iV (id:Nat) (g:Bool) (R:Raw) (H:Hp) (op:dM) (K:AV→List Nat→Prop):Prop:=
 match op with
 | .call f args=>dB (some g) R f fun fv=>jy (some g) R args fun as=>match fv with
  | .fn (.func q) first caps=>qB (first++as++caps) fun as=>uG P g id q as H K
  |_=>False
 |op=>pW (some g) H R id op fun r u=>match u with
  |none=>K r (JF R op)
  |some _=>False
abbrev ZJ:=Nat→Ov→Fr→Hp→Tr→(Ov→Hp→Tr→Prop)→Prop
def LN (_:Nat) (ov:Ov) (_:Fr) (H:Hp) (tr:Tr) (K:Ov→Hp→Tr→Prop):Prop:=K ov H tr
noncomputable def oR (g:gI) (_:List gI) (ih:ZJ) (id:Nat) (ov:Ov) (fr:Fr) (H:Hp) (tr:Tr) (K:Ov→Hp→Tr→Prop):Prop:=match g.guard with
 |none=>na P id (fC ov fr) H g.op fun r u S=>ih (id+1) (gW ov g.dst none r) fr (dC H u) (tr++[(S,u.map (·.1))]) K
 |some (d,want)=>match qC ov fr d with
  |(none, .sc (.bool t))=>eR t want (na P id (fC ov fr) H g.op fun r u S=>ih (id+1) (gW ov g.dst none r) fr (dC H u) (tr++[(S,u.map (·.1))]) K) (ih (id+1) (gW ov g.dst none (.sc undef)) fr H (tr++[([],none)]) K)
   (match want with
    |true=>iV P id t (fC ov fr) H g.op fun r S=>ih (id+1) (gW ov g.dst (some t) r) fr H (tr++[(S,none)]) K
    |false=>iV P id (!t) (fC ov fr) H g.op fun r S=>ih (id+1) (gW ov g.dst (some !t) r) fr H (tr++[(S,none)]) K)
  |(some q, .sc (.bool t))=>(match want with
   |true=>iV P id (q&&t) (fC ov fr) H g.op fun r S=>ih (id+1) (gW ov g.dst (some (q&&t)) r) fr H (tr++[(S,none)]) K
   |false=>iV P id (q&& !t) (fC ov fr) H g.op fun r S=>ih (id+1) (gW ov g.dst (some (q&& !t)) r) fr H (tr++[(S,none)]) K)
  |(none, .sc (.tuple _))=>ih (id+1) (gW ov g.dst none (.sc undef)) fr H (tr++[([],none)]) K
  |_=>False
noncomputable def WD (id:Nat) (gs:List gI) (ov:Ov) (fr:Fr) (H:Hp) (tr:Tr) (K:Ov→Hp→Tr→Prop):Prop:=List.rec (motive:=fun _=>ZJ) LN (oR P) gs id ov fr H tr K
noncomputable def WO (S:List Nat):(List Nat→Prop)→Prop:=List.rec (motive:=fun _=>(List Nat→Prop)→Prop) (fun K=>K []) (fun b _ ih K=>ih fun S'=>K (b::S')) S
theorem tF:∀(S:List Nat) (K:List Nat→Prop),WO S K=K S
 |[],_=>rfl
 |b::S,K=>tF S fun S'=>K (b::S')
def uW (u:Option (Nat×eU)) (K:Option Nat→Prop):Prop:=match u with
 |none=>K none
 |some (b,_)=>K (some b)
theorem Y8 (u:Option (Nat×eU)) (K:Option Nat→Prop):uW u K=K (u.map (·.1)):=by
 cases u<;>rfl
noncomputable def vi (g:gI) (_:List gI) (ih:ZJ) (id:Nat) (ov:Ov) (fr:Fr) (H:Hp) (tr:Tr) (K:Ov→Hp→Tr→Prop):Prop:=match g.guard with
 |none=>na P id (fC ov fr) H g.op fun r u S=>WO S fun S=>uW u fun x=>ih (id+1) (gW ov g.dst none r) fr (dC H u) ((S,x)::tr) K
 |some (d,want)=>match qC ov fr d with
  |(none, .sc (.bool t))=>eR t want (na P id (fC ov fr) H g.op fun r u S=>WO S fun S=>uW u fun x=>ih (id+1) (gW ov g.dst none r) fr (dC H u) ((S,x)::tr) K) (ih (id+1) (gW ov g.dst none (.sc undef)) fr H (([],none)::tr) K)
   (match want with
    |true=>iV P id t (fC ov fr) H g.op fun r S=>WO S fun S=>ih (id+1) (gW ov g.dst (some t) r) fr H ((S,none)::tr) K
    |false=>iV P id (!t) (fC ov fr) H g.op fun r S=>WO S fun S=>ih (id+1) (gW ov g.dst (some !t) r) fr H ((S,none)::tr) K)
  |(some q, .sc (.bool t))=>(match want with
   |true=>iV P id (q&&t) (fC ov fr) H g.op fun r S=>WO S fun S=>ih (id+1) (gW ov g.dst (some (q&&t)) r) fr H ((S,none)::tr) K
   |false=>iV P id (q&& !t) (fC ov fr) H g.op fun r S=>WO S fun S=>ih (id+1) (gW ov g.dst (some (q&& !t)) r) fr H ((S,none)::tr) K)
  |(none, .sc (.tuple _))=>ih (id+1) (gW ov g.dst none (.sc undef)) fr H (([],none)::tr) K
  |_=>False
noncomputable def WE (id:Nat) (gs:List gI) (ov:Ov) (fr:Fr) (H:Hp) (tr:Tr) (K:Ov→Hp→Tr→Prop):Prop:=List.rec (motive:=fun _=>ZJ) LN (vi P) gs id ov fr H tr K
theorem xP:∀(gs:List gI) (id:Nat) (ov:Ov) (fr:Fr) (H:Hp) (tr:Tr) (K:Ov→Hp→Tr→Prop),WE P id gs ov fr H tr K=WD P id gs ov fr H tr.reverse fun ov H t=>K ov H t.reverse
 |[],id,ov,fr,H,tr,K=>by
  show K ov H tr=K ov H tr.reverse.reverse
  rw[List.reverse_reverse]
 |g::gs,id,ov,fr,H,tr,K=>by
  have ih:=xP gs
  show vi P g gs (fun id ov fr H tr K=>WE P id gs ov fr H tr K) id ov fr H tr K=oR P g gs (fun id ov fr H tr K=>WD P id gs ov fr H tr K) id ov fr H tr.reverse fun ov H t=>K ov H t.reverse
  simp only[vi,oR,tF,Y8,ih,List.reverse_cons]
noncomputable def QR (s:rY) (_:List rY) (ih:EN) (nx:Nat) (ov:Ov) (fr:Fr) (H:Hp) (K:Ov→Hp→Nat→Prop):Prop:=match s.ops with
 |[g]=>H6 P nx [g] ov fr H fun ov' H' nx'=>ih nx' ov' fr H' K
 |gs=>WE P nx gs ov fr H [] fun ov' H' tr=>(match s.ps with
  |[]=>ih (nx+gs.length) ov' fr H' K
  |p::ps=>Ask (iG tr.reverse (p::ps))∧ih (nx+gs.length) ov' fr H' K)
noncomputable def WS (nx:Nat) (segs:List rY) (ov:Ov) (fr:Fr) (H:Hp) (K:Ov→Hp→Nat→Prop):Prop:=List.rec (motive:=fun _=>EN) xT (QR P) segs nx ov fr H K
structure iM (n lo:Nat) (x:LC) (fr:Fr) (H:Hp) (nx:Nat) (Q:QT):Prop where
 ok:WL P n lo (.loop x) fr H nx Q
abbrev WT:=Fr→Hp→Nat→QT→Prop
def VF (fr:Fr) (H:Hp) (nx:Nat) (Q:QT):Prop:=Q .normal fr H nx
noncomputable def LO (gs:List gI) (fr:Fr) (H:Hp) (nx:Nat) (Q:QT):Prop:=H6 P nx gs [] fr H fun ov H' nx'=>Q .normal (gq ov fr) H' nx'
structure iB (segs:List rY) (fr:Fr) (H:Hp) (nx:Nat) (Q:QT):Prop where
 ok:∀n lo,WL P n lo (.drawn segs) fr H nx Q
def QU (segs:List rY) (fr:Fr) (H:Hp) (nx:Nat) (Q:QT):Prop:=iB P segs fr H nx Q
def XX (_ _:LC) (ia ib:WT) (fr:Fr) (H:Hp) (nx:Nat) (Q:QT):Prop:=ia fr H nx (hX (fun fr H nx=>ib fr H nx Q) Q)
def BL (c:eA) (_ _:LC) (ia ib:WT) (fr:Fr) (H:Hp) (nx:Nat) (Q:QT):Prop:=match ev fr c with
 | .sc (.bool t)=>fI t (ia fr H nx Q) (ib fr H nx Q)
 | .ab=>ia fr H nx Q∧ib fr H nx Q
 |_=>False
def QS (id:Nat) (_:LC) (ia:WT) (fr:Fr) (H:Hp) (nx:Nat) (Q:QT):Prop:=ia fr H nx (vx id Q)
def VE (n lo:Nat) (a:LC) (_:WT) (fr:Fr) (H:Hp) (nx:Nat) (Q:QT):Prop:=iM P n lo a fr H nx Q
def VD (id:Nat) (fr:Fr) (H:Hp) (nx:Nat) (Q:QT):Prop:=Q (.exit id) fr H nx
def XW (fr:Fr) (H:Hp) (nx:Nat) (Q:QT):Prop:=Q .ret fr H nx
noncomputable def W (n lo:Nat) (lc:LC):WT:=LC.rec (motive:=fun _=>WT) VF (LO P) (QU P) XX BL QS (VE P n lo) VD XW lc
end
section
variable {P:Program}
theorem q9 {nx:Nat} {ov:Ov} {f fr:Fr} {H:Hp} {op:dM} {K:AV→Hp→Nat→Prop} (hF:pc f ov fr) (h:xR P nx (fC ov fr) H op K):dw P nx f H op K:=by
 by_cases hc:∃g as,op= .call g as
 ·obtain⟨fo,as,rfl⟩:=hc
  simp only[xR] at h
  obtain⟨h1,h2⟩:=cN h
  obtain⟨h3,h4⟩:=fE h2
  simp only[dw]
  rw[hF.raw fo (h1 trivial),lI (R:=fC ov fr) fun x hx=>hF.raw x (h3 trivial x hx)]
  split at h4
  ·rename_i he
   rw[he]
   rw[iH] at h4
   exact h4.ok
  ·rename_i he
   rw[he]
   rw[iH] at h4
   exact h4.ok
  ·exact h4.elim
 ·have e1:xR P nx (fC ov fr) H op K=pW none H (fC ov fr) nx op fun r u=>K r (dC H u) (nx+1):=by cases op<;>first|rfl|exact absurd ⟨_,_,rfl⟩ hc
  have e2:dw P nx f H op K=jY (cC nx f H op) fun p=>K p.1 (dC H p.2) (nx+1):=by cases op<;>first|rfl|exact absurd ⟨_,_,rfl⟩ hc
  rw[e1] at h
  obtain⟨r,u,h1,h2⟩:=jo h
  rw[e2,(h2 trivial).2 f fun x hx=>hF.raw x hx]
  exact h1
theorem vk {nx:Nat} {g:Bool} {ov:Ov} {fr:Fr} {H:Hp} {op:dM} {K:AV→Prop} (h:ll P nx g (fC ov fr) H op K):
 ∃r,K r∧(g=true→∀f,pc f ov fr→∀K':AV→Hp→Nat→Prop,K' r H (nx+1)→dw P nx f H op K'):=by
 by_cases hc:∃g as,op= .call g as
 ·obtain⟨fo,as,rfl⟩:=hc
  simp only[ll] at h
  obtain⟨h1,h2⟩:=cN h
  obtain⟨h3,h4⟩:=fE h2
  split at h4
  ·rename_i he
   rw[iH] at h4
   obtain⟨r,h5,h6⟩:=h4.ok
   refine⟨r,h6,fun hg f hF K' hK'=> ?_⟩
   simp only[dw]
   rw[hF.raw fo (h1 hg),lI (R:=fC ov fr) fun x hx=>hF.raw x (h3 hg x hx),he]
   exact h5 hg K' hK'
  ·exact h4.elim
 ·have e1:ll P nx g (fC ov fr) H op K=pW (some g) H (fC ov fr) nx op fun r u=>match u with|none=>K r|some _=>False:=by cases op<;>first|rfl|exact absurd ⟨_,_,rfl⟩ hc
  rw[e1] at h
  obtain⟨r,u,h1,h2⟩:=jo h
  cases u with
  |some p=>exact h1.elim
  |none=>
   refine⟨r,h1,fun hg f hF K' hK'=> ?_⟩
   have e2:dw P nx f H op K'=jY (cC nx f H op) fun p=>K' p.1 (dC H p.2) (nx+1):=by cases op<;>first|rfl|exact absurd ⟨_,_,rfl⟩ hc
   rw[e2,(h2 hg).2 f fun x hx=>hF.raw x hx]
   exact hK'
theorem fS:∀{gs:List gI} {nx:Nat} {ov:Ov} {f fr:Fr} {H:Hp} {K:Ov→Hp→Nat→Prop},pc f ov fr→H6 P nx gs ov fr H K→ee P nx gs f H (fun f1 H1 nx1=>∃ov1,pc f1 ov1 fr∧K ov1 H1 nx1)
 |[],nx,ov,f,fr,H,K,hF,h=>⟨ov,hF,h⟩
 |g::gs,nx,ov,f,fr,H,K,hF,h=>by
  have join:∀{q t:Bool} {d:Nat} {want:Bool},g.guard=some (d,want)→(q=true→cc f d= .sc (.bool t))→(q=false→cc f d= .sc undef)→∀{gg:Bool},(gg=true↔(q=true∧t=want))→
   (ll P nx gg (fC ov fr) H g.op fun r=>H6 P (nx+1) gs (gW ov g.dst (some gg) r) fr H K)→ee P nx (g::gs) f H (fun f1 H1 nx1=>∃ov1,pc f1 ov1 fr∧K ov1 H1 nx1):=by
   intro q t d want hg hq1 hq2 gg hgg hJ
   obtain⟨r,h1,h2⟩:=vk hJ
   simp only[ee,hg,dO]
   cases q with
   |true=>
    simp only[hq1 rfl]
    by_cases ht:t=want
    ·rw[if_pos ht]
     have hgt:=hgg.2 ⟨rfl,ht⟩
     exact h2 hgt f hF _ (fS (hF.pO g.dst (u:=r) (fun _=>rfl) fun h=>by rw[hgt] at h;cases h) h1)
    ·rw[if_neg ht]
     have hgf:gg=false:=by cases hgg':gg<;>simp_all
     exact fS (hF.pO g.dst (u:= .sc undef) (fun h=>by rw[hgf] at h;cases h) fun _=>rfl) h1
   |false=>
    simp only[hq2 rfl]
    have hgf:gg=false:=by cases hgg':gg<;>simp_all
    have:=fS (hF.pO g.dst (u:= .sc undef) (q:=gg) (fun h=>by rw[hgf] at h;cases h) fun _=>rfl) h1
    exact this
  have h:pf P g gs (fun nx ov fr H K=>H6 P nx gs ov fr H K) nx ov fr H K:=h
  simp only[pf] at h
  split at h
  ·rename_i hg
   simp only[ee,hg,dO]
   exact(q9 hF h).mono fun r H' nx' hh=>fS (hF.put g.dst r) hh
  ·rename_i d want hg
   have hd:=hF d
   split at h
   ·rename_i t he
    rw[he] at hd
    simp only at hd
    rcases h.ok with⟨hA,hB⟩|hJ
    ·simp only[ee,hg,dO,hd]
     by_cases ht:t=want
     ·rw[if_pos ht]
      exact(q9 hF (hA ht)).mono fun r H' nx' hh=>fS (hF.put g.dst r) hh
     ·rw[if_neg ht]
      exact fS (hF.put g.dst _) (hB ht)
    ·cases want with
     |true=>exact join (q:=true) hg (fun _=>hd) (fun h=>by cases h) (gg:=t) (by simp) hJ
     |false=>exact join (q:=true) hg (fun _=>hd) (fun h=>by cases h) (gg:= !t) (by simp) hJ
   ·rename_i q t he
    rw[he] at hd
    simp only at hd
    cases want with
    |true=>exact join hg hd.1 hd.2 (gg:=q&&t) (by simp) h
    |false=>exact join hg hd.1 hd.2 (gg:=q&& !t) (by simp) h
   ·rename_i v he
    rw[he] at hd
    simp only at hd
    simp only[ee,hg,dO,hd]
    exact fS (hF.put g.dst _) h
   ·exact h.elim
def HY:Tr→Tr→Prop
 |[],[]=>True
 |a::r,b::s=>(∀x∈a.1,x∈b.1)∧a.2=b.2∧HY r s
 |_,_=>False
theorem HY.snoc {a b:List Nat} {u:Option Nat} (h1:∀x∈a,x∈b):∀{r s:Tr},HY r s→HY (r++[(a,u)]) (s++[(b,u)])
 |[],[],_=>⟨h1,rfl,trivial⟩
 |x::r,y::s,h=>⟨h.1,h.2.1,HY.snoc h1 h.2.2⟩
 |[],_::_,h=>h.elim
 |_::_,[],h=>h.elim
theorem HY.get:∀{r s:Tr},HY r s→∀k,(∀x∈(r.getD k ([],none)).1,x∈(s.getD k ([],none)).1)∧(r.getD k ([],none)).2=(s.getD k ([],none)).2
 |[],[],_,k=>by simp
 |x::r,y::s,h,0=>⟨h.1,h.2.1⟩
 |x::r,y::s,h,k+1=>by simpa using HY.get h.2.2 k
 |[],_::_,h,_=>h.elim
 |_::_,[],h,_=>h.elim
theorem HY.IP {r s:Tr} (h:HY r s) {ps:List (Nat×Nat)} (hf:iG s ps):iG r ps:=by
 intro p hp
 obtain⟨h1,h2,h3⟩:=hf p hp
 obtain⟨a1,a2⟩:=h.get p.1
 obtain⟨b1,b2⟩:=h.get p.2
 exact⟨fun b hb hm=>h1 b (by rw[←a2];exact hb) (b1 b hm),fun b hb hm=>h2 b (by rw[←b2];exact hb) (a1 b hm),fun b hb=>h3 b ⟨by rw[←a2];exact hb.1,by rw[←b2];exact hb.2⟩⟩
theorem FE {ov:Ov} {f fr:Fr} {op:dM} (hF:pc f ov fr) (h:op.rd=true→∀y∈op.eD,KB (fC ov fr) y):∀x∈eP f op,x∈JF (fC ov fr) op:=by
 intro x hx
 unfold eP at hx
 unfold JF
 split at hx
 ·rename_i hr
  rw[if_pos hr]
  obtain⟨y,hy,hm⟩:=List.mem_flatMap.1 hx
  exact List.mem_flatMap.2 ⟨y,hy,by rw[←hF.raw y (h hr y hy)];exact hm⟩
 ·cases hx
theorem oS {id:Nat} {ov:Ov} {fr:Fr} {H:Hp} {op:dM} {K:AV→Option (Nat×eU)→List Nat→Prop} (h:na P id (fC ov fr) H op K) {f:Fr} (hF:pc f ov fr):
 j8 P id f H op (fun r u S'=>∃S,(∀x∈S',x∈S)∧K r u S):=by
 by_cases hc:∃g as,op= .call g as
 ·obtain⟨fo,as,rfl⟩:=hc
  simp only[na] at h
  obtain⟨h1,h2⟩:=cN h
  obtain⟨h3,h4⟩:=fE h2
  split at h4
  ·rename_i he
   rw[iH] at h4
   obtain⟨r,u,S,h5,h6⟩:=h4.ok
   refine⟨r,u,S, ?_,S,fun _ h=>h,h6⟩
   rw[hF.raw fo (h1 trivial),lI (R:=fC ov fr) fun x hx=>hF.raw x (h3 trivial x hx),he]
   simpa[nN] using h5
  ·exact h4.elim
 ·have e1:na P id (fC ov fr) H op K=pW none H (fC ov fr) id op fun r u=>K r u (JF (fC ov fr) op):=by cases op<;>first|rfl|exact absurd ⟨_,_,rfl⟩ hc
  rw[e1] at h
  obtain⟨r,u,h1,h2⟩:=jo h
  obtain⟨h3,h4⟩:=h2 trivial
  have e2:∀K',j8 P id f H op K'=jY (cC id f H op) fun p=>K' p.1 p.2 (eP f op):=by intro K';cases op<;>first|rfl|exact absurd ⟨_,_,rfl⟩ hc
  rw[e2,h4 f fun x hx=>hF.raw x hx]
  exact⟨_,FE hF h3,h1⟩
theorem vj {id:Nat} {g:Bool} {ov:Ov} {fr:Fr} {H:Hp} {op:dM} {K:AV→List Nat→Prop} (h:iV P id g (fC ov fr) H op K):
 ∃r S,K r S∧(g=true→∀f,pc f ov fr→∀K':AV→Option (Nat×eU)→List Nat→Prop,(∀S',(∀x∈S',x∈S)→K' r none S')→j8 P id f H op K'):=by
 by_cases hc:∃g as,op= .call g as
 ·obtain⟨fo,as,rfl⟩:=hc
  simp only[iV] at h
  obtain⟨h1,h2⟩:=cN h
  obtain⟨h3,h4⟩:=fE h2
  split at h4
  ·rename_i he
   rw[iH] at h4
   obtain⟨r,S,h5,h6⟩:=h4.ok
   refine⟨r,S,h6,fun hg f hF K' hK'=>⟨r,none,S, ?_,hK' S fun _ h=>h⟩⟩
   rw[hF.raw fo (h1 hg),lI (R:=fC ov fr) fun x hx=>hF.raw x (h3 hg x hx),he]
   simpa[nN] using h5 hg
  ·exact h4.elim
 ·have e1:iV P id g (fC ov fr) H op K=pW (some g) H (fC ov fr) id op fun r u=>match u with|none=>K r (JF (fC ov fr) op)|some _=>False:=by cases op<;>first|rfl|exact absurd ⟨_,_,rfl⟩ hc
  rw[e1] at h
  obtain⟨r,u,h1,h2⟩:=jo h
  cases u with
  |some p=>exact h1.elim
  |none=>
   refine⟨r,_,h1,fun hg f hF K' hK'=> ?_⟩
   obtain⟨h3,h4⟩:=h2 hg
   have e2:j8 P id f H op K'=jY (cC id f H op) fun p=>K' p.1 p.2 (eP f op):=by cases op<;>first|rfl|exact absurd ⟨_,_,rfl⟩ hc
   rw[e2,h4 f fun x hx=>hF.raw x hx]
   exact hK' _ (FE hF h3)
theorem fj:∀{gs:List gI} {id:Nat} {ov:Ov} {f fr:Fr} {H:Hp} {tr tr':Tr} {K:Ov→Hp→Tr→Prop},pc f ov fr→HY tr' tr→WD P id gs ov fr H tr K→iC P id gs f H tr' (fun f1 H1 tr1=>∃ov1 trj,pc f1 ov1 fr∧HY tr1 trj∧K ov1 H1 trj)
 |[],id,ov,f,fr,H,tr,tr',K,hF,hT,h=>⟨ov,tr,hF,hT,h⟩
 |g::gs,id,ov,f,fr,H,tr,tr',K,hF,hT,h=>by
  have join:∀{q t:Bool} {d:Nat} {want:Bool},g.guard=some (d,want)→(q=true→cc f d= .sc (.bool t))→(q=false→cc f d= .sc undef)→∀{gg:Bool},(gg=true↔(q=true∧t=want))→
   (iV P id gg (fC ov fr) H g.op fun r S=>WD P (id+1) gs (gW ov g.dst (some gg) r) fr H (tr++[(S,none)]) K)→iC P id (g::gs) f H tr' (fun f1 H1 tr1=>∃ov1 trj,pc f1 ov1 fr∧HY tr1 trj∧K ov1 H1 trj):=by
   intro q t d want hg hq1 hq2 gg hgg hJ
   obtain⟨r,S,h1,h2⟩:=vj hJ
   simp only[iC,hg,dO]
   cases q with
   |true=>
    simp only[hq1 rfl]
    by_cases ht:t=want
    ·rw[if_pos ht]
     have hgt:=hgg.2 ⟨rfl,ht⟩
     refine h2 hgt f hF _ fun S' hS=> ?_
     exact fj (hF.pO g.dst (u:=r) (fun _=>rfl) fun h=>by rw[hgt] at h;cases h) (hT.snoc hS) h1
    ·rw[if_neg ht]
     have hgf:gg=false:=by cases hgg':gg<;>simp_all
     exact fj (hF.pO g.dst (u:= .sc undef) (fun h=>by rw[hgf] at h;cases h) fun _=>rfl) (hT.snoc (a:=[]) (b:=S) (fun _ h=>by cases h)) h1
   |false=>
    simp only[hq2 rfl]
    have hgf:gg=false:=by cases hgg':gg<;>simp_all
    have:=fj (hF.pO g.dst (u:= .sc undef) (q:=gg) (fun h=>by rw[hgf] at h;cases h) fun _=>rfl) (hT.snoc (a:=[]) (b:=S) (fun _ h=>by cases h)) h1
    exact this
  have h:oR P g gs (fun id ov fr H tr K=>WD P id gs ov fr H tr K) id ov fr H tr K:=h
  simp only[oR] at h
  split at h
  ·rename_i hg
   simp only[iC,hg,dO]
   refine(oS h hF).mono ?_
   rintro r u S' ⟨S,hS,hh⟩
   exact fj (hF.put g.dst r) (hT.snoc hS) hh
  ·rename_i d want hg
   have hd:=hF d
   split at h
   ·rename_i t he
    rw[he] at hd
    simp only at hd
    rcases h.ok with⟨hA,hB⟩|hJ
    ·simp only[iC,hg,dO,hd]
     by_cases ht:t=want
     ·rw[if_pos ht]
      refine(oS (hA ht) hF).mono ?_
      rintro r u S' ⟨S,hS,hh⟩
      exact fj (hF.put g.dst r) (hT.snoc hS) hh
     ·rw[if_neg ht]
      exact fj (hF.put g.dst _) (hT.snoc (a:=[]) (b:=[]) (fun _ h=>h)) (hB ht)
    ·cases want with
     |true=>exact join (q:=true) hg (fun _=>hd) (fun h=>by cases h) (gg:=t) (by simp) hJ
     |false=>exact join (q:=true) hg (fun _=>hd) (fun h=>by cases h) (gg:= !t) (by simp) hJ
   ·rename_i q t he
    rw[he] at hd
    simp only at hd
    cases want with
    |true=>exact join hg hd.1 hd.2 (gg:=q&&t) (by simp) h
    |false=>exact join hg hd.1 hd.2 (gg:=q&& !t) (by simp) h
   ·rename_i v he
    rw[he] at hd
    simp only at hd
    simp only[iC,hg,dO,hd]
    exact fj (hF.put g.dst _) (hT.snoc (a:=[]) (b:=[]) (fun _ h=>h)) h
   ·exact h.elim
theorem kM:∀{segs:List rY} {nx:Nat} {ov:Ov} {f fr:Fr} {H:Hp} {K:Ov→Hp→Nat→Prop},pc f ov fr→WS P nx segs ov fr H K→gU P nx segs f H (fun f1 H1 nx1=>∃ov1,pc f1 ov1 fr∧K ov1 H1 nx1)
 |[],nx,ov,f,fr,H,K,hF,h=>⟨ov,hF,h⟩
 |⟨[g],ps⟩::rest,nx,ov,f,fr,H,K,hF,h=>by
  have h:H6 P nx [g] ov fr H fun ov' H' nx'=>WS P nx' rest ov' fr H' K:=h
  refine ee.mono (K':=fun a b c=>gU P c rest a b _) (fS hF h) ?_
  rintro f1 H1 nx1 ⟨ov1,h1,h2⟩
  exact kM h1 h2
 |⟨[],[]⟩::rest,nx,ov,f,fr,H,K,hF,h=>by
  have h:WE P nx [] ov fr H [] fun ov' H' _=>WS P (nx+0) rest ov' fr H' K:=h
  rw[xP,List.reverse_nil] at h
  simp only[gU]
  refine iC.mono (fj hF (tr':=[]) (tr:=[]) trivial h) ?_
  rintro f1 H1 tr1 ⟨ov1,trj,h1,h2,h3⟩
  exact⟨(fun p hp=>by cases hp),kM h1 h3⟩
 |⟨[],p::ps⟩::rest,nx,ov,f,fr,H,K,hF,h=>by
  have h:WE P nx [] ov fr H [] fun ov' H' tr=>Ask (iG tr.reverse (p::ps))∧WS P (nx+0) rest ov' fr H' K:=h
  rw[xP,List.reverse_nil] at h
  simp only[List.reverse_reverse] at h
  simp only[gU]
  refine iC.mono (fj hF (tr':=[]) (tr:=[]) trivial h) ?_
  rintro f1 H1 tr1 ⟨ov1,trj,h1,h2,h3⟩
  exact⟨h2.IP h3.1.ok,kM h1 h3.2⟩
 |⟨g1::g2::gs,[]⟩::rest,nx,ov,f,fr,H,K,hF,h=>by
  have h:WE P nx (g1::g2::gs) ov fr H [] fun ov' H' _=>WS P (nx+(g1::g2::gs).length) rest ov' fr H' K:=h
  rw[xP,List.reverse_nil] at h
  simp only[gU]
  refine iC.mono (fj hF (tr':=[]) (tr:=[]) trivial h) ?_
  rintro f1 H1 tr1 ⟨ov1,trj,h1,h2,h3⟩
  exact⟨(fun p hp=>by cases hp),kM h1 h3⟩
 |⟨g1::g2::gs,p::ps⟩::rest,nx,ov,f,fr,H,K,hF,h=>by
  have h:WE P nx (g1::g2::gs) ov fr H [] fun ov' H' tr=>Ask (iG tr.reverse (p::ps))∧WS P (nx+(g1::g2::gs).length) rest ov' fr H' K:=h
  rw[xP,List.reverse_nil] at h
  simp only[List.reverse_reverse] at h
  simp only[gU]
  refine iC.mono (fj hF (tr':=[]) (tr:=[]) trivial h) ?_
  rintro f1 H1 tr1 ⟨ov1,trj,h1,h2,h3⟩
  exact⟨h2.IP h3.1.ok,kM h1 h3.2⟩
theorem Holds.less {w0:World} {M0:Nat→Prop} {c0:Cx} {lo n:Nat} {fr fr':Fr} {H:Hp} {nx:Nat} {a:Act} {w:World} (h:Holds w0 M0 c0 lo n fr H nx a w) (hf:∀t,cc fr' t= .any∨cc fr' t=cc fr t):Holds w0 M0 c0 lo n fr' H nx a w:=by
 obtain⟨h1,h2,ρ,U,hU,hS,hF,hT⟩:=h
 refine⟨h1,h2,ρ,U,hU,hS,fun t=> ?_,hT⟩
 rcases hf t with h|h
 ·rw[h,VR];trivial
 ·rw[h];exact hF t
theorem WL.less {n lo:Nat} {lc:LC} {fr:Fr} {H:Hp} {nx:Nat} {Q:QT} (h:WL P n lo lc fr H nx (fun e f H nx=>∃f',(∀t,cc f' t= .any∨cc f' t=cc f t)∧Q e f' H nx)):WL P n lo lc fr H nx Q:=
 fun code hc w0 M0 c0 a w hh=>Code.wp_mono (fun _ _ _ ⟨x,f,H,nx,he,⟨f',h1,h2⟩,hhh⟩=>⟨x,f',H,nx,he,h2,hhh.less h1⟩) (h code hc w0 M0 c0 a w hh)
theorem pc.less {f:Fr} {ov:Ov} {fr:Fr} (h:pc f ov fr) (t:Nat):cc (gq ov fr) t= .any∨cc (gq ov fr) t=cc f t:=by
 rcases nu (ov:=ov) (fr:=fr) (t:=t) with h1|⟨v,h1,h2⟩
 ·exact .inl h1
 ·have:=h t
  rw[h1] at this
  exact .inr (h2.trans this.symm)
theorem iB.of {segs:List rY} {fr:Fr} {H:Hp} {nx:Nat} {Q:QT} (h:WS P nx segs [] fr H fun ov H' nx'=>Q .normal (gq ov fr) H' nx'):iB P segs fr H nx Q:=
 ⟨fun _ _=>WL.less (WL.drawn (gU.mono (kM (pc.refl fr) h) fun _ _ _ ⟨_,h1,h2⟩=>⟨_,h1.less,h2⟩))⟩
theorem ez {n lo:Nat}:∀{lc:LC} {fr:Fr} {H:Hp} {nx:Nat} {Q:QT},W P n lo lc fr H nx Q→WL P n lo lc fr H nx Q
 | .skip,_,_,_,_,h=>WL.skip h
 | .ret,_,_,_,_,h=>WL.ret h
 | .exit _,_,_,_,_,h=>WL.exit h
 | .region gs,fr,H,nx,Q,h=>WL.less (WL.region (ee.mono (fS (pc.refl fr) h) fun _ _ _ ⟨_,h1,h2⟩=>⟨_,h1.less,h2⟩))
 | .drawn segs,fr,H,nx,Q,h=>iB.ok (P:=P) h n lo
 | .seq a b,fr,H,nx,Q,h=>WL.seq ((ez (lc:=a) (Q:=hX (fun fr H nx=>W P n lo b fr H nx Q) Q) h).mono fun e fr H nx hh=>by
  cases e with
  |normal=>exact ez (lc:=b) hh
  |exit id=>exact hh
  |ret=>exact hh)
 | .cond c a b,fr,H,nx,Q,h=>by
  have h:BL c a b (W P n lo a) (W P n lo b) fr H nx Q:=h
  simp only[BL] at h
  split at h
  ·rename_i t ht
   exact WL.cond ht (fun h1=>ez (lc:=a) (h.ok.1 h1)) (fun h1=>ez (lc:=b) (h.ok.2 h1))
  ·rename_i ht
   exact WL.VP ht (ez (lc:=a) h.1) (ez (lc:=b) h.2)
  ·exact h.elim
 | .block id a,fr,H,nx,Q,h=>WL.block (ez (lc:=a) h)
 | .loop a,fr,H,nx,Q,h=>h.ok
theorem iM.inv {n lo:Nat} {x:LC} {fr:Fr} {H:Hp} {nx:Nat} {Q:QT} {σ:Type} (I:σ→Fr→Hp→Nat→Prop) (μ:σ→Nat) (s0:σ) (h0:∃fr',(∀t,cc fr' t= .any∨cc fr' t=cc fr t)∧I s0 fr' H nx)
 (round:∀s fr H nx,I s fr H nx→WL P n lo x fr H nx (hX (fun fr' H' nx'=>∃s',μ s'<μ s∧∃fr2,(∀t,cc fr2 t= .any∨cc fr2 t=cc fr' t)∧I s' fr2 H' nx') Q)):iM P n lo x fr H nx Q:=by
 refine⟨fun code hc w0 M0 c0 a w hh=> ?_⟩
 have:∃c1,code= .loop c1∧cj P n c1=some x:=by
  cases code<;>simp only[cj] at hc
  case loop c1=>
   simp only[Option.map_eq_some_iff,LC.loop.injEq] at hc
   obtain⟨x',h1,rfl⟩:=hc
   exact⟨c1,rfl,h1⟩
  all_goals (exfalso;repeat' (split at hc))<;>simp at hc
 obtain⟨c1,rfl,h1⟩:=this
 intro b k cs
 have key:∀m,∀s,μ s=m→∀fr H nx,I s fr H nx→∀a w,Holds w0 M0 c0 lo n fr H nx a w→
  ∃e a' w',LQ w0 M0 c0 lo n Q e a' w'∧Arrives P (lone (b.at a (.code c1:: .inLoop c1::k)) cs w) b k cs e a' w':=by
  intro m
  induction m using Nat.strongRecOn with
  |_ m ih=>
   intro s hs fr H nx hI a w hh
   obtain⟨e,a1,w1,hq,harr⟩:=round s fr H nx hI c1 h1 w0 M0 c0 a w hh b (.inLoop c1::k) cs
   obtain⟨x',fr',H',nx',rfl,hQ,hh'⟩:=hq
   cases x' with
   |normal=>
    obtain⟨s',hlt,fr2,hless,hI'⟩:=hQ
    obtain⟨e2,a2,w2,hq2,harr2⟩:=ih (μ s') (by omega) s' rfl fr2 H' nx' hI' a1 w1 (hh'.less hless)
    exact⟨e2,a2,w2,hq2, .of_steps (Steps.trans harr (.one step_inLoop)) harr2⟩
   |exit id=>exact⟨_,a1,w1,⟨.exit id,fr',H',nx',rfl,hQ,hh'⟩, .pass (x:= .inLoop c1) rfl (fun _ _=> .inl (by simp[Ex.to])) harr⟩
   |ret=>exact⟨_,a1,w1,⟨.ret,fr',H',nx',rfl,hQ,hh'⟩, .pass (x:= .inLoop c1) rfl (fun _ _=> .inl (by simp[Ex.to])) harr⟩
 obtain⟨fr',hless,hI⟩:=h0
 obtain⟨e,a',w',hq,harr⟩:=key _ s0 rfl fr' H nx hI a w (hh.less hless)
 exact⟨e,a',w',hq, .of_steps (.one step_loop) harr⟩
def je (fr:Fr):Fr→Prop
 |[]=>True
 |(t,v)::r=>cc fr t=v∧je fr r
theorem gK {fr:Fr}:∀{fr':Fr},je fr fr'→∀t,cc fr' t= .any∨cc fr' t=cc fr t
 |[],_,t=> .inl rfl
 |(d,v)::r,h,t=>by
  simp only[cc]
  by_cases ht:t=d
  ·subst ht;rw[if_pos rfl];exact .inr h.1.symm
  ·rw[if_neg ht];exact gK h.2 t
theorem iM.fr {n lo:Nat} {x:LC} {fr:Fr} {H:Hp} {nx:Nat} {Q:QT} {σ:Type} (F:σ→Fr) (I:σ→Hp→Nat→Prop) (μ:σ→Nat) (s0:σ) (h0:je fr (F s0)) (h1:I s0 H nx)
 (round:∀s H nx,I s H nx→W P n lo x (F s) H nx (hX (fun fr' H' nx'=>∃s',μ s'<μ s∧je fr' (F s')∧I s' H' nx') Q)):iM P n lo x fr H nx Q:=by
 refine iM.inv (fun s fr H nx=>fr=F s∧I s H nx) μ s0 ⟨F s0,gK h0,rfl,h1⟩ ?_
 rintro s fr H nx ⟨rfl,hI⟩
 refine(ez (round s H nx hI)).mono ?_
 intro e fr' H' nx' hh
 cases e with
 |normal=>
  obtain⟨s',h2,h3,h4⟩:=hh
  exact⟨s',h2,F s',gK h3,rfl,h4⟩
 |exit id=>exact hh
 |ret=>exact hh
end
end Go.cZ
end
