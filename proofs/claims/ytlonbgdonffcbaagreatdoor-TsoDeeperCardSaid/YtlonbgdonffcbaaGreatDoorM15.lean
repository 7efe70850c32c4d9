import Derived.Test.YtlonbgdonffcbaaGreatDoorM9
section
/- A run by reduction alone: the code is walked by the reducer; what is to be shown stands out as questions. -/
set_option linter.unusedSimpArgs false
set_option linter.unusedVariables false
namespace Go.cU
open Go.RowKit
structure Ask (p:Prop):Prop where
 ok:p
def cy:Option Bool→Prop→Prop
 |none,p=>Ask p
 |some g,p=>Ask (g=true→p)
def Gd:Option Bool→Prop
 |none=>True
 |some g=>g=true
theorem cB {g:Option Bool} {p:Prop}:cy g p↔(Gd g→p):=by
 cases g with
 |none=>exact⟨fun h _=>h.ok,fun h=>⟨h trivial⟩⟩
 |some g=>exact⟨fun h=>h.ok,fun h=>⟨h⟩⟩
abbrev Ov:=List (Nat×Option Bool×AV)
def nd:Ov→Fr→Nat→Option Bool×AV
 |[],fr,t=>(none,cJ fr t)
 |(d,c,v)::r,fr,t=>bif Nat.beq t d then(c,v) else nd r fr t
def fj (ov:Ov) (d:Option Nat) (c:Option Bool) (v:AV):Ov:=
 match d with
 |some d=>(d,c,v)::ov
 |none=>ov
def fy:Ov→Fr→Fr
 |[],fr=>fr
 |(d,none,v)::r,fr=>(d,v)::fy r fr
 |(d,some _,_)::r,fr=>(d, .any)::fy r fr
def eL (ov:Ov) (fr:Fr):dH→Option Bool×AV
 | .t n=>nd ov fr n
 | .c v=>(none, .sc v)
 | .f n=>(none, .fn (.func n) [] [])
 | .m nm n=>match nd ov fr n with
  |(g, .kq t v)=>(g, .fn (.method nm) [.kq t v] [])
  |(g,_)=>(g, .any)
theorem ot {t d:Nat} (h:¬t=d):Nat.beq t d=false:=by
 cases hb:Nat.beq t d with
 |false=>rfl
 |true=>exact absurd (Nat.eq_of_beq_eq_true hb) h
def nN (f:Fr) (ov:Ov) (fr:Fr):Prop:=
 ∀t,match nd ov fr t with
  |(none,v)=>cJ f t=v
  |(some q,v)=>(q=true→cJ f t=v)∧(q=false→cJ f t= .sc undef)
theorem nN.refl (fr:Fr):nN fr [] fr:=fun _=>rfl
theorem nN.put {f:Fr} {ov:Ov} {fr:Fr} (h:nN f ov fr) (d:Option Nat) (v:AV):nN (eW f d v) (fj ov d none v) fr:=by
 cases d with
 |none=>exact h
 |some d=>
  intro t
  simp only[fj,eW,nd,cJ]
  by_cases ht:t=d
  ·subst ht;simp
  ·have:Nat.beq t d=false:=ot ht
   rw[this,if_neg ht];exact h t
theorem nN.oe {f:Fr} {ov:Ov} {fr:Fr} (h:nN f ov fr) (d:Option Nat) {q:Bool} {u v:AV} (h1:q=true→u=v) (h2:q=false→u= .sc undef):nN (eW f d u) (fj ov d (some q) v) fr:=by
 cases d with
 |none=>exact h
 |some d=>
  intro t
  simp only[fj,eW,nd,cJ]
  by_cases ht:t=d
  ·subst ht;simpa using⟨h1,h2⟩
  ·have:Nat.beq t d=false:=ot ht
   rw[this,if_neg ht];exact h t
theorem nN.raw {f:Fr} {ov:Ov} {fr:Fr} (h:nN f ov fr) (x:dH) (hq:∀q,(eL ov fr x).1=some q→q=true):ev f x=(eL ov fr x).2:=by
 cases x with
 |t n=>
  have:=h n
  simp only[ev,eL] at hq ⊢
  split at this
  ·rename_i v he;rw[this,he]
  ·rename_i q v he;rw[he] at hq ⊢;exact this.1 (hq q rfl)
 |c v=>rfl
 |f n=>rfl
 |m nm n=>
  have:=h n
  simp only[ev,eL] at hq ⊢
  generalize nd ov fr n=x at this hq ⊢
  obtain⟨g,v⟩:=x
  have hv:cJ f n=v:=by
   cases g with
   |none=>exact this
   |some q=>
    refine this.1 (hq q ?_)
    cases v<;>rfl
  rw[hv]
  cases v<;>rfl
theorem lr {fr:Fr} {t:Nat}:∀{ov:Ov},cJ (fy ov fr) t= .any∨∃v,nd ov fr t=(none,v)∧cJ (fy ov fr) t=v
 |[]=> .inr ⟨_,rfl,rfl⟩
 |(d,none,v)::r=>by
  simp only[fy,cJ,nd]
  by_cases ht:t=d
  ·subst ht;simp
  ·have:Nat.beq t d=false:=ot ht
   rw[this,if_neg ht];exact lr
 |(d,some q,v)::r=>by
  simp only[fy,cJ,nd]
  by_cases ht:t=d
  ·subst ht;simp
  ·have:Nat.beq t d=false:=ot ht
   rw[this,if_neg ht];exact lr
abbrev Raw:=dH→Option Bool×AV
def c8 (g:Option Bool) (R:Raw) (x:dH) (K:AV→Prop):Prop:=
 match R x with
 |(none,v)=>K v
 |(some q,v)=>cy g (q=true)∧K v
def A9 (R:Raw) (x:dH):Prop:=∀q,(R x).1=some q→q=true
theorem bt {g:Option Bool} {R:Raw} {x:dH} {K:AV→Prop} (h:c8 g R x K):(Gd g→A9 R x)∧K (R x).2:=by
 unfold c8 at h
 split at h
 ·rename_i v he;rw[he];exact⟨fun _ q hq=>(by rw[he] at hq;cases hq),h⟩
 ·rename_i q v he
  rw[he]
  exact⟨fun hg q' hq=>(by rw[he] at hq;cases hq;exact cB.1 h.1 hg),h.2⟩
def xA (K:List AV→Prop):Prop:=K []
def u5 (g:Option Bool) (R:Raw) (x:dH) (_:List dH) (ih:(List AV→Prop)→Prop) (K:List AV→Prop):Prop:=c8 g R x fun a=>ih fun as=>K (a::as)
noncomputable def jM (g:Option Bool) (R:Raw) (xs:List dH):(List AV→Prop)→Prop:=List.rec (motive:=fun _=>(List AV→Prop)→Prop) xA (u5 g R) xs
theorem eQ {g:Option Bool} {R:Raw}:∀{xs:List dH} {K:List AV→Prop},jM g R xs K→(Gd g→∀x∈xs,A9 R x)∧K (xs.map fun x=>(R x).2)
 |[],K,h=>⟨fun _ _ h=>(by cases h),h⟩
 |x::r,K,h=>by
  obtain⟨h1,h2⟩:=bt h
  obtain⟨h3,h4⟩:=eQ h2
  refine⟨fun hg y hy=> ?_,h4⟩
  rcases List.mem_cons.1 hy with rfl|hy
  ·exact h1 hg
  ·exact h3 hg y hy
theorem jt {f:Fr} {R:Raw}:∀{xs:List dH},(∀x∈xs,ev f x=(R x).2)→oI f xs=xs.map fun x=>(R x).2
 |[],_=>rfl
 |x::r,h=>by
  simp only[oI,List.map_cons]
  rw[h x (by simp),jt fun y hy=>h y (by simp[hy])]
def fJ (v:AV) (K:AV→Prop):Prop:=
 match v with
 | .sc v=>K (.sc v)
 | .any=>K .any
 | .im a b c=>K (.im a b c)
 | .ip a b c d e=>K (.ip a b c d e)
 | .sl a b=>K (.sl a b)
 | .pt a b c d=>K (.pt a b c d)
 | .zc=>K .zc
 | .agg a=>K (.agg a)
 | .dE a=>K (.dE a)
 | .fn a b c=>K (.fn a b c)
 | .kq a b=>K (.kq a b)
 | .mp a=>K (.mp a)
 | .ab=>K .ab
 | .sv a b c d=>K (.sv a b c d)
theorem eC (v:AV) (K:AV→Prop):fJ v K=K v:=by cases v<;>rfl
def xC (K:List AV→Prop):Prop:=K []
def ub (a:AV) (_:List AV) (ih:(List AV→Prop)→Prop) (K:List AV→Prop):Prop:=ih fun r'=>K (a::r')
noncomputable def n0 (l:List AV):(List AV→Prop)→Prop:=List.rec (motive:=fun _=>(List AV→Prop)→Prop) xC ub l
theorem iJ:∀(l:List AV) (K:List AV→Prop),n0 l K=K l
 |[],_=>rfl
 |a::r,K=>iJ r fun r'=>K (a::r')
structure fQ (H:Hp) (b:Nat) (K:TypeId→Nat→AV→List AV→Prop):Prop where
 ok:∃e sz d es,bf H b=some (.row e sz d es)∧K e sz d es
theorem fQ.of {H:Hp} {b:Nat} {K:TypeId→Nat→AV→List AV→Prop} {e:TypeId} {sz:Nat} {d:AV} {es:List AV} (h:bf H b=some (.row e sz d es)) (k:K e sz d es):fQ H b K:=⟨⟨e,sz,d,es,h,k⟩⟩
structure nM (es:List AV) (i:Nat) (d:AV) (K:AV→Prop):Prop where
 ok:K (es.getD i d)
theorem nM.of {es:List AV} {i:Nat} {d:AV} {K:AV→Prop} {e:AV} (h:es.getD i d=e) (k:K e):nM es i d K:=⟨by rw[h];exact k⟩
structure iN {α:Type} (x:Option α) (K:α→Prop):Prop where
 ok:∃a,x=some a∧K a
theorem iN.of {α:Type} {x:Option α} {K:α→Prop} {a:α} (h:x=some a) (k:K a):iN x K:=⟨⟨a,h,k⟩⟩
structure jj {α:Type} (g:Option Bool) (x:Option α) (K:α→Prop):Prop where
 ok:∃a,(Gd g→x=some a)∧K a
theorem jj.of {α:Type} {g:Option Bool} {x:Option α} {K:α→Prop} {a:α} (h:Gd g→x=some a) (k:K a):jj g x K:=⟨⟨a,h,k⟩⟩
structure oC (H:Hp) (b:Nat) (K:TypeId→AV→List AV→Prop):Prop where
 ok:∃e d es,bf H b=some (.row e 0 d (mapA es))∧K e d es
theorem oC.of {H:Hp} {b:Nat} {K:TypeId→AV→List AV→Prop} {e:TypeId} {d:AV} {es:List AV} (h:bf H b=some (.row e 0 d (mapA es))) (k:K e d es):oC H b K:=⟨⟨e,d,es,h,k⟩⟩
def zQ (H:Hp) (v:AV) (K:Nat→TypeId→AV→List AV→Prop):Prop:=
 match v with
 | .mp b=>oC H b (K b)
 |_=>False
theorem jk {H:Hp} {v:AV} {K:Nat→TypeId→AV→List AV→Prop} (h:zQ H v K):∃b e d es,mapOf H v=some (b,e,d,es)∧K b e d es:=by
 cases v<;>simp only[zQ] at h
 obtain⟨e,d,es,h1,h2⟩:=h.ok
 exact⟨_,e,d,es,by simp only[mapOf,h1,mapA],h2⟩
structure qq (g:Option Bool) (k:IntKind) (n:Int) (K:Int→Prop):Prop where
 ok:∃m,(Gd g→k.wrap n=m)∧K m
theorem qq.of {g:Option Bool} {k:IntKind} {n:Int} {K:Int→Prop} {m:Int} (h:Gd g→k.wrap n=m) (hK:K m):qq g k n K:=⟨⟨m,h,hK⟩⟩
section
variable (g:Option Bool) (H:Hp)
def PC (ag:Bool) (k:Nat) (e:AV) (sz off:Nat) (K:AV→Prop):Prop:=
 match ag with
 |true=>match e with
  | .agg cs=>bif Nat.beq off 0&&Nat.beq k sz then K (.agg cs) else cy g (off+k≤cs.length)∧K (.agg ((cs.drop off).take k))
  |_=>False
 |false=>match e with
  | .agg cs=>nM cs off .any fun v=>fJ v K
  | .any=>K .any
  |e=>bif one e then fJ e K else False
def lookW (v:AV) (K:Nat→AV→Nat→Prop):Prop:=
 match v with
 | .ip sz d es i off=>nM es i d fun e=>K sz e off
 | .pt b len i off=>fQ H b fun _ sz d es=>cy g (es.length=len)∧nM es i d fun e=>K sz e off
 |_=>False
def pn (k:Nat) (v:AV) (K:List AV→Prop):Prop:=
 match v with
 | .im sz _ es=>bif Nat.beq sz k then K es else False
 | .sl b len=>fQ H b fun _ sz _ es=>cy g (es.length=len∧sz=k)∧K es
 | .sc (.slice none 0 0)=>K []
 | .zc=>K []
 | .sv b len lo n=>fQ H b fun _ sz _ es=>cy g (es.length=len∧sz=k)∧K ((es.drop lo).take n)
 |_=>False
noncomputable def nE (R:Raw) (id:Nat) (op:cg) (K:AV→Option (Nat×dx)→Prop):Prop:=
 match op with
 | .mv x=>c8 g R x fun a=>fJ a fun a=>K a none
 | .pick c a b=>c8 g R c fun v=>match v with
  | .sc (.bool t)=>
   let rest:=fun(_:Unit)=>fJ (my t (R a).2 (R b).2) fun v=>K v none
   let r2:=fun(_:Unit)=>match(R b).1 with
    |none=>rest ()
    |some q=>cy g (t=false→q=true)∧rest ()
   match(R a).1 with
   |none=>r2 ()
   |some q=>cy g (t=true→q=true)∧r2 ()
  |_=>False
 | .alloc e sz ag z=>cy g (z.length=sz)∧K (.pt id 1 0 0) (some (id, .row e sz (gC ag z) [gC ag z]))
 | .box e sz ag x=>c8 g R x fun v=>cy g (fits ag sz v=true)∧K (.pt id 1 0 0) (some (id, .row e sz .any [v]))
 | .M7 z parts=>jM g R (parts.map (·.2.2)) fun as=>iN (oJ (z.map .sc) (List.zipWith (fun p a=>(p.1,p.2.1,a)) parts as)) fun cs=>K (.agg cs) none
 | .KC e sz ag z n parts=>jM g R (parts.map (·.2)) fun as=>
  cy g (z.length=sz∧(List.zipWith (fun p a=>(p.1,a)) parts as).all (fun p=>decide (p.1<n)&&fits ag sz p.2)=true)∧
  K (.sl id n) (some (id, .row e sz (gC ag z) ((List.zipWith (fun p a=>(p.1,a)) parts as).foldl (fun l p=>l.set p.1 p.2) (List.replicate n (gC ag z)))))
 | .ld ag k x=>c8 g R x fun v=>lookW g H v fun sz e off=>PC g ag k e sz off fun r=>K r none
 | .st ag k x y=>c8 g R x fun v=>c8 g R y fun yv=>match v with
  | .pt b len i off=>fQ H b fun e sz d es=>cy g (es.length=len)∧nM es i d fun jR=>iN (MS ag k jR yv sz off) fun e'=>K .any (some (b, .row e sz d (es.set i e')))
  |_=>False
 | .OA x=>c8 g R x fun v=>match v with
  | .pt b len i off=>K (.pt b len i off) none
  | .ip sz d es i off=>K (.ip sz d es i off) none
  | .fn (.func f) p q=>K (.fn (.func f) p q) none
  | .kq t v=>K (.kq t v) none
  |_=>False
 | .bin op x y=>c8 g R x fun a=>c8 g R y fun b=>match op,a,b with
  | .add, .sc (.int k a), .sc (.int k' b)=>cy g (k=k')∧qq g k (a+b) fun m=>K (.sc (.int k m)) none
  | .sub, .sc (.int k a), .sc (.int k' b)=>cy g (k=k')∧qq g k (a - b) fun m=>K (.sc (.int k m)) none
  | .mul, .sc (.int k a), .sc (.int k' b)=>cy g (k=k')∧qq g k (a * b) fun m=>K (.sc (.int k m)) none
  | .eql, .sc (.int k a), .sc (.int k' b)=>cy g (k=k')∧K (.sc (.bool (decide (a=b)))) none
  | .neq, .sc (.int k a), .sc (.int k' b)=>cy g (k=k')∧K (.sc (.bool (decide (a≠b)))) none
  | .lss, .sc (.int k a), .sc (.int k' b)=>cy g (k=k')∧K (.sc (.bool (decide (a<b)))) none
  | .leq, .sc (.int k a), .sc (.int k' b)=>cy g (k=k')∧K (.sc (.bool (decide (a≤b)))) none
  | .gtr, .sc (.int k a), .sc (.int k' b)=>cy g (k=k')∧K (.sc (.bool (decide (b<a)))) none
  | .geq, .sc (.int k a), .sc (.int k' b)=>cy g (k=k')∧K (.sc (.bool (decide (b≤a)))) none
  | .quo, .sc (.int k a), .sc (.int k' b)=>cy g (k=k'∧b≠0)∧K (.sc (.int k (k.wrap (a.tdiv b)))) none
  | .rem, .sc (.int k a), .sc (.int k' b)=>cy g (k=k'∧b≠0)∧K (.sc (.int k (a.tmod b))) none
  | .and, .sc (.int k a), .sc (.int k' b)=>cy g (k=k')∧K (.sc (.int k (k.wrap (BitVec.ofInt k.bits a&&& BitVec.ofInt k.bits b).toNat))) none
  | .or, .sc (.int k a), .sc (.int k' b)=>cy g (k=k')∧K (.sc (.int k (k.wrap (BitVec.ofInt k.bits a|||BitVec.ofInt k.bits b).toNat))) none
  | .xor, .sc (.int k a), .sc (.int k' b)=>cy g (k=k')∧K (.sc (.int k (k.wrap (BitVec.ofInt k.bits a^^^BitVec.ofInt k.bits b).toNat))) none
  | .andNot, .sc (.int k a), .sc (.int k' b)=>cy g (k=k')∧K (.sc (.int k (k.wrap (BitVec.ofInt k.bits a&&& ~~~(BitVec.ofInt k.bits b)).toNat))) none
  | .shl, .sc (.int k a), .sc (.int _ b)=>cy g (0≤b)∧K (.sc (.int k (k.wrap (a * 2^(min b.toNat k.bits))))) none
  | .shr, .sc (.int k a), .sc (.int _ b)=>cy g (0≤b)∧K (.sc (.int k (a.fdiv (2^(min b.toNat k.bits))))) none
  |_,_,_=>False
 | .M8 neg x y=>c8 g R x fun a=>c8 g R y fun b=>match a,b with
  | .sc (.bool p), .sc (.bool q)=>(match neg with
   |true=>K (.sc (.bool (p != q))) none
   |false=>K (.sc (.bool (p==q))) none)
  |_,_=>False
 | .ry neg x y=>c8 g R x fun a=>c8 g R y fun b=>match a,b with
  | .sc (.string p), .sc (.string q)=>(match neg with
   |true=>K (.sc (.bool (p != q))) none
   |false=>K (.sc (.bool (p==q))) none)
  |_,_=>False
 | .zf op x y=>c8 g R x fun a=>c8 g R y fun b=>match a,b with
  | .sc (.string p), .sc (.string q)=>(match op with
   | .add=>cy g (p.size+q.size≤9223372036854775807)∧K (.sc (.string (p++q))) none
   | .lss=>K (.sc (.bool (Op.bytesLess p.toList q.toList))) none
   |_=>False)
  |_,_=>False
 | .HZ sz ag z x=>c8 g R x fun v=>match v with
  | .sv b len lo n=>fQ H b fun e s d es=>cy g (es.length=len∧s=sz∧lo+n≤len)∧K (.dE []) (some (b, .row e s d (es.take lo++List.replicate n (gC ag z)++es.drop (lo+n))))
  |_=>False
 | .K7 x=>c8 g R x fun v=>pn g H 1 v fun xs=>jj g (gv xs) fun ns=>K (.sc (.string (BV ns))) none
 | .un op x=>c8 g R x fun a=>match op,a with
  | .not, .sc (.bool b)=>K (.sc (.bool !b)) none
  | .neg, .sc (.int k n)=>qq g k (0 - n) fun m=>K (.sc (.int k m)) none
  |_,_=>False
 | .NU k x=>c8 g R x fun a=>match a with
  | .sc (.int _ n)=>qq g k n fun m=>K (.sc (.int k m)) none
  |_=>False
 | .fa off x=>c8 g R x fun a=>match a with
  | .ip sz d es i o=>cy g (o+off<sz)∧K (.ip sz d es i (o+off)) none
  | .pt b len i o=>fQ H b fun _ sz _ es=>cy g (es.length=len∧o+off<sz)∧K (.pt b len i (o+off)) none
  |_=>False
 | .ia k n x i=>c8 g R x fun v=>c8 g R i fun iv=>match iv with
  | .sc (.int _ j)=>
   (match n with
    |none=>match v with
     | .im sz d es=>cy g (k=sz)∧cy g (0≤j∧j<es.length)∧K (.ip sz d es j.toNat 0) none
     | .sl b len=>fQ H b fun _ sz _ es=>cy g (es.length=len∧k=sz)∧cy g (0≤j∧j<len)∧K (.pt b len j.toNat 0) none
     | .sv b len lo m=>fQ H b fun _ sz _ es=>cy g (es.length=len∧k=sz)∧cy g (0≤j∧j<m)∧K (.pt b len (lo+j.toNat) 0) none
     |_=>False
    |some m=>match v with
     | .ip sz d es i off=>cy g (off+m * k≤sz)∧cy g (0≤j∧j<m)∧K (.ip sz d es i (off+j.toNat * k)) none
     | .pt b len i off=>fQ H b fun _ sz _ es=>cy g (es.length=len∧off+m * k≤sz)∧cy g (0≤j∧j<m)∧K (.pt b len i (off+j.toNat * k)) none
     |_=>False)
  |_=>False
 | .NY off k ag x=>c8 g R x fun v=>match v with
  | .agg cs=>(match ag with
   |true=>cy g (off+k≤cs.length)∧K (.agg ((cs.drop off).take k)) none
   |false=>cy g (off+k≤cs.length∧k=1)∧nM cs off .any fun v=>fJ v fun v=>K v none)
  |_=>False
 | .ix k ag n x i=>c8 g R x fun v=>c8 g R i fun iv=>match v,iv with
  | .agg cs, .sc (.int _ j)=>cy g (n * k=cs.length)∧cy g (0≤j∧j<n)∧(match ag with
   |true=>K (.agg ((cs.drop (j.toNat * k)).take k)) none
   |false=>cy g (k=1)∧nM cs (j.toNat * k) .any fun v=>fJ v fun v=>K v none)
  |_,_=>False
 | .N2 x i=>c8 g R x fun v=>c8 g R i fun iv=>match v,iv with
  | .sc (.string s), .sc (.int _ j)=>cy g (0≤j∧j<s.size)∧K (.sc (.int .u8 (s.data.toList.getD j.toNat 0).toNat)) none
  |_,_=>False
 | .lens x=>c8 g R x fun v=>match v with
  | .sc (.string s)=>K (.sc (.int .i64 s.size)) none
  |_=>False
 | .MA e sz bytes ag z l c=>c8 g R l fun lv=>c8 g R c fun cv=>match lv,cv with
  | .sc (.int _ n), .sc (.int _ m)=>cy g (z.length=sz∧n=m)∧cy g (0≤n∧n * bytes≤281474976710656∧n≤9223372036854775807)∧
   K (.sl id n.toNat) (some (id, .row e sz (gC ag z) (List.replicate n.toNat (gC ag z))))
  |_,_=>False
 | .ext i x=>c8 g R x fun v=>match v with
  | .dE vs=>cy g (i<vs.length)∧nM vs i .any fun v=>fJ v fun v=>K v none
  |_=>False
 | .NG f first caps=>jM g R first fun a=>jM g R caps fun b=>K (.fn f a b) none
 | .N9 t x=>c8 g R x fun v=>K (.kq t v) none
 | .len x=>c8 g R x fun v=>match v with
  | .im _ _ es=>K (.sc (.int .i64 (es.length:Int))) none
  | .sl b len=>fQ H b fun _ _ _ es=>cy g (es.length=len)∧K (.sc (.int .i64 (len:Int))) none
  | .sc (.slice none 0 0)=>K (.sc (.int .i64 0)) none
  | .zc=>K (.sc (.int .i64 0)) none
  | .sv _ _ _ n=>K (.sc (.int .i64 (n:Int))) none
  |_=>False
 | .app e sz bytes ag z s x=>c8 g R s fun sv=>c8 g R x fun xv=>pn g H sz xv fun xs=>cy g (z.length=sz)∧match sv with
  | .sc (.slice none 0 0)=>cy g (xs.length * bytes≤j7)∧K (.sl id xs.length) (some (id, .row e sz (gC ag z) xs))
  | .sl b len=>fQ H b fun e' sz' d es=>cy g (es.length=len∧e'=e∧sz'=sz)∧cy g ((len+xs.length) * bytes≤j7)∧K (.sl b (len+xs.length)) (some (b, .row e sz d (es++xs)))
  |_=>False
 | .CO e bytes z s x=>c8 g R s fun sv=>c8 g R x fun xv=>match xv with
  | .sc (.string q)=>(match sv with
   | .sc (.slice none 0 0)=>cy g ((cC q).length * bytes≤j7)∧K (.sl id (cC q).length) (some (id, .row e 1 z (cC q)))
   | .sl b len=>fQ H b fun e' sz' d es=>cy g (es.length=len∧e'=e∧sz'=1)∧cy g ((len+(cC q).length) * bytes≤j7)∧K (.sl b (len+(cC q).length)) (some (b, .row e 1 d (es++cC q)))
   |_=>False)
  |_=>False
 | .A6 neg x=>c8 g R x fun v=>match v with
  | .pt _ _ _ _=>K (.sc (.bool neg)) none
  | .ip _ _ _ _ _=>K (.sc (.bool neg)) none
  | .sc (.pointer none)=>K (.sc (.bool !neg)) none
  |_=>False
 | .vr neg x=>c8 g R x fun v=>iN (jO H v) fun t=>fJ (oW neg t) fun v=>K v none
 | .eqs neg ks x y=>c8 g R x fun a=>c8 g R y fun b=>match a,b with
  | .agg as, .agg bs=>iN (DD ks as bs) fun t=>(match neg with
   |true=>K (.sc (.bool !t)) none
   |false=>K (.sc (.bool t)) none)
  |_,_=>False
 | .KA e n=>K (.pt id n 0 0) (some (id, .row e 1 (.sc (.int .u8 0)) (List.replicate n (.sc (.int .u8 0)))))
 | .bad=>False
 | .LY n x i=>c8 g R x fun v=>c8 g R i fun iv=>match v,iv with
  | .pt b len 0 0, .sc (.int _ j)=>fQ H b fun _ sz _ es=>cy g (len=n∧es.length=n∧sz=1)∧cy g (0≤j∧j<n)∧K (.pt b n j.toNat 0) none
  |_,_=>False
 | .MO n x i=>c8 g R x fun v=>c8 g R i fun iv=>match v,iv with
  | .pt b len 0 0, .sc (.int _ j)=>fQ H b fun _ sz _ es=>cy g (len=n∧es.length=n∧sz=1)∧cy g (0≤j∧j<n)∧K (.sv b n j.toNat (n - j.toNat)) none
  |_,_=>False
 | .NH sz x h m=>c8 g R x fun v=>c8 g R h fun a=>c8 g R m fun b=>iN (BP sz a b v) fun r=>fJ r fun r=>K r none
 | .JO sz x lo hi=>c8 g R x fun v=>jM g R (lo.toList++hi.toList) fun bs=>
  iN (qh H sz (match lo with|some _=>bs[0]?|none=>none) (match hi with|some _=>(match lo with|some _=>bs[1]?|none=>bs[0]?)|none=>none) v) fun r=>fJ r fun r=>K r none
 | .IG sz x y=>c8 g R x fun xv=>c8 g R y fun yv=>match xv with
  | .sl b len=>pn g H sz yv fun xs=>fQ H b fun e s d es=>cy g (es.length=len∧s=sz)∧
   K (.sc (.int .i64 (Nat.min xs.length len:Nat))) (some (b, .row e s d (xs.take (Nat.min xs.length len)++es.drop (Nat.min xs.length len))))
  |_=>False
 | .call _ _=>False
 | .KL kt=>K (.mp id) (some (id, .row kt 0 .any (mapA [])))
 | .I3 str ag z ok x k=>c8 g R x fun v=>c8 g R k fun kv=>match kv with
  | .sc kv=>zQ H v fun _ _ _ es=>cy g (j5 str kv=true)∧jj g (xV str kv es (gC ag z)) fun p=>match ok with
   |true=>K (.dE [p.1, .sc (.bool p.2)]) none
   |false=>fJ p.1 fun v=>K v none
  |_=>False
 | .B7 str x k y=>c8 g R x fun v=>c8 g R k fun kv=>c8 g R y fun yv=>match kv with
  | .sc kv=>zQ H v fun b e d es=>cy g (j5 str kv=true)∧jj g (A4 str kv es yv) fun es'=>K .any (some (b, .row e 0 d (mapA es')))
  |_=>False
 | .xN x=>c8 g R x fun v=>zQ H v fun _ _ _ es=>K (.sc (.int .i64 (es.length:Nat))) none
 | .del str x k=>c8 g R x fun v=>c8 g R k fun kv=>match kv with
  | .sc kv=>zQ H v fun b e d es=>cy g (j5 str kv=true)∧jj g (N8 str kv es) fun es'=>K (.dE []) (some (b, .row e 0 d (mapA es')))
  |_=>False
 | .ze sz v=>K (.agg (List.replicate sz (.sc v))) none
 | .uH e sz v=>K (.pt id 1 0 0) (some (id, .row e sz (.agg (List.replicate sz (.sc v))) [.agg (List.replicate sz (.sc v))]))
 | .OH t ok ag z x=>c8 g R x fun v=>match v with
  | .kq t' v=>(bif Nat.beq t' t then(match ok with
   |true=>K (.dE [v, .sc (.bool true)]) none
   |false=>fJ v fun v=>K v none) else(match ok with
   |true=>K (.dE [gC ag z, .sc (.bool false)]) none
   |false=>False))
  |_=>False
end
theorem y0 {f:Fr} {R:Raw}:∀{ps:List (Nat×Nat×dH)},(∀x∈ps.map (·.2.2),ev f x=(R x).2)→KH f ps=List.zipWith (fun p a=>(p.1,p.2.1,a)) ps ((ps.map (·.2.2)).map fun x=>(R x).2)
 |[],_=>rfl
 |(i,j,x)::ps,h=>by
  simp only[KH,List.map_cons,List.zipWith_cons_cons]
  rw[h x (by simp),y0 fun y hy=>h y (by simp only[List.map_cons,List.mem_cons];exact .inr hy)]
theorem y5 {f:Fr} {R:Raw}:∀{ps:List (Nat×dH)},(∀x∈ps.map (·.2),ev f x=(R x).2)→y4 f ps=List.zipWith (fun p a=>(p.1,a)) ps ((ps.map (·.2)).map fun x=>(R x).2)
 |[],_=>rfl
 |(i,x)::ps,h=>by
  simp only[y4,List.map_cons,List.zipWith_cons_cons]
  rw[h x (by simp),y5 fun y hy=>h y (by simp only[List.map_cons,List.mem_cons];exact .inr hy)]
theorem AO {g:Option Bool} {ag:Bool} {k:Nat} {e:AV} {sz off:Nat} {K:AV→Prop} (h:PC g ag k e sz off K):∃r,K r∧(Gd g→wY ag k e sz off=some r):=by
 unfold PC at h
 cases ag with
 |true=>
  simp only at h
  cases e
  case agg cs=>
   simp only at h
   by_cases hb:off=0∧k=sz
   ·have hb':(Nat.beq off 0&&Nat.beq k sz)=true:=by
     obtain⟨rfl,rfl⟩:=hb;simp
    rw[hb'] at h
    exact⟨_,h,fun _=>by simp[wY,hb.1,hb.2]⟩
   ·have hb':(Nat.beq off 0&&Nat.beq k sz)=false:=by
     cases hc:(Nat.beq off 0&&Nat.beq k sz) with
     |false=>rfl
     |true=>
      rw[Bool.and_eq_true] at hc
      exact absurd ⟨Nat.eq_of_beq_eq_true hc.1,Nat.eq_of_beq_eq_true hc.2⟩ hb
    rw[hb'] at h
    simp only[cond_false] at h
    refine⟨_,h.2,fun hg=> ?_⟩
    have h1:=cB.1 h.1 hg
    simp only[wY,if_true]
    rw[if_neg hb,if_pos h1]
  all_goals exact h.elim
 |false=>
  have gen:∀e:AV,(bif one e then fJ e K else False)→(wY false k e sz off=if one e then some e else none)→∃r,K r∧(Gd g→wY false k e sz off=some r):=by
   intro e h1 h2
   cases ho:one e with
   |true=>rw[ho,cond_true,eC] at h1;exact⟨_,h1,fun _=>by rw[h2,ho];rfl⟩
   |false=>rw[ho] at h1;exact h1.elim
  cases e
  case agg cs=>
   simp only at h
   have:=h.ok
   rw[eC] at this
   exact⟨_,this,fun _=>by simp[wY]⟩
  case any=>exact⟨_,h,fun _=>by simp[wY]⟩
  all_goals exact gen _ h rfl
theorem vi {g:Option Bool} {H:Hp} {v:AV} {K:Nat→AV→Nat→Prop} (h:lookW g H v K):∃sz e off,K sz e off∧(Gd g→j6 H v=some (sz,e,off)):=by
 unfold lookW at h
 split at h
 ·exact⟨_,_,_,h.ok,fun _=>rfl⟩
 ·obtain⟨e,sz,d,es,h1,h2,h3⟩:=h.ok
  refine⟨_,_,_,h3.ok,fun hg=> ?_⟩
  simp only[j6,h1]
  rw[if_pos (cB.1 h2 hg)]
 ·exact h.elim
theorem jr {g:Option Bool} {H:Hp} {k:Nat} {v:AV} {K:List AV→Prop} (h:pn g H k v K):∃es,K es∧(Gd g→fq H v=some es∧wQ H k v=true):=by
 unfold pn at h
 split at h
 ·rename_i sz d es
  cases hb:Nat.beq sz k with
  |true=>rw[hb] at h;exact⟨_,h,fun _=>⟨rfl,by simpa[wQ] using hb⟩⟩
  |false=>rw[hb] at h;exact h.elim
 ·obtain⟨e,sz,d,es,h1,h2,h3⟩:=h.ok
  refine⟨_,h3,fun hg=> ?_⟩
  obtain⟨g1,g2⟩:=cB.1 h2 hg
  simp[fq,wQ,h1,g1,g2]
 ·exact⟨_,h,fun _=>⟨rfl,rfl⟩⟩
 ·exact⟨_,h,fun _=>⟨rfl,rfl⟩⟩
 ·obtain⟨e,sz,d,es,h1,h2,h3⟩:=h.ok
  refine⟨_,h3,fun hg=> ?_⟩
  obtain⟨g1,g2⟩:=cB.1 h2 hg
  simp[fq,wQ,h1,g1,g2]
 ·exact h.elim
set_option maxHeartbeats 4000000 in
theorem jG {g:Option Bool} {H:Hp} {R:Raw} {id:Nat} {op:cg} {K:AV→Option (Nat×dx)→Prop} (h:nE g H R id op K):
 ∃r u,K r u∧(Gd g→(op.rd=true→∀x∈op.dM,A9 R x)∧∀f,(∀x,A9 R x→ev f x=(R x).2)→bo id f H op=some (r,u)):=by
 cases op
 case mv x=>
  obtain⟨h1,h2⟩:=bt h
  rw[eC] at h2
  exact⟨_,_,h2,fun hg=>⟨fun hr=>by simp[cg.rd] at hr,fun f hf=>by simp only[bo,hf x (h1 hg)]⟩⟩
 case pick c a b=>
  obtain⟨h1,h2⟩:=bt h
  split at h2
  ·rename_i t ht
   simp only[eC] at h2
   have key:∀{q:Option Bool} {p:Prop} {A:Prop},(match q with|none=>A|some q=>cy g (p→q=true)∧A)→A∧(Gd g→p→∀q',q=some q'→q'=true):=by
    intro q p A h
    cases q with
    |none=>exact⟨h,fun _ _ _ hq=>by cases hq⟩
    |some q=>exact⟨h.2,fun hg hp q' hq=>by cases hq;exact cB.1 h.1 hg hp⟩
   obtain⟨h3,ha⟩:=key h2
   obtain⟨h4,hb⟩:=key h3
   refine⟨_,_,h4,fun hg=>⟨fun hr=>by simp[cg.rd] at hr,fun f hf=> ?_⟩⟩
   simp only[bo,hf c (h1 hg),ht]
   congr 2
   cases t with
   |true=>rw[qc,qc,hf a (ha hg rfl)]
   |false=>rw[oS,oS,hf b (hb hg rfl)]
  ·exact h2.elim
 case alloc e sz ag z=>
  refine⟨_,_,h.2,fun hg=>⟨fun hr=>by simp[cg.rd] at hr,fun f hf=> ?_⟩⟩
  simp only[bo];rw[if_pos (cB.1 h.1 hg)]
 case box e sz ag x=>
  obtain⟨h1,h2⟩:=bt h
  refine⟨_,_,h2.2,fun hg=>⟨fun hr=>by simp[cg.rd] at hr,fun f hf=> ?_⟩⟩
  simp only[bo,hf x (h1 hg)];rw[if_pos (cB.1 h2.1 hg)]
 case M7 z ps=>
  obtain⟨h1,h2⟩:=eQ h
  obtain⟨cs,h3,h4⟩:=h2.ok
  refine⟨_,_,h4,fun hg=>⟨fun hr=>by simp[cg.rd] at hr,fun f hf=> ?_⟩⟩
  simp only[bo]
  rw[y0 (R:=R) fun x hx=>hf x (h1 hg x hx),h3]
 case KC e sz ag z n ps=>
  obtain⟨h1,h2⟩:=eQ h
  refine⟨_,_,h2.2,fun hg=>⟨fun hr=>by simp[cg.rd] at hr,fun f hf=> ?_⟩⟩
  have h3:=cB.1 h2.1 hg
  simp only[bo]
  rw[y5 (R:=R) fun x hx=>hf x (h1 hg x hx),if_pos h3]
 case ld ag k x=>
  obtain⟨h1,h2⟩:=bt h
  obtain⟨sz,e,off,h3,h4⟩:=vi h2
  obtain⟨r,h5,h6⟩:=AO h3
  refine⟨_,_,h5,fun hg=>⟨fun _ y hy=>by simp[cg.dM] at hy;subst hy;exact h1 hg,fun f hf=> ?_⟩⟩
  simp only[bo,hf x (h1 hg),h4 hg,h6 hg,Option.map_some]
 case st ag k x y=>
  obtain⟨h1,h2⟩:=bt h
  obtain⟨h3,h4⟩:=bt h2
  split at h4
  ·rename_i b len i off hx
   obtain⟨e,sz,d,es,g1,g2,g3⟩:=h4.ok
   obtain⟨e',g4,g5⟩:=g3.ok.ok
   refine⟨_,_,g5,fun hg=>⟨fun _ z hz=>by simp[cg.dM] at hz;rcases hz with rfl|rfl;exact h1 hg;exact h3 hg,fun f hf=> ?_⟩⟩
   simp only[bo,hf x (h1 hg),hf y (h3 hg),hx,g1,g4]
   rw[if_pos (cB.1 g2 hg)]
  ·exact h4.elim
 case OA x=>
  obtain⟨h1,h2⟩:=bt h
  split at h2
  all_goals first
   |exact h2.elim
   |(rename_i hx;exact⟨_,_,h2,fun hg=>⟨fun hr=>by simp[cg.rd] at hr,fun f hf=>by simp only[bo,hf x (h1 hg),hx]⟩⟩)
 case bin op x y=>
  obtain⟨h1,h2⟩:=bt h
  obtain⟨h3,h4⟩:=bt h2
  split at h4
  all_goals first
   |exact h4.elim
   |(rename_i hx hy;obtain⟨q1,q2⟩:=h4;obtain⟨m,q3,q4⟩:=q2.ok;refine⟨_,_,q4,fun hg=>⟨fun hr=>by simp[cg.rd] at hr,fun f hf=> ?_⟩⟩;simp only[bo,hf x (h1 hg),hf y (h3 hg),hx,hy,zb];rw[if_pos (cB.1 q1 hg),q3 hg];rfl)
   |(rename_i hx hy;refine⟨_,_,h4.2,fun hg=>⟨fun hr=>by simp[cg.rd] at hr,fun f hf=> ?_⟩⟩;simp only[bo,hf x (h1 hg),hf y (h3 hg),hx,hy,zb];rw[if_pos (cB.1 h4.1 hg)];rfl)
 case M8 neg x y=>
  obtain⟨h1,h2⟩:=bt h
  obtain⟨h3,h4⟩:=bt h2
  split at h4
  ·rename_i p q hx hy
   cases neg
   all_goals exact⟨_,_,h4,fun hg=>⟨fun hr=>by simp[cg.rd] at hr,fun f hf=>by simp[bo,hf x (h1 hg),hf y (h3 hg),hx,hy]⟩⟩
  ·exact h4.elim
 case ry neg x y=>
  obtain⟨h1,h2⟩:=bt h
  obtain⟨h3,h4⟩:=bt h2
  split at h4
  ·rename_i p q hx hy
   cases neg
   all_goals exact⟨_,_,h4,fun hg=>⟨fun hr=>by simp[cg.rd] at hr,fun f hf=>by simp[bo,hf x (h1 hg),hf y (h3 hg),hx,hy]⟩⟩
  ·exact h4.elim
 case zf op x y=>
  obtain⟨h1,h2⟩:=bt h
  obtain⟨h3,h4⟩:=bt h2
  split at h4
  ·rename_i p q hx hy
   cases op
   case add=>exact⟨_,_,h4.2,fun hg=>⟨fun hr=>by simp[cg.rd] at hr,fun f hf=>by simp only[bo,hf x (h1 hg),hf y (h3 hg),hx,hy,G7];rw[if_pos (cB.1 h4.1 hg)];rfl⟩⟩
   case lss=>exact⟨_,_,h4,fun hg=>⟨fun hr=>by simp[cg.rd] at hr,fun f hf=>by simp only[bo,hf x (h1 hg),hf y (h3 hg),hx,hy,G7];rfl⟩⟩
   all_goals exact h4.elim
  ·exact h4.elim
 case HZ sz ag z x=>
  obtain⟨h1,h2⟩:=bt h
  split at h2
  ·rename_i b len lo n hx
   obtain⟨e,s,d,es,q1,q2,q3⟩:=h2.ok
   exact⟨_,_,q3,fun hg=>⟨fun hr y hy=>by simp[cg.dM] at hy;subst hy;exact h1 hg,fun f hf=>by
    simp only[bo,hf x (h1 hg),hx,q1];rw[if_pos (cB.1 q2 hg)]⟩⟩
  ·exact h2.elim
 case K7 x=>
  obtain⟨h1,h2⟩:=bt h
  obtain⟨xs,h3,h4⟩:=jr h2
  obtain⟨ns,h5,h6⟩:=h3.ok
  exact⟨_,_,h6,fun hg=>⟨fun hr y hy=>by simp[cg.dM] at hy;subst hy;exact h1 hg,fun f hf=>by
   obtain⟨q1,q2⟩:=h4 hg
   simp only[bo,hf x (h1 hg),q1,q2,if_true,h5 hg,Option.map_some]⟩⟩
 case un op x=>
  obtain⟨h1,h2⟩:=bt h
  split at h2
  all_goals first
   |exact h2.elim
   |(rename_i hx;obtain⟨m,q3,q4⟩:=h2.ok;exact⟨_,_,q4,fun hg=>⟨fun hr=>by simp[cg.rd] at hr,fun f hf=>by simp only[bo,hf x (h1 hg),hx,OK,Option.map_some,q3 hg]⟩⟩)
   |(rename_i hx;exact⟨_,_,h2,fun hg=>⟨fun hr=>by simp[cg.rd] at hr,fun f hf=>by simp only[bo,hf x (h1 hg),hx,OK,Option.map_some]⟩⟩)
 case NU k x=>
  obtain⟨h1,h2⟩:=bt h
  split at h2
  all_goals first
   |exact h2.elim
   |(rename_i hx;obtain⟨m,q3,q4⟩:=h2.ok;exact⟨_,_,q4,fun hg=>⟨fun hr=>by simp[cg.rd] at hr,fun f hf=>by simp only[bo,hf x (h1 hg),hx,q3 hg]⟩⟩)
 case fa off x=>
  obtain⟨h1,h2⟩:=bt h
  have hr:Gd g→((cg.fa off x).rd=true→∀y∈(cg.fa off x).dM,A9 R y):=fun hg _ y hy=>by simp[cg.dM] at hy;subst hy;exact h1 hg
  split at h2
  ·rename_i hx
   refine⟨_,_,h2.2,fun hg=>⟨hr hg,fun f hf=> ?_⟩⟩
   simp only[bo,hf x (h1 hg),hx];rw[if_pos (cB.1 h2.1 hg)]
  ·rename_i hx
   obtain⟨e,sz,d,es,g1,g2,g3⟩:=h2.ok
   refine⟨_,_,g3,fun hg=>⟨hr hg,fun f hf=> ?_⟩⟩
   simp only[bo,hf x (h1 hg),hx,g1];rw[if_pos (cB.1 g2 hg)]
  ·exact h2.elim
 case ia k n x i=>
  obtain⟨h1,h2⟩:=bt h
  obtain⟨h3,h4⟩:=bt h2
  have hr:Gd g→((cg.ia k n x i).rd=true→∀y∈(cg.ia k n x i).dM,A9 R y):=fun hg _ y hy=>by simp[cg.dM] at hy;rcases hy with rfl|rfl;exact h1 hg;exact h3 hg
  split at h4
  ·rename_i kk j hi
   cases n with
   |none=>
    simp only at h4
    split at h4
    ·rename_i hx
     refine⟨_,_,h4.2.2,fun hg=>⟨hr hg,fun f hf=> ?_⟩⟩
     simp only[bo,hf x (h1 hg),hf i (h3 hg),hx,hi,D7]
     rw[if_pos ⟨cB.1 h4.1 hg,cB.1 h4.2.1 hg⟩];rfl
    ·rename_i hx
     obtain⟨e,sz,d,es,g1,g2,g3,g4⟩:=h4.ok
     refine⟨_,_,g4,fun hg=>⟨hr hg,fun f hf=> ?_⟩⟩
     obtain⟨q1,q2⟩:=cB.1 g2 hg
     simp only[bo,hf x (h1 hg),hf i (h3 hg),hx,hi,D7,g1]
     rw[if_pos ⟨q1,q2,cB.1 g3 hg⟩];rfl
    ·rename_i hx
     obtain⟨e,sz,d,es,g1,g2,g3,g4⟩:=h4.ok
     refine⟨_,_,g4,fun hg=>⟨hr hg,fun f hf=> ?_⟩⟩
     obtain⟨q1,q2⟩:=cB.1 g2 hg
     simp only[bo,hf x (h1 hg),hf i (h3 hg),hx,hi,D7,g1]
     rw[if_pos ⟨q1,q2,cB.1 g3 hg⟩];rfl
    ·exact h4.elim
   |some m=>
    simp only at h4
    split at h4
    ·rename_i hx
     refine⟨_,_,h4.2.2,fun hg=>⟨hr hg,fun f hf=> ?_⟩⟩
     simp only[bo,hf x (h1 hg),hf i (h3 hg),hx,hi,D7]
     rw[if_pos ⟨cB.1 h4.1 hg,cB.1 h4.2.1 hg⟩];rfl
    ·rename_i hx
     obtain⟨e,sz,d,es,g1,g2,g3,g4⟩:=h4.ok
     refine⟨_,_,g4,fun hg=>⟨hr hg,fun f hf=> ?_⟩⟩
     obtain⟨q1,q2⟩:=cB.1 g2 hg
     simp only[bo,hf x (h1 hg),hf i (h3 hg),hx,hi,D7,g1]
     rw[if_pos ⟨q1,q2,cB.1 g3 hg⟩];rfl
    ·exact h4.elim
  ·exact h4.elim
 case NY off k ag x=>
  obtain⟨h1,h2⟩:=bt h
  split at h2
  ·rename_i cs hx
   cases ag with
   |true=>
    refine⟨_,_,h2.2,fun hg=>⟨fun hr=>by simp[cg.rd] at hr,fun f hf=> ?_⟩⟩
    simp only[bo,hf x (h1 hg),hx,if_true];rw[if_pos (cB.1 h2.1 hg)]
   |false=>
    have h3:=h2.2.ok
    rw[eC] at h3
    refine⟨_,_,h3,fun hg=>⟨fun hr=>by simp[cg.rd] at hr,fun f hf=> ?_⟩⟩
    obtain⟨q1,q2⟩:=cB.1 h2.1 hg
    simp only[bo,hf x (h1 hg),hx,Bool.false_eq_true,if_false];rw[if_pos q1,if_pos q2]
  ·exact h2.elim
 case ix k ag n x i=>
  obtain⟨h1,h2⟩:=bt h
  obtain⟨h3,h4⟩:=bt h2
  split at h4
  ·rename_i cs kk j hx hi
   obtain⟨p1,p2,p3⟩:=h4
   cases ag with
   |true=>
    refine⟨_,_,p3,fun hg=>⟨fun hr=>by simp[cg.rd] at hr,fun f hf=> ?_⟩⟩
    have q2:=cB.1 p2 hg
    simp only[bo,hf x (h1 hg),hf i (h3 hg),hx,hi,if_true];rw[if_pos ⟨q2.1,q2.2,cB.1 p1 hg⟩]
   |false=>
    have h5:=p3.2.ok
    rw[eC] at h5
    refine⟨_,_,h5,fun hg=>⟨fun hr=>by simp[cg.rd] at hr,fun f hf=> ?_⟩⟩
    have q2:=cB.1 p2 hg
    simp only[bo,hf x (h1 hg),hf i (h3 hg),hx,hi,Bool.false_eq_true,if_false];rw[if_pos ⟨q2.1,q2.2,cB.1 p1 hg⟩,if_pos (cB.1 p3.1 hg)]
  ·exact h4.elim
 case N2 x i=>
  obtain⟨h1,h2⟩:=bt h
  obtain⟨h3,h4⟩:=bt h2
  split at h4
  ·rename_i hx hi
   refine⟨_,_,h4.2,fun hg=>⟨fun hr=>by simp[cg.rd] at hr,fun f hf=> ?_⟩⟩
   simp only[bo,hf x (h1 hg),hf i (h3 hg),hx,hi];rw[if_pos (cB.1 h4.1 hg)]
  ·exact h4.elim
 case lens x=>
  obtain⟨h1,h2⟩:=bt h
  split at h2
  all_goals first
   |exact h2.elim
   |(rename_i hx;exact⟨_,_,h2,fun hg=>⟨fun hr=>by simp[cg.rd] at hr,fun f hf=>by simp only[bo,hf x (h1 hg),hx]⟩⟩)
 case MA e sz bytes ag z l c=>
  obtain⟨h1,h2⟩:=bt h
  obtain⟨h3,h4⟩:=bt h2
  split at h4
  ·rename_i hx hi
   refine⟨_,_,h4.2.2,fun hg=>⟨fun hr=>by simp[cg.rd] at hr,fun f hf=> ?_⟩⟩
   obtain⟨q1,q2⟩:=cB.1 h4.1 hg
   obtain⟨q3,q4,q5⟩:=cB.1 h4.2.1 hg
   simp only[bo,hf l (h1 hg),hf c (h3 hg),hx,hi];rw[if_pos ⟨q1,q3,q2,q4,q5⟩]
  ·exact h4.elim
 case ext i x=>
  obtain⟨h1,h2⟩:=bt h
  split at h2
  ·rename_i hx
   have h3:=h2.2.ok
   rw[eC] at h3
   refine⟨_,_,h3,fun hg=>⟨fun hr=>by simp[cg.rd] at hr,fun f hf=> ?_⟩⟩
   simp only[bo,hf x (h1 hg),hx];rw[if_pos (cB.1 h2.1 hg)]
  ·exact h2.elim
 case NG fn first caps=>
  obtain⟨h1,h2⟩:=eQ h
  obtain⟨h3,h4⟩:=eQ h2
  refine⟨_,_,h4,fun hg=>⟨fun hr=>by simp[cg.rd] at hr,fun f hf=> ?_⟩⟩
  simp only[bo]
  rw[jt (R:=R) fun x hx=>hf x (h1 hg x hx),jt (R:=R) fun x hx=>hf x (h3 hg x hx)]
 case N9 t x=>
  obtain⟨h1,h2⟩:=bt h
  exact⟨_,_,h2,fun hg=>⟨fun hr=>by simp[cg.rd] at hr,fun f hf=>by simp only[bo,hf x (h1 hg)]⟩⟩
 case len x=>
  obtain⟨h1,h2⟩:=bt h
  have hr:Gd g→((cg.len x).rd=true→∀y∈(cg.len x).dM,A9 R y):=fun hg _ y hy=>by simp[cg.dM] at hy;subst hy;exact h1 hg
  split at h2
  ·rename_i hx;exact⟨_,_,h2,fun hg=>⟨hr hg,fun f hf=>by simp only[bo,hf x (h1 hg),hx,qS]⟩⟩
  ·rename_i hx
   obtain⟨e,sz,d,es,g1,g2,g3⟩:=h2.ok
   refine⟨_,_,g3,fun hg=>⟨hr hg,fun f hf=> ?_⟩⟩
   simp only[bo,hf x (h1 hg),hx,qS,g1];rw[if_pos (cB.1 g2 hg)]
  ·rename_i hx;exact⟨_,_,h2,fun hg=>⟨hr hg,fun f hf=>by simp[bo,hf x (h1 hg),hx,qS]⟩⟩
  ·rename_i hx;exact⟨_,_,h2,fun hg=>⟨hr hg,fun f hf=>by simp[bo,hf x (h1 hg),hx,qS]⟩⟩
  ·rename_i hx;exact⟨_,_,h2,fun hg=>⟨hr hg,fun f hf=>by simp only[bo,hf x (h1 hg),hx,qS]⟩⟩
  ·exact h2.elim
 case app e sz bytes ag z s x=>
  obtain⟨h1,h2⟩:=bt h
  obtain⟨h3,h4⟩:=bt h2
  obtain⟨xs,⟨h5,h5'⟩,h6⟩:=jr h4
  have hr:Gd g→((cg.app e sz bytes ag z s x).rd=true→∀y∈(cg.app e sz bytes ag z s x).dM,A9 R y):=fun hg _ y hy=>by simp[cg.dM] at hy;rcases hy with rfl|rfl;exact h1 hg;exact h3 hg
  split at h5'
  ·rename_i hx
   refine⟨_,_,h5'.2,fun hg=>⟨hr hg,fun f hf=> ?_⟩⟩
   obtain⟨q1,q2⟩:=h6 hg
   simp only[bo,hf s (h1 hg),hf x (h3 hg),hx,q1];rw[if_pos ⟨q2,cB.1 h5 hg⟩,if_pos (cB.1 h5'.1 hg)]
  ·rename_i hx
   obtain⟨e',sz',d,es,g1,g2,g3,g4⟩:=h5'.ok
   refine⟨_,_,g4,fun hg=>⟨hr hg,fun f hf=> ?_⟩⟩
   obtain⟨q1,q2⟩:=h6 hg
   obtain⟨q3,q4,q5⟩:=cB.1 g2 hg
   simp only[bo,hf s (h1 hg),hf x (h3 hg),hx,q1,g1];rw[if_pos ⟨q2,cB.1 h5 hg⟩,if_pos ⟨q3,q4,q5,cB.1 g3 hg⟩]
  ·exact h5'.elim
 case CO e bytes z s x=>
  obtain⟨h1,h2⟩:=bt h
  obtain⟨h3,h4⟩:=bt h2
  have hr:Gd g→((cg.CO e bytes z s x).rd=true→∀y∈(cg.CO e bytes z s x).dM,A9 R y):=fun hg _ y hy=>by simp[cg.dM] at hy;rcases hy with rfl|rfl;exact h1 hg;exact h3 hg
  split at h4
  ·rename_i q hq
   split at h4
   ·rename_i hx
    refine⟨_,_,h4.2,fun hg=>⟨hr hg,fun f hf=> ?_⟩⟩
    simp only[bo,hf s (h1 hg),hf x (h3 hg),hx,hq];rw[if_pos (cB.1 h4.1 hg)]
   ·rename_i hx
    obtain⟨e',sz',d,es,g1,g2,g3,g4⟩:=h4.ok
    refine⟨_,_,g4,fun hg=>⟨hr hg,fun f hf=> ?_⟩⟩
    obtain⟨q3,q4,q5⟩:=cB.1 g2 hg
    simp only[bo,hf s (h1 hg),hf x (h3 hg),hx,hq,g1];rw[if_pos ⟨q3,q4,q5,cB.1 g3 hg⟩]
   ·exact h4.elim
  ·exact h4.elim
 case A6 neg x=>
  obtain⟨h1,h2⟩:=bt h
  split at h2
  all_goals first
   |exact h2.elim
   |(rename_i hx;exact⟨_,_,h2,fun hg=>⟨fun hr=>by simp[cg.rd] at hr,fun f hf=>by simp only[bo,hf x (h1 hg),hx]⟩⟩)
 case vr neg x=>
  obtain⟨h1,h2⟩:=bt h
  obtain⟨t,h3,h4⟩:=h2.ok
  rw[eC] at h4
  refine⟨_,_,h4,fun hg=>⟨fun _ y hy=>by simp[cg.dM] at hy;subst hy;exact h1 hg,fun f hf=> ?_⟩⟩
  simp only[bo,hf x (h1 hg),h3]
 case eqs neg ks x y=>
  obtain⟨h1,h2⟩:=bt h
  obtain⟨h3,h4⟩:=bt h2
  split at h4
  ·rename_i hx hy
   obtain⟨t,g1,g2⟩:=h4.ok
   cases neg
   all_goals exact⟨_,_,g2,fun hg=>⟨fun hr=>by simp[cg.rd] at hr,fun f hf=>by simp[bo,hf x (h1 hg),hf y (h3 hg),hx,hy,g1]⟩⟩
  ·exact h4.elim
 case JO sz x lo hi=>
  obtain⟨h1,h2⟩:=bt h
  obtain⟨h3,h4⟩:=eQ h2
  obtain⟨r,g1,g2⟩:=h4.ok
  rw[eC] at g2
  refine⟨_,_,g2,fun hg=>⟨fun _ y hy=> ?_,fun f hf=> ?_⟩⟩
  ·simp only[cg.dM,List.mem_append,List.mem_singleton] at hy
   rcases hy with(rfl|hy)|hy
   ·exact h1 hg
   ·exact h3 hg y (by simp only[List.mem_append];exact .inl hy)
   ·exact h3 hg y (by simp only[List.mem_append];exact .inr hy)
  ·simp only[bo,hf x (h1 hg)]
   have e1:∀y∈lo.toList++hi.toList,ev f y=(R y).2:=fun y hy=>hf y (h3 hg y hy)
   cases lo<;>cases hi<;>simp_all
 case LY n x i=>
  obtain⟨h1,h2⟩:=bt h
  obtain⟨h3,h4⟩:=bt h2
  split at h4
  ·rename_i b len kk j hx hi
   obtain⟨e,sz,d,es,g1,g2,g3,g4⟩:=h4.ok
   refine⟨_,_,g4,fun hg=>⟨fun _ y hy=>by simp[cg.dM] at hy;rcases hy with rfl|rfl;exact h1 hg;exact h3 hg,fun f hf=> ?_⟩⟩
   obtain⟨q1,q2,q3⟩:=cB.1 g2 hg
   obtain⟨q4,q5⟩:=cB.1 g3 hg
   simp only[bo,hf x (h1 hg),hf i (h3 hg),hx,hi,xI,g1]
   rw[if_pos ⟨q1,q2,q3,q4,q5⟩];rfl
  ·exact h4.elim
 case MO n x i=>
  obtain⟨h1,h2⟩:=bt h
  obtain⟨h3,h4⟩:=bt h2
  split at h4
  ·rename_i b len kk j hx hi
   obtain⟨e,sz,d,es,g1,g2,g3,g4⟩:=h4.ok
   refine⟨_,_,g4,fun hg=>⟨fun _ y hy=>by simp[cg.dM] at hy;rcases hy with rfl|rfl;exact h1 hg;exact h3 hg,fun f hf=> ?_⟩⟩
   obtain⟨q1,q2,q3⟩:=cB.1 g2 hg
   obtain⟨q4,q5⟩:=cB.1 g3 hg
   simp only[bo,hf x (h1 hg),hf i (h3 hg),hx,hi,xx,g1]
   rw[if_pos ⟨q1,q2,q3,q4,q5⟩];rfl
  ·exact h4.elim
 case bad=>exact h.elim
 case KA e n=>exact⟨_,_,h,fun hg=>⟨fun hr=>by simp[cg.rd] at hr,fun f hf=>rfl⟩⟩
 case NH sz x a b=>
  obtain⟨h1,h2⟩:=bt h
  obtain⟨h3,h4⟩:=bt h2
  obtain⟨h5,h6⟩:=bt h4
  obtain⟨r,g1,g2⟩:=h6.ok
  rw[eC] at g2
  refine⟨_,_,g2,fun hg=>⟨fun _ y hy=> ?_,fun f hf=> ?_⟩⟩
  ·simp only[cg.dM,List.mem_cons,List.not_mem_nil,or_false] at hy
   rcases hy with rfl|rfl|rfl
   ·exact h1 hg
   ·exact h3 hg
   ·exact h5 hg
  ·simp only[bo,hf x (h1 hg),hf a (h3 hg),hf b (h5 hg),g1]
   rfl
 case IG sz x y=>
  obtain⟨h1,h2⟩:=bt h
  obtain⟨h3,h4⟩:=bt h2
  split at h4
  ·rename_i b len hx
   obtain⟨xs,h5,h6⟩:=jr h4
   obtain⟨e,s,d,es,g1,g2,g3⟩:=h5.ok
   refine⟨_,_,g3,fun hg=>⟨fun _ z hz=>by simp[cg.dM] at hz;rcases hz with rfl|rfl;exact h1 hg;exact h3 hg,fun f hf=> ?_⟩⟩
   obtain⟨q1,q2⟩:=h6 hg
   obtain⟨q3,q4⟩:=cB.1 g2 hg
   simp only[bo,hf x (h1 hg),hf y (h3 hg),hx,q1,g1];rw[if_pos ⟨q3,q4,q2⟩]
  ·exact h4.elim
 case call f as=>exact h.elim
 case KL kt=>exact⟨_,_,h,fun hg=>⟨fun hr=>by simp[cg.rd] at hr,fun f hf=>rfl⟩⟩
 case ze sz v=>exact⟨_,_,h,fun hg=>⟨fun hr=>by simp[cg.rd] at hr,fun f hf=>rfl⟩⟩
 case uH e sz v=>exact⟨_,_,h,fun hg=>⟨fun hr=>by simp[cg.rd] at hr,fun f hf=>rfl⟩⟩
 case xN x=>
  obtain⟨h1,h2⟩:=bt h
  obtain⟨b,e,d,es,h3,h4⟩:=jk h2
  exact⟨_,_,h4,fun hg=>⟨fun _ y hy=>by simp[cg.dM] at hy;subst hy;exact h1 hg,fun f hf=>by simp only[bo,hf x (h1 hg),h3]⟩⟩
 case I3 str ag z ok x k=>
  obtain⟨h1,h2⟩:=bt h
  obtain⟨h3,h4⟩:=bt h2
  have hr:Gd g→((cg.I3 str ag z ok x k).rd=true→∀y∈(cg.I3 str ag z ok x k).dM,A9 R y):=fun hg _ y hy=>by simp[cg.dM] at hy;rcases hy with rfl|rfl;exact h1 hg;exact h3 hg
  split at h4
  ·rename_i kv hk
   obtain⟨b,e,d,es,h5,h6,h7⟩:=jk h4
   obtain⟨p,h8,h9⟩:=h7.ok
   cases ok with
   |true=>
    refine⟨_,_,h9,fun hg=>⟨hr hg,fun f hf=> ?_⟩⟩
    have h10:=h8 hg
    unfold xV at h10
    simp only[bo,hf x (h1 hg),hf k (h3 hg),h5,hk]
    rw[if_pos (cB.1 h6 hg)]
    split at h10<;>simp only[Option.some.injEq,reduceCtorEq] at h10
    ·subst h10;simp_all
    ·subst h10;simp_all
   |false=>
    simp only[eC] at h9
    refine⟨_,_,h9,fun hg=>⟨hr hg,fun f hf=> ?_⟩⟩
    have h10:=h8 hg
    unfold xV at h10
    simp only[bo,hf x (h1 hg),hf k (h3 hg),h5,hk]
    rw[if_pos (cB.1 h6 hg)]
    split at h10<;>simp only[Option.some.injEq,reduceCtorEq] at h10
    ·subst h10;simp_all
    ·subst h10;simp_all
  ·exact h4.elim
 case B7 str x k y=>
  obtain⟨h1,h2⟩:=bt h
  obtain⟨h3,h4⟩:=bt h2
  obtain⟨h3',h4'⟩:=bt h4
  have hr:Gd g→((cg.B7 str x k y).rd=true→∀w∈(cg.B7 str x k y).dM,A9 R w):=fun hg _ w hy=>by simp[cg.dM] at hy;rcases hy with rfl|rfl|rfl;exact h1 hg;exact h3 hg;exact h3' hg
  split at h4'
  ·rename_i kv hk
   obtain⟨b,e,d,es,h5,h6,h7⟩:=jk h4'
   obtain⟨p,h8,h9⟩:=h7.ok
   refine⟨_,_,h9,fun hg=>⟨hr hg,fun f hf=> ?_⟩⟩
   have h10:=h8 hg
   unfold A4 at h10
   simp only[bo,hf x (h1 hg),hf k (h3 hg),hf y (h3' hg),h5,hk]
   rw[if_pos (cB.1 h6 hg)]
   split at h10<;>simp only[Option.some.injEq,reduceCtorEq] at h10
   ·subst h10;simp_all[wX]
   ·subst h10;simp_all[wX]
  ·exact h4'.elim
 case del str x k=>
  obtain⟨h1,h2⟩:=bt h
  obtain⟨h3,h4⟩:=bt h2
  have hr:Gd g→((cg.del str x k).rd=true→∀y∈(cg.del str x k).dM,A9 R y):=fun hg _ y hy=>by simp[cg.dM] at hy;rcases hy with rfl|rfl;exact h1 hg;exact h3 hg
  split at h4
  ·rename_i kv hk
   obtain⟨b,e,d,es,h5,h6,h7⟩:=jk h4
   obtain⟨p,h8,h9⟩:=h7.ok
   refine⟨_,_,h9,fun hg=>⟨hr hg,fun f hf=> ?_⟩⟩
   have h10:=h8 hg
   unfold N8 at h10
   simp only[bo,hf x (h1 hg),hf k (h3 hg),h5,hk]
   rw[if_pos (cB.1 h6 hg)]
   split at h10<;>simp only[Option.some.injEq,reduceCtorEq] at h10
   ·subst h10;simp_all
   ·subst h10;simp_all
  ·exact h4.elim
 case OH t ok ag z x=>
  obtain⟨h1,h2⟩:=bt h
  split at h2
  ·rename_i t' v hx
   cases hb:Nat.beq t' t with
   |true=>
    rw[hb] at h2
    have e:=Nat.eq_of_beq_eq_true hb
    cases ok with
    |true=>
     simp only[cond_true] at h2
     exact⟨_,_,h2,fun hg=>⟨fun hr=>by simp[cg.rd] at hr,fun f hf=>by simp only[bo,hf x (h1 hg),hx];rw[if_pos e];rfl⟩⟩
    |false=>
     simp only[cond_true,eC] at h2
     exact⟨_,_,h2,fun hg=>⟨fun hr=>by simp[cg.rd] at hr,fun f hf=>by simp only[bo,hf x (h1 hg),hx];rw[if_pos e];rfl⟩⟩
   |false=>
    rw[hb] at h2
    have e:¬t'=t:=fun e=>by rw[e] at hb;simp at hb
    cases ok with
    |true=>
     simp only[cond_false] at h2
     exact⟨_,_,h2,fun hg=>⟨fun hr=>by simp[cg.rd] at hr,fun f hf=>by simp only[bo,hf x (h1 hg),hx];rw[if_neg e];rfl⟩⟩
    |false=>exact h2.elim
  ·exact h2.elim
end Go.cU
/- Code as a whole, run by reduction alone; it is so. -/
namespace Go.cU
open Go.RowKit
structure eV (t:Bool) (A B:Prop):Prop where
 ok:(t=true→A)∧(t=false→B)
theorem eV.lt {A B:Prop} (h:A):eV true A B:=⟨⟨fun _=>h,fun h=>(by cases h)⟩⟩
theorem eV.lf {A B:Prop} (h:B):eV false A B:=⟨⟨fun h=>(by cases h),fun _=>h⟩⟩
theorem eV.of {t:Bool} {A B:Prop} (h1:t=true→A) (h2:t=false→B):eV t A B:=⟨⟨h1,h2⟩⟩
structure dg (t want:Bool) (A B J:Prop):Prop where
 ok:((t=want→A)∧(t≠want→B))∨J
theorem dg.tt {A B J:Prop} (h:A):dg true true A B J:=⟨.inl ⟨fun _=>h,fun h=>absurd rfl h⟩⟩
theorem dg.join {t want:Bool} {A B J:Prop} (h:J):dg t want A B J:=⟨.inr h⟩
theorem dg.split {t want:Bool} {A B J:Prop} (h1:t=want→A) (h2:t= !want→B):dg t want A B J:=⟨.inl ⟨h1,fun h=>h2 (by cases t<;>cases want<;>simp_all)⟩⟩
structure fm (P:Program) (f:FuncId) (args:List AV) (H:Hp) (nx:Nat) (K:AV→Hp→Nat→Prop):Prop where
 ok:bw P f args H nx K
structure mD (P:Program) (g:Bool) (f:FuncId) (args:List AV) (H:Hp) (nx:Nat) (K:AV→Prop):Prop where
 ok:∃r,(g=true→∀(K':AV→Hp→Nat→Prop),K' r H (nx+1)→bw P f args H nx K')∧K r
structure kG (P:Program) (id:Nat) (f:FuncId) (args:List AV) (H:Hp) (K:AV→Option (Nat×dx)→List Nat→Prop):Prop where
 ok:∃r u S,lZ P id (.fn (.func f) [] []) args H r u S∧K r u S
structure NL (P:Program) (t:TypeId) (v:AV) (nm:String) (args:List AV) (H:Hp) (nx:Nat) (K:AV→Hp→Nat→Prop):Prop where
 ok:rO P t v nm args H nx K
structure rN (P:Program) (g:Bool) (id:Nat) (f:FuncId) (args:List AV) (H:Hp) (K:AV→List Nat→Prop):Prop where
 ok:∃r S,(g=true→lZ P id (.fn (.func f) [] []) args H r none S)∧K r S
theorem Pure.LB {P:Program} {f:FuncId} {args:List AV} {R:AV→Prop} {H:Hp} {nx:Nat} {K:AV→Hp→Nat→Prop} (h:Pure P f args R) (hf:cH 0 args) (hK:∀r,R r→K r H (nx+1)):bw P f args H nx K:=by
 have:=h.dh (H:=H) (nx:=nx) (K:=fun r H' n=>∃n',n≤n'∧K r H' n') hf fun r hr=>⟨_,Nat.le_succ _,hK r hr⟩
 refine⟨this.1,fun w0 c vs a1 a2 a3 a4=>(this.2 w0 c vs a1 a2 a3 a4).mono ?_⟩
 rintro e w' ⟨v,r,H',nx',ρ,U,he,⟨n',hn,hR⟩,hU,hrest⟩
 exact⟨v,r,H',n',ρ,U,he,hR,fun b hb=>Nat.lt_of_lt_of_le (hU b hb) hn,hrest⟩
theorem fm.pure {P:Program} {f:FuncId} {args:List AV} {R:AV→Prop} {H:Hp} {nx:Nat} {K:AV→Hp→Nat→Prop} (h:Pure P f args R) (hf:cH 0 args) (hK:∀r,R r→K r H nx):fm P f args H nx K:=⟨h.dh hf hK⟩
theorem fm.HH {P:Program} {f:FuncId} {args:List AV} {r:AV} {H:Hp} {nx:Nat} {K:AV→Hp→Nat→Prop} (h:Pure P f args (fun x=>x=r)) (hf:cH 0 args) (hK:K r H nx):fm P f args H nx K:=⟨h.dh hf fun x hx=>by rw[hx];exact hK⟩
theorem fm.of {P:Program} {f:FuncId} {args:List AV} {H:Hp} {nx:Nat} {R K:AV→Hp→Nat→Prop} (h:bw P f args H nx R) (hK:∀r H' nx',R r H' nx'→K r H' nx'):fm P f args H nx K:=⟨h.mono hK⟩
theorem mD.HH {P:Program} {g:Bool} {f:FuncId} {args:List AV} {r:AV} {H:Hp} {nx:Nat} {K:AV→Prop} (h:g=true→Pure P f args (fun x=>x=r)) (hf:cH 0 args) (hK:K r):mD P g f args H nx K:=
 ⟨⟨r,fun hg K' hK'=>(h hg).LB hf fun x hx=>by rw[hx];exact hK',hK⟩⟩
theorem kG.HH {P:Program} {id:Nat} {f:FuncId} {args:List AV} {H:Hp} {r:AV} {K:AV→Option (Nat×dx)→List Nat→Prop} (h:Pure P f args (fun x=>x=r)) (hf:cH 0 args) (hK:K r none []):kG P id f args H K:=
 ⟨⟨r,none,[],Pure.GQ (by simpa using hf) (by simpa using h),hK⟩⟩
theorem rN.HH {P:Program} {g:Bool} {id:Nat} {f:FuncId} {args:List AV} {H:Hp} {r:AV} {K:AV→List Nat→Prop} (h:g=true→Pure P f args (fun x=>x=r)) (hf:cH 0 args) (hK:K r []):rN P g id f args H K:=
 ⟨⟨r,[],fun hg=>Pure.GQ (by simpa using hf) (by simpa using h hg),hK⟩⟩
theorem kG.fresh {P:Program} {id:Nat} {f:FuncId} {args:List AV} {H:Hp} {r:AV} {u:Option (Nat×dx)} (S:List Nat) {K:AV→Option (Nat×dx)→List Nat→Prop}
 (h:∀H1,(∀b∈S,bf H1 b=bf H b)→mC P f args H1 id (fun r' H'=>r'=r∧H'=ca H1 u)) (hu:∀b q,u=some (b,q)→b=id) (hK:K r u S):kG P id f args H K:=
 ⟨⟨r,u,S,⟨by simpa using h,hu⟩,hK⟩⟩
section
variable (P:Program)
noncomputable def uA (nx:Nat) (R:Raw) (H:Hp) (op:cg) (K:AV→Hp→Nat→Prop):Prop:=
 match op with
 | .call f args=>c8 none R f fun fv=>jM none R args fun as=>match fv with
  | .fn (.func g) first caps=>n0 (first++as++caps) fun as=>fm P g as H nx K
  | .fn (.method nm) [.kq t v] []=>n0 as fun as=>NL P t v nm as H nx K
  |_=>False
 |op=>nE none H R nx op fun r u=>K r (ca H u) (nx+1)
noncomputable def kY (nx:Nat) (g:Bool) (R:Raw) (H:Hp) (op:cg) (K:AV→Prop):Prop:=
 match op with
 | .call f args=>c8 (some g) R f fun fv=>jM (some g) R args fun as=>match fv with
  | .fn (.func q) first caps=>n0 (first++as++caps) fun as=>mD P g q as H nx K
  |_=>False
 |op=>nE (some g) H R nx op fun r u=>match u with
  |none=>K r
  |some _=>False
abbrev yN:=Nat→Ov→Fr→Hp→(Ov→Hp→Nat→Prop)→Prop
def uC (nx:Nat) (ov:Ov) (_:Fr) (H:Hp) (K:Ov→Hp→Nat→Prop):Prop:=K ov H nx
noncomputable def nO (g:fZ) (_:List fZ) (ih:yN) (nx:Nat) (ov:Ov) (fr:Fr) (H:Hp) (K:Ov→Hp→Nat→Prop):Prop:=match g.guard with
 |none=>uA P nx (eL ov fr) H g.op fun r H' nx'=>ih nx' (fj ov g.dst none r) fr H' K
 |some (d,want)=>match nd ov fr d with
  |(none, .sc (.bool t))=>dg t want (uA P nx (eL ov fr) H g.op fun r H' nx'=>ih nx' (fj ov g.dst none r) fr H' K) (ih (nx+1) (fj ov g.dst none (.sc undef)) fr H K)
   (match want with
    |true=>kY P nx t (eL ov fr) H g.op fun r=>ih (nx+1) (fj ov g.dst (some t) r) fr H K
    |false=>kY P nx (!t) (eL ov fr) H g.op fun r=>ih (nx+1) (fj ov g.dst (some !t) r) fr H K)
  |(some q, .sc (.bool t))=>(match want with
   |true=>kY P nx (q&&t) (eL ov fr) H g.op fun r=>ih (nx+1) (fj ov g.dst (some (q&&t)) r) fr H K
   |false=>kY P nx (q&& !t) (eL ov fr) H g.op fun r=>ih (nx+1) (fj ov g.dst (some (q&& !t)) r) fr H K)
  |(none, .sc (.tuple _))=>ih (nx+1) (fj ov g.dst none (.sc undef)) fr H K
  |_=>False
noncomputable def zW (nx:Nat) (gs:List fZ) (ov:Ov) (fr:Fr) (H:Hp) (K:Ov→Hp→Nat→Prop):Prop:=List.rec (motive:=fun _=>yN) uC (nO P) gs nx ov fr H K
def AJ (R:Raw) (op:cg):List Nat:=if op.rd then op.dM.flatMap (fun x=>fb (R x).2) else[]
noncomputable def lg (id:Nat) (R:Raw) (H:Hp) (op:cg) (K:AV→Option (Nat×dx)→List Nat→Prop):Prop:=
 match op with
 | .call f args=>c8 none R f fun fv=>jM none R args fun as=>match fv with
  | .fn (.func g) first caps=>n0 (first++as++caps) fun as=>kG P id g as H K
  |_=>False
 |op=>nE none H R id op fun r u=>K r u (AJ R op)
noncomputable def gu (id:Nat) (g:Bool) (R:Raw) (H:Hp) (op:cg) (K:AV→List Nat→Prop):Prop:=
 match op with
 | .call f args=>c8 (some g) R f fun fv=>jM (some g) R args fun as=>match fv with
  | .fn (.func q) first caps=>n0 (first++as++caps) fun as=>rN P g id q as H K
  |_=>False
 |op=>nE (some g) H R id op fun r u=>match u with
  |none=>K r (AJ R op)
  |some _=>False
abbrev OP:=Nat→Ov→Fr→Hp→Tr→(Ov→Hp→Tr→Prop)→Prop
def CD (_:Nat) (ov:Ov) (_:Fr) (H:Hp) (tr:Tr) (K:Ov→Hp→Tr→Prop):Prop:=K ov H tr
noncomputable def mH (g:fZ) (_:List fZ) (ih:OP) (id:Nat) (ov:Ov) (fr:Fr) (H:Hp) (tr:Tr) (K:Ov→Hp→Tr→Prop):Prop:=match g.guard with
 |none=>lg P id (eL ov fr) H g.op fun r u S=>ih (id+1) (fj ov g.dst none r) fr (ca H u) (tr++[(S,u.map (·.1))]) K
 |some (d,want)=>match nd ov fr d with
  |(none, .sc (.bool t))=>dg t want (lg P id (eL ov fr) H g.op fun r u S=>ih (id+1) (fj ov g.dst none r) fr (ca H u) (tr++[(S,u.map (·.1))]) K) (ih (id+1) (fj ov g.dst none (.sc undef)) fr H (tr++[([],none)]) K)
   (match want with
    |true=>gu P id t (eL ov fr) H g.op fun r S=>ih (id+1) (fj ov g.dst (some t) r) fr H (tr++[(S,none)]) K
    |false=>gu P id (!t) (eL ov fr) H g.op fun r S=>ih (id+1) (fj ov g.dst (some !t) r) fr H (tr++[(S,none)]) K)
  |(some q, .sc (.bool t))=>(match want with
   |true=>gu P id (q&&t) (eL ov fr) H g.op fun r S=>ih (id+1) (fj ov g.dst (some (q&&t)) r) fr H (tr++[(S,none)]) K
   |false=>gu P id (q&& !t) (eL ov fr) H g.op fun r S=>ih (id+1) (fj ov g.dst (some (q&& !t)) r) fr H (tr++[(S,none)]) K)
  |(none, .sc (.tuple _))=>ih (id+1) (fj ov g.dst none (.sc undef)) fr H (tr++[([],none)]) K
  |_=>False
noncomputable def WD (id:Nat) (gs:List fZ) (ov:Ov) (fr:Fr) (H:Hp) (tr:Tr) (K:Ov→Hp→Tr→Prop):Prop:=List.rec (motive:=fun _=>OP) CD (mH P) gs id ov fr H tr K
noncomputable def MF (S:List Nat):(List Nat→Prop)→Prop:=List.rec (motive:=fun _=>(List Nat→Prop)→Prop) (fun K=>K []) (fun b _ ih K=>ih fun S'=>K (b::S')) S
theorem GI:∀(S:List Nat) (K:List Nat→Prop),MF S K=K S
 |[],_=>rfl
 |b::S,K=>GI S fun S'=>K (b::S')
def uW (u:Option (Nat×dx)) (K:Option Nat→Prop):Prop:=match u with
 |none=>K none
 |some (b,_)=>K (some b)
theorem OJ (u:Option (Nat×dx)) (K:Option Nat→Prop):uW u K=K (u.map (·.1)):=by
 cases u<;>rfl
noncomputable def sm (g:fZ) (_:List fZ) (ih:OP) (id:Nat) (ov:Ov) (fr:Fr) (H:Hp) (tr:Tr) (K:Ov→Hp→Tr→Prop):Prop:=match g.guard with
 |none=>lg P id (eL ov fr) H g.op fun r u S=>MF S fun S=>uW u fun x=>ih (id+1) (fj ov g.dst none r) fr (ca H u) ((S,x)::tr) K
 |some (d,want)=>match nd ov fr d with
  |(none, .sc (.bool t))=>dg t want (lg P id (eL ov fr) H g.op fun r u S=>MF S fun S=>uW u fun x=>ih (id+1) (fj ov g.dst none r) fr (ca H u) ((S,x)::tr) K) (ih (id+1) (fj ov g.dst none (.sc undef)) fr H (([],none)::tr) K)
   (match want with
    |true=>gu P id t (eL ov fr) H g.op fun r S=>MF S fun S=>ih (id+1) (fj ov g.dst (some t) r) fr H ((S,none)::tr) K
    |false=>gu P id (!t) (eL ov fr) H g.op fun r S=>MF S fun S=>ih (id+1) (fj ov g.dst (some !t) r) fr H ((S,none)::tr) K)
  |(some q, .sc (.bool t))=>(match want with
   |true=>gu P id (q&&t) (eL ov fr) H g.op fun r S=>MF S fun S=>ih (id+1) (fj ov g.dst (some (q&&t)) r) fr H ((S,none)::tr) K
   |false=>gu P id (q&& !t) (eL ov fr) H g.op fun r S=>MF S fun S=>ih (id+1) (fj ov g.dst (some (q&& !t)) r) fr H ((S,none)::tr) K)
  |(none, .sc (.tuple _))=>ih (id+1) (fj ov g.dst none (.sc undef)) fr H (([],none)::tr) K
  |_=>False
noncomputable def WE (id:Nat) (gs:List fZ) (ov:Ov) (fr:Fr) (H:Hp) (tr:Tr) (K:Ov→Hp→Tr→Prop):Prop:=List.rec (motive:=fun _=>OP) CD (sm P) gs id ov fr H tr K
theorem tz:∀(gs:List fZ) (id:Nat) (ov:Ov) (fr:Fr) (H:Hp) (tr:Tr) (K:Ov→Hp→Tr→Prop),WE P id gs ov fr H tr K=WD P id gs ov fr H tr.reverse fun ov H t=>K ov H t.reverse
 |[],id,ov,fr,H,tr,K=>by
  show K ov H tr=K ov H tr.reverse.reverse
  rw[List.reverse_reverse]
 |g::gs,id,ov,fr,H,tr,K=>by
  have ih:=tz gs
  show sm P g gs (fun id ov fr H tr K=>WE P id gs ov fr H tr K) id ov fr H tr K=mH P g gs (fun id ov fr H tr K=>WD P id gs ov fr H tr K) id ov fr H tr.reverse fun ov H t=>K ov H t.reverse
  simp only[sm,mH,GI,OJ,ih,List.reverse_cons]
noncomputable def HJ (s:pM) (_:List pM) (ih:yN) (nx:Nat) (ov:Ov) (fr:Fr) (H:Hp) (K:Ov→Hp→Nat→Prop):Prop:=match s.ops with
 |[g]=>zW P nx [g] ov fr H fun ov' H' nx'=>ih nx' ov' fr H' K
 |gs=>WE P nx gs ov fr H [] fun ov' H' tr=>(match s.ps with
  |[]=>ih (nx+gs.length) ov' fr H' K
  |p::ps=>Ask (gQ tr.reverse (p::ps))∧ih (nx+gs.length) ov' fr H' K)
noncomputable def WS (nx:Nat) (segs:List pM) (ov:Ov) (fr:Fr) (H:Hp) (K:Ov→Hp→Nat→Prop):Prop:=List.rec (motive:=fun _=>yN) uC (HJ P) segs nx ov fr H K
structure jW (n lo:Nat) (x:LC) (fr:Fr) (H:Hp) (nx:Nat) (Q:QT):Prop where
 ok:WL P n lo (.loop x) fr H nx Q
abbrev WT:=Fr→Hp→Nat→QT→Prop
def K1 (fr:Fr) (H:Hp) (nx:Nat) (Q:QT):Prop:=Q .normal fr H nx
noncomputable def CE (gs:List fZ) (fr:Fr) (H:Hp) (nx:Nat) (Q:QT):Prop:=zW P nx gs [] fr H fun ov H' nx'=>Q .normal (fy ov fr) H' nx'
structure gJ (segs:List pM) (fr:Fr) (H:Hp) (nx:Nat) (Q:QT):Prop where
 ok:∀n lo,WL P n lo (.drawn segs) fr H nx Q
def HL (segs:List pM) (fr:Fr) (H:Hp) (nx:Nat) (Q:QT):Prop:=gJ P segs fr H nx Q
def NN (_ _:LC) (ia ib:WT) (fr:Fr) (H:Hp) (nx:Nat) (Q:QT):Prop:=ia fr H nx (jI (fun fr H nx=>ib fr H nx Q) Q)
def w4 (c:dH) (_ _:LC) (ia ib:WT) (fr:Fr) (H:Hp) (nx:Nat) (Q:QT):Prop:=match ev fr c with
 | .sc (.bool t)=>eV t (ia fr H nx Q) (ib fr H nx Q)
 | .ab=>ia fr H nx Q∧ib fr H nx Q
 |_=>False
def HK (id:Nat) (_:LC) (ia:WT) (fr:Fr) (H:Hp) (nx:Nat) (Q:QT):Prop:=ia fr H nx (sy id Q)
def K0 (n lo:Nat) (a:LC) (_:WT) (fr:Fr) (H:Hp) (nx:Nat) (Q:QT):Prop:=jW P n lo a fr H nx Q
def KZ (id:Nat) (fr:Fr) (H:Hp) (nx:Nat) (Q:QT):Prop:=Q (.exit id) fr H nx
def NM (fr:Fr) (H:Hp) (nx:Nat) (Q:QT):Prop:=Q .ret fr H nx
noncomputable def W (n lo:Nat) (lc:LC):WT:=LC.rec (motive:=fun _=>WT) K1 (CE P) (HL P) NN w4 HK (K0 P n lo) KZ NM lc
end
section
variable {P:Program}
theorem oG {nx:Nat} {ov:Ov} {f fr:Fr} {H:Hp} {op:cg} {K:AV→Hp→Nat→Prop} (hF:nN f ov fr) (h:uA P nx (eL ov fr) H op K):dQ P nx f H op K:=by
 by_cases hc:∃g as,op= .call g as
 ·obtain⟨fo,as,rfl⟩:=hc
  simp only[uA] at h
  obtain⟨h1,h2⟩:=bt h
  obtain⟨h3,h4⟩:=eQ h2
  simp only[dQ]
  rw[hF.raw fo (h1 trivial),jt (R:=eL ov fr) fun x hx=>hF.raw x (h3 trivial x hx)]
  split at h4
  ·rename_i he
   rw[he]
   rw[iJ] at h4
   exact h4.ok
  ·rename_i he
   rw[he]
   rw[iJ] at h4
   exact h4.ok
  ·exact h4.elim
 ·have e1:uA P nx (eL ov fr) H op K=nE none H (eL ov fr) nx op fun r u=>K r (ca H u) (nx+1):=by cases op<;>first|rfl|exact absurd ⟨_,_,rfl⟩ hc
  have e2:dQ P nx f H op K=ij (bo nx f H op) fun p=>K p.1 (ca H p.2) (nx+1):=by cases op<;>first|rfl|exact absurd ⟨_,_,rfl⟩ hc
  rw[e1] at h
  obtain⟨r,u,h1,h2⟩:=jG h
  rw[e2,(h2 trivial).2 f fun x hx=>hF.raw x hx]
  exact h1
theorem sq {nx:Nat} {g:Bool} {ov:Ov} {fr:Fr} {H:Hp} {op:cg} {K:AV→Prop} (h:kY P nx g (eL ov fr) H op K):
 ∃r,K r∧(g=true→∀f,nN f ov fr→∀K':AV→Hp→Nat→Prop,K' r H (nx+1)→dQ P nx f H op K'):=by
 by_cases hc:∃g as,op= .call g as
 ·obtain⟨fo,as,rfl⟩:=hc
  simp only[kY] at h
  obtain⟨h1,h2⟩:=bt h
  obtain⟨h3,h4⟩:=eQ h2
  split at h4
  ·rename_i he
   rw[iJ] at h4
   obtain⟨r,h5,h6⟩:=h4.ok
   refine⟨r,h6,fun hg f hF K' hK'=> ?_⟩
   simp only[dQ]
   rw[hF.raw fo (h1 hg),jt (R:=eL ov fr) fun x hx=>hF.raw x (h3 hg x hx),he]
   exact h5 hg K' hK'
  ·exact h4.elim
 ·have e1:kY P nx g (eL ov fr) H op K=nE (some g) H (eL ov fr) nx op fun r u=>match u with|none=>K r|some _=>False:=by cases op<;>first|rfl|exact absurd ⟨_,_,rfl⟩ hc
  rw[e1] at h
  obtain⟨r,u,h1,h2⟩:=jG h
  cases u with
  |some p=>exact h1.elim
  |none=>
   refine⟨r,h1,fun hg f hF K' hK'=> ?_⟩
   have e2:dQ P nx f H op K'=ij (bo nx f H op) fun p=>K' p.1 (ca H p.2) (nx+1):=by cases op<;>first|rfl|exact absurd ⟨_,_,rfl⟩ hc
   rw[e2,(h2 hg).2 f fun x hx=>hF.raw x hx]
   exact hK'
theorem ee:∀{gs:List fZ} {nx:Nat} {ov:Ov} {f fr:Fr} {H:Hp} {K:Ov→Hp→Nat→Prop},nN f ov fr→zW P nx gs ov fr H K→eD P nx gs f H (fun f1 H1 nx1=>∃ov1,nN f1 ov1 fr∧K ov1 H1 nx1)
 |[],nx,ov,f,fr,H,K,hF,h=>⟨ov,hF,h⟩
 |g::gs,nx,ov,f,fr,H,K,hF,h=>by
  have join:∀{q t:Bool} {d:Nat} {want:Bool},g.guard=some (d,want)→(q=true→cJ f d= .sc (.bool t))→(q=false→cJ f d= .sc undef)→∀{gg:Bool},(gg=true↔(q=true∧t=want))→
   (kY P nx gg (eL ov fr) H g.op fun r=>zW P (nx+1) gs (fj ov g.dst (some gg) r) fr H K)→eD P nx (g::gs) f H (fun f1 H1 nx1=>∃ov1,nN f1 ov1 fr∧K ov1 H1 nx1):=by
   intro q t d want hg hq1 hq2 gg hgg hJ
   obtain⟨r,h1,h2⟩:=sq hJ
   simp only[eD,hg,ch]
   cases q with
   |true=>
    simp only[hq1 rfl]
    by_cases ht:t=want
    ·rw[if_pos ht]
     have hgt:=hgg.2 ⟨rfl,ht⟩
     exact h2 hgt f hF _ (ee (hF.oe g.dst (u:=r) (fun _=>rfl) fun h=>by rw[hgt] at h;cases h) h1)
    ·rw[if_neg ht]
     have hgf:gg=false:=by cases hgg':gg<;>simp_all
     exact ee (hF.oe g.dst (u:= .sc undef) (fun h=>by rw[hgf] at h;cases h) fun _=>rfl) h1
   |false=>
    simp only[hq2 rfl]
    have hgf:gg=false:=by cases hgg':gg<;>simp_all
    have:=ee (hF.oe g.dst (u:= .sc undef) (q:=gg) (fun h=>by rw[hgf] at h;cases h) fun _=>rfl) h1
    exact this
  have h:nO P g gs (fun nx ov fr H K=>zW P nx gs ov fr H K) nx ov fr H K:=h
  simp only[nO] at h
  split at h
  ·rename_i hg
   simp only[eD,hg,ch]
   exact(oG hF h).mono fun r H' nx' hh=>ee (hF.put g.dst r) hh
  ·rename_i d want hg
   have hd:=hF d
   split at h
   ·rename_i t he
    rw[he] at hd
    simp only at hd
    rcases h.ok with⟨hA,hB⟩|hJ
    ·simp only[eD,hg,ch,hd]
     by_cases ht:t=want
     ·rw[if_pos ht]
      exact(oG hF (hA ht)).mono fun r H' nx' hh=>ee (hF.put g.dst r) hh
     ·rw[if_neg ht]
      exact ee (hF.put g.dst _) (hB ht)
    ·cases want with
     |true=>exact join (q:=true) hg (fun _=>hd) (fun h=>by cases h) (gg:=t) (by simp) hJ
     |false=>exact join (q:=true) hg (fun _=>hd) (fun h=>by cases h) (gg:= !t) (by simp) hJ
   ·rename_i q t he
    rw[he] at hd
    simp only at hd
    cases want with
    |true=>exact join hg hd.1 hd.2 (gg:=q&&t) (by simp) h
    |false=>exact join hg hd.1 hd.2 (gg:=q&& !t) (by simp) h
   ·rename_i v he
    rw[he] at hd
    simp only at hd
    simp only[eD,hg,ch,hd]
    exact ee (hF.put g.dst _) h
   ·exact h.elim
def zR:Tr→Tr→Prop
 |[],[]=>True
 |a::r,b::s=>(∀x∈a.1,x∈b.1)∧a.2=b.2∧zR r s
 |_,_=>False
theorem zR.snoc {a b:List Nat} {u:Option Nat} (h1:∀x∈a,x∈b):∀{r s:Tr},zR r s→zR (r++[(a,u)]) (s++[(b,u)])
 |[],[],_=>⟨h1,rfl,trivial⟩
 |x::r,y::s,h=>⟨h.1,h.2.1,zR.snoc h1 h.2.2⟩
 |[],_::_,h=>h.elim
 |_::_,[],h=>h.elim
theorem zR.get:∀{r s:Tr},zR r s→∀k,(∀x∈(r.getD k ([],none)).1,x∈(s.getD k ([],none)).1)∧(r.getD k ([],none)).2=(s.getD k ([],none)).2
 |[],[],_,k=>by simp
 |x::r,y::s,h,0=>⟨h.1,h.2.1⟩
 |x::r,y::s,h,k+1=>by simpa using zR.get h.2.2 k
 |[],_::_,h,_=>h.elim
 |_::_,[],h,_=>h.elim
theorem zR.zo {r s:Tr} (h:zR r s) {ps:List (Nat×Nat)} (hf:gQ s ps):gQ r ps:=by
 intro p hp
 obtain⟨h1,h2,h3⟩:=hf p hp
 obtain⟨a1,a2⟩:=h.get p.1
 obtain⟨b1,b2⟩:=h.get p.2
 exact⟨fun b hb hm=>h1 b (by rw[←a2];exact hb) (b1 b hm),fun b hb hm=>h2 b (by rw[←b2];exact hb) (a1 b hm),fun b hb=>h3 b ⟨by rw[←a2];exact hb.1,by rw[←b2];exact hb.2⟩⟩
theorem yd {ov:Ov} {f fr:Fr} {op:cg} (hF:nN f ov fr) (h:op.rd=true→∀y∈op.dM,A9 (eL ov fr) y):∀x∈dX f op,x∈AJ (eL ov fr) op:=by
 intro x hx
 unfold dX at hx
 unfold AJ
 split at hx
 ·rename_i hr
  rw[if_pos hr]
  obtain⟨y,hy,hm⟩:=List.mem_flatMap.1 hx
  exact List.mem_flatMap.2 ⟨y,hy,by rw[←hF.raw y (h hr y hy)];exact hm⟩
 ·cases hx
theorem mI {id:Nat} {ov:Ov} {fr:Fr} {H:Hp} {op:cg} {K:AV→Option (Nat×dx)→List Nat→Prop} (h:lg P id (eL ov fr) H op K) {f:Fr} (hF:nN f ov fr):
 iq P id f H op (fun r u S'=>∃S,(∀x∈S',x∈S)∧K r u S):=by
 by_cases hc:∃g as,op= .call g as
 ·obtain⟨fo,as,rfl⟩:=hc
  simp only[lg] at h
  obtain⟨h1,h2⟩:=bt h
  obtain⟨h3,h4⟩:=eQ h2
  split at h4
  ·rename_i he
   rw[iJ] at h4
   obtain⟨r,u,S,h5,h6⟩:=h4.ok
   refine⟨r,u,S, ?_,S,fun _ h=>h,h6⟩
   rw[hF.raw fo (h1 trivial),jt (R:=eL ov fr) fun x hx=>hF.raw x (h3 trivial x hx),he]
   simpa[lZ] using h5
  ·exact h4.elim
 ·have e1:lg P id (eL ov fr) H op K=nE none H (eL ov fr) id op fun r u=>K r u (AJ (eL ov fr) op):=by cases op<;>first|rfl|exact absurd ⟨_,_,rfl⟩ hc
  rw[e1] at h
  obtain⟨r,u,h1,h2⟩:=jG h
  obtain⟨h3,h4⟩:=h2 trivial
  have e2:∀K',iq P id f H op K'=ij (bo id f H op) fun p=>K' p.1 p.2 (dX f op):=by intro K';cases op<;>first|rfl|exact absurd ⟨_,_,rfl⟩ hc
  rw[e2,h4 f fun x hx=>hF.raw x hx]
  exact⟨_,yd hF h3,h1⟩
theorem sn {id:Nat} {g:Bool} {ov:Ov} {fr:Fr} {H:Hp} {op:cg} {K:AV→List Nat→Prop} (h:gu P id g (eL ov fr) H op K):
 ∃r S,K r S∧(g=true→∀f,nN f ov fr→∀K':AV→Option (Nat×dx)→List Nat→Prop,(∀S',(∀x∈S',x∈S)→K' r none S')→iq P id f H op K'):=by
 by_cases hc:∃g as,op= .call g as
 ·obtain⟨fo,as,rfl⟩:=hc
  simp only[gu] at h
  obtain⟨h1,h2⟩:=bt h
  obtain⟨h3,h4⟩:=eQ h2
  split at h4
  ·rename_i he
   rw[iJ] at h4
   obtain⟨r,S,h5,h6⟩:=h4.ok
   refine⟨r,S,h6,fun hg f hF K' hK'=>⟨r,none,S, ?_,hK' S fun _ h=>h⟩⟩
   rw[hF.raw fo (h1 hg),jt (R:=eL ov fr) fun x hx=>hF.raw x (h3 hg x hx),he]
   simpa[lZ] using h5 hg
  ·exact h4.elim
 ·have e1:gu P id g (eL ov fr) H op K=nE (some g) H (eL ov fr) id op fun r u=>match u with|none=>K r (AJ (eL ov fr) op)|some _=>False:=by cases op<;>first|rfl|exact absurd ⟨_,_,rfl⟩ hc
  rw[e1] at h
  obtain⟨r,u,h1,h2⟩:=jG h
  cases u with
  |some p=>exact h1.elim
  |none=>
   refine⟨r,_,h1,fun hg f hF K' hK'=> ?_⟩
   obtain⟨h3,h4⟩:=h2 hg
   have e2:iq P id f H op K'=ij (bo id f H op) fun p=>K' p.1 p.2 (dX f op):=by cases op<;>first|rfl|exact absurd ⟨_,_,rfl⟩ hc
   rw[e2,h4 f fun x hx=>hF.raw x hx]
   exact hK' _ (yd hF h3)
theorem fG:∀{gs:List fZ} {id:Nat} {ov:Ov} {f fr:Fr} {H:Hp} {tr tr':Tr} {K:Ov→Hp→Tr→Prop},nN f ov fr→zR tr' tr→WD P id gs ov fr H tr K→gL P id gs f H tr' (fun f1 H1 tr1=>∃ov1 trj,nN f1 ov1 fr∧zR tr1 trj∧K ov1 H1 trj)
 |[],id,ov,f,fr,H,tr,tr',K,hF,hT,h=>⟨ov,tr,hF,hT,h⟩
 |g::gs,id,ov,f,fr,H,tr,tr',K,hF,hT,h=>by
  have join:∀{q t:Bool} {d:Nat} {want:Bool},g.guard=some (d,want)→(q=true→cJ f d= .sc (.bool t))→(q=false→cJ f d= .sc undef)→∀{gg:Bool},(gg=true↔(q=true∧t=want))→
   (gu P id gg (eL ov fr) H g.op fun r S=>WD P (id+1) gs (fj ov g.dst (some gg) r) fr H (tr++[(S,none)]) K)→gL P id (g::gs) f H tr' (fun f1 H1 tr1=>∃ov1 trj,nN f1 ov1 fr∧zR tr1 trj∧K ov1 H1 trj):=by
   intro q t d want hg hq1 hq2 gg hgg hJ
   obtain⟨r,S,h1,h2⟩:=sn hJ
   simp only[gL,hg,ch]
   cases q with
   |true=>
    simp only[hq1 rfl]
    by_cases ht:t=want
    ·rw[if_pos ht]
     have hgt:=hgg.2 ⟨rfl,ht⟩
     refine h2 hgt f hF _ fun S' hS=> ?_
     exact fG (hF.oe g.dst (u:=r) (fun _=>rfl) fun h=>by rw[hgt] at h;cases h) (hT.snoc hS) h1
    ·rw[if_neg ht]
     have hgf:gg=false:=by cases hgg':gg<;>simp_all
     exact fG (hF.oe g.dst (u:= .sc undef) (fun h=>by rw[hgf] at h;cases h) fun _=>rfl) (hT.snoc (a:=[]) (b:=S) (fun _ h=>by cases h)) h1
   |false=>
    simp only[hq2 rfl]
    have hgf:gg=false:=by cases hgg':gg<;>simp_all
    have:=fG (hF.oe g.dst (u:= .sc undef) (q:=gg) (fun h=>by rw[hgf] at h;cases h) fun _=>rfl) (hT.snoc (a:=[]) (b:=S) (fun _ h=>by cases h)) h1
    exact this
  have h:mH P g gs (fun id ov fr H tr K=>WD P id gs ov fr H tr K) id ov fr H tr K:=h
  simp only[mH] at h
  split at h
  ·rename_i hg
   simp only[gL,hg,ch]
   refine(mI h hF).mono ?_
   rintro r u S' ⟨S,hS,hh⟩
   exact fG (hF.put g.dst r) (hT.snoc hS) hh
  ·rename_i d want hg
   have hd:=hF d
   split at h
   ·rename_i t he
    rw[he] at hd
    simp only at hd
    rcases h.ok with⟨hA,hB⟩|hJ
    ·simp only[gL,hg,ch,hd]
     by_cases ht:t=want
     ·rw[if_pos ht]
      refine(mI (hA ht) hF).mono ?_
      rintro r u S' ⟨S,hS,hh⟩
      exact fG (hF.put g.dst r) (hT.snoc hS) hh
     ·rw[if_neg ht]
      exact fG (hF.put g.dst _) (hT.snoc (a:=[]) (b:=[]) (fun _ h=>h)) (hB ht)
    ·cases want with
     |true=>exact join (q:=true) hg (fun _=>hd) (fun h=>by cases h) (gg:=t) (by simp) hJ
     |false=>exact join (q:=true) hg (fun _=>hd) (fun h=>by cases h) (gg:= !t) (by simp) hJ
   ·rename_i q t he
    rw[he] at hd
    simp only at hd
    cases want with
    |true=>exact join hg hd.1 hd.2 (gg:=q&&t) (by simp) h
    |false=>exact join hg hd.1 hd.2 (gg:=q&& !t) (by simp) h
   ·rename_i v he
    rw[he] at hd
    simp only at hd
    simp only[gL,hg,ch,hd]
    exact fG (hF.put g.dst _) (hT.snoc (a:=[]) (b:=[]) (fun _ h=>h)) h
   ·exact h.elim
theorem jY:∀{segs:List pM} {nx:Nat} {ov:Ov} {f fr:Fr} {H:Hp} {K:Ov→Hp→Nat→Prop},nN f ov fr→WS P nx segs ov fr H K→fi P nx segs f H (fun f1 H1 nx1=>∃ov1,nN f1 ov1 fr∧K ov1 H1 nx1)
 |[],nx,ov,f,fr,H,K,hF,h=>⟨ov,hF,h⟩
 |⟨[g],ps⟩::rest,nx,ov,f,fr,H,K,hF,h=>by
  have h:zW P nx [g] ov fr H fun ov' H' nx'=>WS P nx' rest ov' fr H' K:=h
  refine eD.mono (K':=fun a b c=>fi P c rest a b _) (ee hF h) ?_
  rintro f1 H1 nx1 ⟨ov1,h1,h2⟩
  exact jY h1 h2
 |⟨[],[]⟩::rest,nx,ov,f,fr,H,K,hF,h=>by
  have h:WE P nx [] ov fr H [] fun ov' H' _=>WS P (nx+0) rest ov' fr H' K:=h
  rw[tz,List.reverse_nil] at h
  simp only[fi]
  refine gL.mono (fG hF (tr':=[]) (tr:=[]) trivial h) ?_
  rintro f1 H1 tr1 ⟨ov1,trj,h1,h2,h3⟩
  exact⟨(fun p hp=>by cases hp),jY h1 h3⟩
 |⟨[],p::ps⟩::rest,nx,ov,f,fr,H,K,hF,h=>by
  have h:WE P nx [] ov fr H [] fun ov' H' tr=>Ask (gQ tr.reverse (p::ps))∧WS P (nx+0) rest ov' fr H' K:=h
  rw[tz,List.reverse_nil] at h
  simp only[List.reverse_reverse] at h
  simp only[fi]
  refine gL.mono (fG hF (tr':=[]) (tr:=[]) trivial h) ?_
  rintro f1 H1 tr1 ⟨ov1,trj,h1,h2,h3⟩
  exact⟨h2.zo h3.1.ok,jY h1 h3.2⟩
 |⟨g1::g2::gs,[]⟩::rest,nx,ov,f,fr,H,K,hF,h=>by
  have h:WE P nx (g1::g2::gs) ov fr H [] fun ov' H' _=>WS P (nx+(g1::g2::gs).length) rest ov' fr H' K:=h
  rw[tz,List.reverse_nil] at h
  simp only[fi]
  refine gL.mono (fG hF (tr':=[]) (tr:=[]) trivial h) ?_
  rintro f1 H1 tr1 ⟨ov1,trj,h1,h2,h3⟩
  exact⟨(fun p hp=>by cases hp),jY h1 h3⟩
 |⟨g1::g2::gs,p::ps⟩::rest,nx,ov,f,fr,H,K,hF,h=>by
  have h:WE P nx (g1::g2::gs) ov fr H [] fun ov' H' tr=>Ask (gQ tr.reverse (p::ps))∧WS P (nx+(g1::g2::gs).length) rest ov' fr H' K:=h
  rw[tz,List.reverse_nil] at h
  simp only[List.reverse_reverse] at h
  simp only[fi]
  refine gL.mono (fG hF (tr':=[]) (tr:=[]) trivial h) ?_
  rintro f1 H1 tr1 ⟨ov1,trj,h1,h2,h3⟩
  exact⟨h2.zo h3.1.ok,jY h1 h3.2⟩
theorem Holds.less {w0:World} {M0:Nat→Prop} {c0:Cx} {lo n:Nat} {fr fr':Fr} {H:Hp} {nx:Nat} {a:Act} {w:World} (h:Holds w0 M0 c0 lo n fr H nx a w) (hf:∀t,cJ fr' t= .any∨cJ fr' t=cJ fr t):Holds w0 M0 c0 lo n fr' H nx a w:=by
 obtain⟨h1,h2,ρ,U,hU,hS,hF,hT⟩:=h
 refine⟨h1,h2,ρ,U,hU,hS,fun t=> ?_,hT⟩
 rcases hf t with h|h
 ·rw[h,VR];trivial
 ·rw[h];exact hF t
theorem WL.less {n lo:Nat} {lc:LC} {fr:Fr} {H:Hp} {nx:Nat} {Q:QT} (h:WL P n lo lc fr H nx (fun e f H nx=>∃f',(∀t,cJ f' t= .any∨cJ f' t=cJ f t)∧Q e f' H nx)):WL P n lo lc fr H nx Q:=
 fun code hc w0 M0 c0 a w hh=>Code.wp_mono (fun _ _ _ ⟨x,f,H,nx,he,⟨f',h1,h2⟩,hhh⟩=>⟨x,f',H,nx,he,h2,hhh.less h1⟩) (h code hc w0 M0 c0 a w hh)
theorem nN.less {f:Fr} {ov:Ov} {fr:Fr} (h:nN f ov fr) (t:Nat):cJ (fy ov fr) t= .any∨cJ (fy ov fr) t=cJ f t:=by
 rcases lr (ov:=ov) (fr:=fr) (t:=t) with h1|⟨v,h1,h2⟩
 ·exact .inl h1
 ·have:=h t
  rw[h1] at this
  exact .inr (h2.trans this.symm)
theorem gJ.of {segs:List pM} {fr:Fr} {H:Hp} {nx:Nat} {Q:QT} (h:WS P nx segs [] fr H fun ov H' nx'=>Q .normal (fy ov fr) H' nx'):gJ P segs fr H nx Q:=
 ⟨fun _ _=>WL.less (WL.drawn (fi.mono (jY (nN.refl fr) h) fun _ _ _ ⟨_,h1,h2⟩=>⟨_,h1.less,h2⟩))⟩
theorem fA {n lo:Nat}:∀{lc:LC} {fr:Fr} {H:Hp} {nx:Nat} {Q:QT},W P n lo lc fr H nx Q→WL P n lo lc fr H nx Q
 | .skip,_,_,_,_,h=>WL.skip h
 | .ret,_,_,_,_,h=>WL.ret h
 | .exit _,_,_,_,_,h=>WL.exit h
 | .region gs,fr,H,nx,Q,h=>WL.less (WL.region (eD.mono (ee (nN.refl fr) h) fun _ _ _ ⟨_,h1,h2⟩=>⟨_,h1.less,h2⟩))
 | .drawn segs,fr,H,nx,Q,h=>gJ.ok (P:=P) h n lo
 | .seq a b,fr,H,nx,Q,h=>WL.seq ((fA (lc:=a) (Q:=jI (fun fr H nx=>W P n lo b fr H nx Q) Q) h).mono fun e fr H nx hh=>by
  cases e with
  |normal=>exact fA (lc:=b) hh
  |exit id=>exact hh
  |ret=>exact hh)
 | .cond c a b,fr,H,nx,Q,h=>by
  have h:w4 c a b (W P n lo a) (W P n lo b) fr H nx Q:=h
  simp only[w4] at h
  split at h
  ·rename_i t ht
   exact WL.cond ht (fun h1=>fA (lc:=a) (h.ok.1 h1)) (fun h1=>fA (lc:=b) (h.ok.2 h1))
  ·rename_i ht
   exact WL.LH ht (fA (lc:=a) h.1) (fA (lc:=b) h.2)
  ·exact h.elim
 | .block id a,fr,H,nx,Q,h=>WL.block (fA (lc:=a) h)
 | .loop a,fr,H,nx,Q,h=>h.ok
theorem jW.inv {n lo:Nat} {x:LC} {fr:Fr} {H:Hp} {nx:Nat} {Q:QT} {σ:Type} (I:σ→Fr→Hp→Nat→Prop) (μ:σ→Nat) (s0:σ) (h0:∃fr',(∀t,cJ fr' t= .any∨cJ fr' t=cJ fr t)∧I s0 fr' H nx)
 (round:∀s fr H nx,I s fr H nx→WL P n lo x fr H nx (jI (fun fr' H' nx'=>∃s',μ s'<μ s∧∃fr2,(∀t,cJ fr2 t= .any∨cJ fr2 t=cJ fr' t)∧I s' fr2 H' nx') Q)):jW P n lo x fr H nx Q:=by
 refine⟨fun code hc w0 M0 c0 a w hh=> ?_⟩
 have:∃c1,code= .loop c1∧cW P n c1=some x:=by
  cases code<;>simp only[cW] at hc
  case loop c1=>
   simp only[Option.map_eq_some_iff,LC.loop.injEq] at hc
   obtain⟨x',h1,rfl⟩:=hc
   exact⟨c1,rfl,h1⟩
  all_goals (exfalso;repeat' (split at hc))<;>simp at hc
 obtain⟨c1,rfl,h1⟩:=this
 intro b k cs
 have key:∀m,∀s,μ s=m→∀fr H nx,I s fr H nx→∀a w,Holds w0 M0 c0 lo n fr H nx a w→
  ∃e a' w',LQ w0 M0 c0 lo n Q e a' w'∧Arrives P (lone (b.at a (.code c1:: .inLoop c1::k)) cs w) b k cs e a' w':=by
  intro m
  induction m using Nat.strongRecOn with
  |_ m ih=>
   intro s hs fr H nx hI a w hh
   obtain⟨e,a1,w1,hq,harr⟩:=round s fr H nx hI c1 h1 w0 M0 c0 a w hh b (.inLoop c1::k) cs
   obtain⟨x',fr',H',nx',rfl,hQ,hh'⟩:=hq
   cases x' with
   |normal=>
    obtain⟨s',hlt,fr2,hless,hI'⟩:=hQ
    obtain⟨e2,a2,w2,hq2,harr2⟩:=ih (μ s') (by omega) s' rfl fr2 H' nx' hI' a1 w1 (hh'.less hless)
    exact⟨e2,a2,w2,hq2, .of_steps (Steps.trans harr (.one step_inLoop)) harr2⟩
   |exit id=>exact⟨_,a1,w1,⟨.exit id,fr',H',nx',rfl,hQ,hh'⟩, .pass (x:= .inLoop c1) rfl (fun _ _=> .inl (by simp[Ex.to])) harr⟩
   |ret=>exact⟨_,a1,w1,⟨.ret,fr',H',nx',rfl,hQ,hh'⟩, .pass (x:= .inLoop c1) rfl (fun _ _=> .inl (by simp[Ex.to])) harr⟩
 obtain⟨fr',hless,hI⟩:=h0
 obtain⟨e,a',w',hq,harr⟩:=key _ s0 rfl fr' H nx hI a w (hh.less hless)
 exact⟨e,a',w',hq, .of_steps (.one step_loop) harr⟩
def kM (fr:Fr):Fr→Prop
 |[]=>True
 |(t,v)::r=>cJ fr t=v∧kM fr r
theorem iV {fr:Fr}:∀{fr':Fr},kM fr fr'→∀t,cJ fr' t= .any∨cJ fr' t=cJ fr t
 |[],_,t=> .inl rfl
 |(d,v)::r,h,t=>by
  simp only[cJ]
  by_cases ht:t=d
  ·subst ht;rw[if_pos rfl];exact .inr h.1.symm
  ·rw[if_neg ht];exact iV h.2 t
theorem jW.fr {n lo:Nat} {x:LC} {fr:Fr} {H:Hp} {nx:Nat} {Q:QT} {σ:Type} (F:σ→Fr) (I:σ→Hp→Nat→Prop) (μ:σ→Nat) (s0:σ) (h0:kM fr (F s0)) (h1:I s0 H nx)
 (round:∀s H nx,I s H nx→W P n lo x (F s) H nx (jI (fun fr' H' nx'=>∃s',μ s'<μ s∧kM fr' (F s')∧I s' H' nx') Q)):jW P n lo x fr H nx Q:=by
 refine jW.inv (fun s fr H nx=>fr=F s∧I s H nx) μ s0 ⟨F s0,iV h0,rfl,h1⟩ ?_
 rintro s fr H nx ⟨rfl,hI⟩
 refine(fA (round s H nx hI)).mono ?_
 intro e fr' H' nx' hh
 cases e with
 |normal=>
  obtain⟨s',h2,h3,h4⟩:=hh
  exact⟨s',h2,F s',iV h3,rfl,h4⟩
 |exit id=>exact hh
 |ret=>exact hh
end
end Go.cU
end
