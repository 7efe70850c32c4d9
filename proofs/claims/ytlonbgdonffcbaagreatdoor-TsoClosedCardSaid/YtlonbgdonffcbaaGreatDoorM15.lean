import Derived.Test.YtlonbgdonffcbaaGreatDoorM9
section
/- A run by reduction alone: the code is walked by the reducer; what is to be shown stands out as questions. -/
set_option linter.unusedSimpArgs false
set_option linter.unusedVariables false
namespace Go.cW
open Go.RowKit
structure Ask (p:Prop):Prop where
 ok:p
def cx:Option Bool→Prop→Prop
 |none,p=>Ask p
 |some g,p=>Ask (g=true→p)
def Gd:Option Bool→Prop
 |none=>True
 |some g=>g=true
theorem bz {g:Option Bool} {p:Prop}:cx g p↔(Gd g→p):=by
 cases g with
 |none=>exact⟨fun h _=>h.ok,fun h=>⟨h trivial⟩⟩
 |some g=>exact⟨fun h=>h.ok,fun h=>⟨h⟩⟩
abbrev Ov:=List (Nat×Option Bool×AV)
def ng:Ov→Fr→Nat→Option Bool×AV
 |[],fr,t=>(none,cJ fr t)
 |(d,c,v)::r,fr,t=>bif Nat.beq t d then(c,v) else ng r fr t
def fq (ov:Ov) (d:Option Nat) (c:Option Bool) (v:AV):Ov:=
 match d with
 |some d=>(d,c,v)::ov
 |none=>ov
def gC:Ov→Fr→Fr
 |[],fr=>fr
 |(d,none,v)::r,fr=>(d,v)::gC r fr
 |(d,some _,_)::r,fr=>(d, .any)::gC r fr
def eL (ov:Ov) (fr:Fr):dH→Option Bool×AV
 | .t n=>ng ov fr n
 | .c v=>(none, .sc v)
 | .f n=>(none, .fn (.func n) [] [])
 | .m nm n=>match ng ov fr n with
  |(g, .kq t v)=>(g, .fn (.method nm) [.kq t v] [])
  |(g,_)=>(g, .any)
theorem pB {t d:Nat} (h:¬t=d):Nat.beq t d=false:=by
 cases hb:Nat.beq t d with
 |false=>rfl
 |true=>exact absurd (Nat.eq_of_beq_eq_true hb) h
def nP (f:Fr) (ov:Ov) (fr:Fr):Prop:=
 ∀t,match ng ov fr t with
  |(none,v)=>cJ f t=v
  |(some q,v)=>(q=true→cJ f t=v)∧(q=false→cJ f t= .sc undef)
theorem nP.refl (fr:Fr):nP fr [] fr:=fun _=>rfl
theorem nP.put {f:Fr} {ov:Ov} {fr:Fr} (h:nP f ov fr) (d:Option Nat) (v:AV):nP (eW f d v) (fq ov d none v) fr:=by
 cases d with
 |none=>exact h
 |some d=>
  intro t
  simp only[fq,eW,ng,cJ]
  by_cases ht:t=d
  ·subst ht;simp
  ·have:Nat.beq t d=false:=pB ht
   rw[this,if_neg ht];exact h t
theorem nP.oj {f:Fr} {ov:Ov} {fr:Fr} (h:nP f ov fr) (d:Option Nat) {q:Bool} {u v:AV} (h1:q=true→u=v) (h2:q=false→u= .sc undef):nP (eW f d u) (fq ov d (some q) v) fr:=by
 cases d with
 |none=>exact h
 |some d=>
  intro t
  simp only[fq,eW,ng,cJ]
  by_cases ht:t=d
  ·subst ht;simpa using⟨h1,h2⟩
  ·have:Nat.beq t d=false:=pB ht
   rw[this,if_neg ht];exact h t
theorem nP.raw {f:Fr} {ov:Ov} {fr:Fr} (h:nP f ov fr) (x:dH) (hq:∀q,(eL ov fr x).1=some q→q=true):ev f x=(eL ov fr x).2:=by
 cases x with
 |t n=>
  have:=h n
  simp only[ev,eL] at hq ⊢
  split at this
  ·rename_i v he;rw[this,he]
  ·rename_i q v he;rw[he] at hq ⊢;exact this.1 (hq q rfl)
 |c v=>rfl
 |f n=>rfl
 |m nm n=>
  have:=h n
  simp only[ev,eL] at hq ⊢
  generalize ng ov fr n=x at this hq ⊢
  obtain⟨g,v⟩:=x
  have hv:cJ f n=v:=by
   cases g with
   |none=>exact this
   |some q=>
    refine this.1 (hq q ?_)
    cases v<;>rfl
  rw[hv]
  cases v<;>rfl
theorem lz {fr:Fr} {t:Nat}:∀{ov:Ov},cJ (gC ov fr) t= .any∨∃v,ng ov fr t=(none,v)∧cJ (gC ov fr) t=v
 |[]=> .inr ⟨_,rfl,rfl⟩
 |(d,none,v)::r=>by
  simp only[gC,cJ,ng]
  by_cases ht:t=d
  ·subst ht;simp
  ·have:Nat.beq t d=false:=pB ht
   rw[this,if_neg ht];exact lz
 |(d,some q,v)::r=>by
  simp only[gC,cJ,ng]
  by_cases ht:t=d
  ·subst ht;simp
  ·have:Nat.beq t d=false:=pB ht
   rw[this,if_neg ht];exact lz
abbrev Raw:=dH→Option Bool×AV
def cZ (g:Option Bool) (R:Raw) (x:dH) (K:AV→Prop):Prop:=
 match R x with
 |(none,v)=>K v
 |(some q,v)=>cx g (q=true)∧K v
def BA (R:Raw) (x:dH):Prop:=∀q,(R x).1=some q→q=true
theorem bt {g:Option Bool} {R:Raw} {x:dH} {K:AV→Prop} (h:cZ g R x K):(Gd g→BA R x)∧K (R x).2:=by
 unfold cZ at h
 split at h
 ·rename_i v he;rw[he];exact⟨fun _ q hq=>(by rw[he] at hq;cases hq),h⟩
 ·rename_i q v he
  rw[he]
  exact⟨fun hg q' hq=>(by rw[he] at hq;cases hq;exact bz.1 h.1 hg),h.2⟩
def xD (K:List AV→Prop):Prop:=K []
def u7 (g:Option Bool) (R:Raw) (x:dH) (_:List dH) (ih:(List AV→Prop)→Prop) (K:List AV→Prop):Prop:=cZ g R x fun a=>ih fun as=>K (a::as)
noncomputable def jP (g:Option Bool) (R:Raw) (xs:List dH):(List AV→Prop)→Prop:=List.rec (motive:=fun _=>(List AV→Prop)→Prop) xD (u7 g R) xs
theorem eP {g:Option Bool} {R:Raw}:∀{xs:List dH} {K:List AV→Prop},jP g R xs K→(Gd g→∀x∈xs,BA R x)∧K (xs.map fun x=>(R x).2)
 |[],K,h=>⟨fun _ _ h=>(by cases h),h⟩
 |x::r,K,h=>by
  obtain⟨h1,h2⟩:=bt h
  obtain⟨h3,h4⟩:=eP h2
  refine⟨fun hg y hy=> ?_,h4⟩
  rcases List.mem_cons.1 hy with rfl|hy
  ·exact h1 hg
  ·exact h3 hg y hy
theorem jt {f:Fr} {R:Raw}:∀{xs:List dH},(∀x∈xs,ev f x=(R x).2)→oL f xs=xs.map fun x=>(R x).2
 |[],_=>rfl
 |x::r,h=>by
  simp only[oL,List.map_cons]
  rw[h x (by simp),jt fun y hy=>h y (by simp[hy])]
def fK (v:AV) (K:AV→Prop):Prop:=
 match v with
 | .sc v=>K (.sc v)
 | .any=>K .any
 | .im a b c=>K (.im a b c)
 | .ip a b c d e=>K (.ip a b c d e)
 | .sl a b=>K (.sl a b)
 | .pt a b c d=>K (.pt a b c d)
 | .zc=>K .zc
 | .agg a=>K (.agg a)
 | .dD a=>K (.dD a)
 | .fn a b c=>K (.fn a b c)
 | .kq a b=>K (.kq a b)
 | .mp a=>K (.mp a)
 | .ab=>K .ab
 | .sv a b c d=>K (.sv a b c d)
theorem eA (v:AV) (K:AV→Prop):fK v K=K v:=by cases v<;>rfl
def xF (K:List AV→Prop):Prop:=K []
def ud (a:AV) (_:List AV) (ih:(List AV→Prop)→Prop) (K:List AV→Prop):Prop:=ih fun r'=>K (a::r')
noncomputable def na (l:List AV):(List AV→Prop)→Prop:=List.rec (motive:=fun _=>(List AV→Prop)→Prop) xF ud l
theorem iG:∀(l:List AV) (K:List AV→Prop),na l K=K l
 |[],_=>rfl
 |a::r,K=>iG r fun r'=>K (a::r')
structure fS (H:Hp) (b:Nat) (K:TypeId→Nat→AV→List AV→Prop):Prop where
 ok:∃e sz d es,bd H b=some (.row e sz d es)∧K e sz d es
theorem fS.of {H:Hp} {b:Nat} {K:TypeId→Nat→AV→List AV→Prop} {e:TypeId} {sz:Nat} {d:AV} {es:List AV} (h:bd H b=some (.row e sz d es)) (k:K e sz d es):fS H b K:=⟨⟨e,sz,d,es,h,k⟩⟩
structure nN (es:List AV) (i:Nat) (d:AV) (K:AV→Prop):Prop where
 ok:K (es.getD i d)
theorem nN.of {es:List AV} {i:Nat} {d:AV} {K:AV→Prop} {e:AV} (h:es.getD i d=e) (k:K e):nN es i d K:=⟨by rw[h];exact k⟩
structure iJ {α:Type} (x:Option α) (K:α→Prop):Prop where
 ok:∃a,x=some a∧K a
theorem iJ.of {α:Type} {x:Option α} {K:α→Prop} {a:α} (h:x=some a) (k:K a):iJ x K:=⟨⟨a,h,k⟩⟩
structure jl {α:Type} (g:Option Bool) (x:Option α) (K:α→Prop):Prop where
 ok:∃a,(Gd g→x=some a)∧K a
theorem jl.of {α:Type} {g:Option Bool} {x:Option α} {K:α→Prop} {a:α} (h:Gd g→x=some a) (k:K a):jl g x K:=⟨⟨a,h,k⟩⟩
structure oG (H:Hp) (b:Nat) (K:TypeId→AV→List AV→Prop):Prop where
 ok:∃e d es,bd H b=some (.row e 0 d (mapA es))∧K e d es
theorem oG.of {H:Hp} {b:Nat} {K:TypeId→AV→List AV→Prop} {e:TypeId} {d:AV} {es:List AV} (h:bd H b=some (.row e 0 d (mapA es))) (k:K e d es):oG H b K:=⟨⟨e,d,es,h,k⟩⟩
def zQ (H:Hp) (v:AV) (K:Nat→TypeId→AV→List AV→Prop):Prop:=
 match v with
 | .mp b=>oG H b (K b)
 |_=>False
theorem jm {H:Hp} {v:AV} {K:Nat→TypeId→AV→List AV→Prop} (h:zQ H v K):∃b e d es,mapOf H v=some (b,e,d,es)∧K b e d es:=by
 cases v<;>simp only[zQ] at h
 obtain⟨e,d,es,h1,h2⟩:=h.ok
 exact⟨_,e,d,es,by simp only[mapOf,h1,mapA],h2⟩
structure qu (g:Option Bool) (k:IntKind) (n:Int) (K:Int→Prop):Prop where
 ok:∃m,(Gd g→k.wrap n=m)∧K m
theorem qu.of {g:Option Bool} {k:IntKind} {n:Int} {K:Int→Prop} {m:Int} (h:Gd g→k.wrap n=m) (hK:K m):qu g k n K:=⟨⟨m,h,hK⟩⟩
section
variable (g:Option Bool) (H:Hp)
def O8 (ag:Bool) (k:Nat) (e:AV) (sz off:Nat) (K:AV→Prop):Prop:=
 match ag with
 |true=>match e with
  | .agg cs=>bif Nat.beq off 0&&Nat.beq k sz then K (.agg cs) else cx g (off+k≤cs.length)∧K (.agg ((cs.drop off).take k))
  |_=>False
 |false=>match e with
  | .agg cs=>nN cs off .any fun v=>fK v K
  | .any=>K .any
  |e=>bif one e then fK e K else False
def lookW (v:AV) (K:Nat→AV→Nat→Prop):Prop:=
 match v with
 | .ip sz d es i off=>nN es i d fun e=>K sz e off
 | .pt b len i off=>fS H b fun _ sz d es=>cx g (es.length=len)∧nN es i d fun e=>K sz e off
 |_=>False
def px (k:Nat) (v:AV) (K:List AV→Prop):Prop:=
 match v with
 | .im sz _ es=>bif Nat.beq sz k then K es else False
 | .sl b len=>fS H b fun _ sz _ es=>cx g (es.length=len∧sz=k)∧K es
 | .sc (.slice none 0 0)=>K []
 | .zc=>K []
 | .sv b len lo n=>fS H b fun _ sz _ es=>cx g (es.length=len∧sz=k)∧K ((es.drop lo).take n)
 |_=>False
noncomputable def nH (R:Raw) (id:Nat) (op:cd) (K:AV→Option (Nat×du)→Prop):Prop:=
 match op with
 | .mv x=>cZ g R x fun a=>fK a fun a=>K a none
 | .pick c a b=>cZ g R c fun v=>match v with
  | .sc (.bool t)=>
   let rest:=fun(_:Unit)=>fK (nB t (R a).2 (R b).2) fun v=>K v none
   let r2:=fun(_:Unit)=>match(R b).1 with
    |none=>rest ()
    |some q=>cx g (t=false→q=true)∧rest ()
   match(R a).1 with
   |none=>r2 ()
   |some q=>cx g (t=true→q=true)∧r2 ()
  |_=>False
 | .alloc e sz ag z=>cx g (z.length=sz)∧K (.pt id 1 0 0) (some (id, .row e sz (gE ag z) [gE ag z]))
 | .box e sz ag x=>cZ g R x fun v=>cx g (fits ag sz v=true)∧K (.pt id 1 0 0) (some (id, .row e sz .any [v]))
 | .M1 z parts=>jP g R (parts.map (·.2.2)) fun as=>iJ (oM (z.map .sc) (List.zipWith (fun p a=>(p.1,p.2.1,a)) parts as)) fun cs=>K (.agg cs) none
 | .J8 e sz ag z n parts=>jP g R (parts.map (·.2)) fun as=>
  cx g (z.length=sz∧(List.zipWith (fun p a=>(p.1,a)) parts as).all (fun p=>decide (p.1<n)&&fits ag sz p.2)=true)∧
  K (.sl id n) (some (id, .row e sz (gE ag z) ((List.zipWith (fun p a=>(p.1,a)) parts as).foldl (fun l p=>l.set p.1 p.2) (List.replicate n (gE ag z)))))
 | .ld ag k x=>cZ g R x fun v=>lookW g H v fun sz e off=>O8 g ag k e sz off fun r=>K r none
 | .st ag k x y=>cZ g R x fun v=>cZ g R y fun yv=>match v with
  | .pt b len i off=>fS H b fun e sz d es=>cx g (es.length=len)∧nN es i d fun jV=>iJ (MN ag k jV yv sz off) fun e'=>K .any (some (b, .row e sz d (es.set i e')))
  |_=>False
 | .N8 x=>cZ g R x fun v=>match v with
  | .pt b len i off=>K (.pt b len i off) none
  | .ip sz d es i off=>K (.ip sz d es i off) none
  | .fn (.func f) p q=>K (.fn (.func f) p q) none
  | .kq t v=>K (.kq t v) none
  |_=>False
 | .bin op x y=>cZ g R x fun a=>cZ g R y fun b=>match op,a,b with
  | .add, .sc (.int k a), .sc (.int k' b)=>cx g (k=k')∧qu g k (a+b) fun m=>K (.sc (.int k m)) none
  | .sub, .sc (.int k a), .sc (.int k' b)=>cx g (k=k')∧qu g k (a - b) fun m=>K (.sc (.int k m)) none
  | .mul, .sc (.int k a), .sc (.int k' b)=>cx g (k=k')∧qu g k (a * b) fun m=>K (.sc (.int k m)) none
  | .eql, .sc (.int k a), .sc (.int k' b)=>cx g (k=k')∧K (.sc (.bool (decide (a=b)))) none
  | .neq, .sc (.int k a), .sc (.int k' b)=>cx g (k=k')∧K (.sc (.bool (decide (a≠b)))) none
  | .lss, .sc (.int k a), .sc (.int k' b)=>cx g (k=k')∧K (.sc (.bool (decide (a<b)))) none
  | .leq, .sc (.int k a), .sc (.int k' b)=>cx g (k=k')∧K (.sc (.bool (decide (a≤b)))) none
  | .gtr, .sc (.int k a), .sc (.int k' b)=>cx g (k=k')∧K (.sc (.bool (decide (b<a)))) none
  | .geq, .sc (.int k a), .sc (.int k' b)=>cx g (k=k')∧K (.sc (.bool (decide (b≤a)))) none
  | .quo, .sc (.int k a), .sc (.int k' b)=>cx g (k=k'∧b≠0)∧K (.sc (.int k (k.wrap (a.tdiv b)))) none
  | .rem, .sc (.int k a), .sc (.int k' b)=>cx g (k=k'∧b≠0)∧K (.sc (.int k (a.tmod b))) none
  | .and, .sc (.int k a), .sc (.int k' b)=>cx g (k=k')∧K (.sc (.int k (k.wrap (BitVec.ofInt k.bits a&&& BitVec.ofInt k.bits b).toNat))) none
  | .or, .sc (.int k a), .sc (.int k' b)=>cx g (k=k')∧K (.sc (.int k (k.wrap (BitVec.ofInt k.bits a|||BitVec.ofInt k.bits b).toNat))) none
  | .xor, .sc (.int k a), .sc (.int k' b)=>cx g (k=k')∧K (.sc (.int k (k.wrap (BitVec.ofInt k.bits a^^^BitVec.ofInt k.bits b).toNat))) none
  | .andNot, .sc (.int k a), .sc (.int k' b)=>cx g (k=k')∧K (.sc (.int k (k.wrap (BitVec.ofInt k.bits a&&& ~~~(BitVec.ofInt k.bits b)).toNat))) none
  | .shl, .sc (.int k a), .sc (.int _ b)=>cx g (0≤b)∧K (.sc (.int k (k.wrap (a * 2^(min b.toNat k.bits))))) none
  | .shr, .sc (.int k a), .sc (.int _ b)=>cx g (0≤b)∧K (.sc (.int k (a.fdiv (2^(min b.toNat k.bits))))) none
  |_,_,_=>False
 | .M3 neg x y=>cZ g R x fun a=>cZ g R y fun b=>match a,b with
  | .sc (.bool p), .sc (.bool q)=>(match neg with
   |true=>K (.sc (.bool (p != q))) none
   |false=>K (.sc (.bool (p==q))) none)
  |_,_=>False
 | .sA neg x y=>cZ g R x fun a=>cZ g R y fun b=>match a,b with
  | .sc (.string p), .sc (.string q)=>(match neg with
   |true=>K (.sc (.bool (p != q))) none
   |false=>K (.sc (.bool (p==q))) none)
  |_,_=>False
 | .zg op x y=>cZ g R x fun a=>cZ g R y fun b=>match a,b with
  | .sc (.string p), .sc (.string q)=>(match op with
   | .add=>cx g (p.size+q.size≤9223372036854775807)∧K (.sc (.string (p++q))) none
   | .lss=>K (.sc (.bool (Op.bytesLess p.toList q.toList))) none
   |_=>False)
  |_,_=>False
 | .HZ sz ag z x=>cZ g R x fun v=>match v with
  | .sv b len lo n=>fS H b fun e s d es=>cx g (es.length=len∧s=sz∧lo+n≤len)∧K (.dD []) (some (b, .row e s d (es.take lo++List.replicate n (gE ag z)++es.drop (lo+n))))
  |_=>False
 | .K3 x=>cZ g R x fun v=>px g H 1 v fun xs=>jl g (gp xs) fun ns=>K (.sc (.string (BV ns))) none
 | .un op x=>cZ g R x fun a=>match op,a with
  | .not, .sc (.bool b)=>K (.sc (.bool !b)) none
  | .neg, .sc (.int k n)=>qu g k (0 - n) fun m=>K (.sc (.int k m)) none
  |_,_=>False
 | .NQ k x=>cZ g R x fun a=>match a with
  | .sc (.int _ n)=>qu g k n fun m=>K (.sc (.int k m)) none
  |_=>False
 | .fa off x=>cZ g R x fun a=>match a with
  | .ip sz d es i o=>cx g (o+off<sz)∧K (.ip sz d es i (o+off)) none
  | .pt b len i o=>fS H b fun _ sz _ es=>cx g (es.length=len∧o+off<sz)∧K (.pt b len i (o+off)) none
  |_=>False
 | .ia k n x i=>cZ g R x fun v=>cZ g R i fun iv=>match iv with
  | .sc (.int _ j)=>
   (match n with
    |none=>match v with
     | .im sz d es=>cx g (k=sz)∧cx g (0≤j∧j<es.length)∧K (.ip sz d es j.toNat 0) none
     | .sl b len=>fS H b fun _ sz _ es=>cx g (es.length=len∧k=sz)∧cx g (0≤j∧j<len)∧K (.pt b len j.toNat 0) none
     | .sv b len lo m=>fS H b fun _ sz _ es=>cx g (es.length=len∧k=sz)∧cx g (0≤j∧j<m)∧K (.pt b len (lo+j.toNat) 0) none
     |_=>False
    |some m=>match v with
     | .ip sz d es i off=>cx g (off+m * k≤sz)∧cx g (0≤j∧j<m)∧K (.ip sz d es i (off+j.toNat * k)) none
     | .pt b len i off=>fS H b fun _ sz _ es=>cx g (es.length=len∧off+m * k≤sz)∧cx g (0≤j∧j<m)∧K (.pt b len i (off+j.toNat * k)) none
     |_=>False)
  |_=>False
 | .NV off k ag x=>cZ g R x fun v=>match v with
  | .agg cs=>(match ag with
   |true=>cx g (off+k≤cs.length)∧K (.agg ((cs.drop off).take k)) none
   |false=>cx g (off+k≤cs.length∧k=1)∧nN cs off .any fun v=>fK v fun v=>K v none)
  |_=>False
 | .ix k ag n x i=>cZ g R x fun v=>cZ g R i fun iv=>match v,iv with
  | .agg cs, .sc (.int _ j)=>cx g (n * k=cs.length)∧cx g (0≤j∧j<n)∧(match ag with
   |true=>K (.agg ((cs.drop (j.toNat * k)).take k)) none
   |false=>cx g (k=1)∧nN cs (j.toNat * k) .any fun v=>fK v fun v=>K v none)
  |_,_=>False
 | .N0 x i=>cZ g R x fun v=>cZ g R i fun iv=>match v,iv with
  | .sc (.string s), .sc (.int _ j)=>cx g (0≤j∧j<s.size)∧K (.sc (.int .u8 (s.data.toList.getD j.toNat 0).toNat)) none
  |_,_=>False
 | .lens x=>cZ g R x fun v=>match v with
  | .sc (.string s)=>K (.sc (.int .i64 s.size)) none
  |_=>False
 | .L7 e sz bytes ag z l c=>cZ g R l fun lv=>cZ g R c fun cv=>match lv,cv with
  | .sc (.int _ n), .sc (.int _ m)=>cx g (z.length=sz∧n=m)∧cx g (0≤n∧n * bytes≤281474976710656∧n≤9223372036854775807)∧
   K (.sl id n.toNat) (some (id, .row e sz (gE ag z) (List.replicate n.toNat (gE ag z))))
  |_,_=>False
 | .ext i x=>cZ g R x fun v=>match v with
  | .dD vs=>cx g (i<vs.length)∧nN vs i .any fun v=>fK v fun v=>K v none
  |_=>False
 | .NB f first caps=>jP g R first fun a=>jP g R caps fun b=>K (.fn f a b) none
 | .N7 t x=>cZ g R x fun v=>K (.kq t v) none
 | .len x=>cZ g R x fun v=>match v with
  | .im _ _ es=>K (.sc (.int .i64 (es.length:Int))) none
  | .sl b len=>fS H b fun _ _ _ es=>cx g (es.length=len)∧K (.sc (.int .i64 (len:Int))) none
  | .sc (.slice none 0 0)=>K (.sc (.int .i64 0)) none
  | .zc=>K (.sc (.int .i64 0)) none
  | .sv _ _ _ n=>K (.sc (.int .i64 (n:Int))) none
  |_=>False
 | .app e sz bytes ag z s x=>cZ g R s fun sv=>cZ g R x fun xv=>px g H sz xv fun xs=>cx g (z.length=sz)∧match sv with
  | .sc (.slice none 0 0)=>cx g (xs.length * bytes≤ja)∧K (.sl id xs.length) (some (id, .row e sz (gE ag z) xs))
  | .sl b len=>fS H b fun e' sz' d es=>cx g (es.length=len∧e'=e∧sz'=sz)∧cx g ((len+xs.length) * bytes≤ja)∧K (.sl b (len+xs.length)) (some (b, .row e sz d (es++xs)))
  |_=>False
 | .CO e bytes z s x=>cZ g R s fun sv=>cZ g R x fun xv=>match xv with
  | .sc (.string q)=>(match sv with
   | .sc (.slice none 0 0)=>cx g ((cB q).length * bytes≤ja)∧K (.sl id (cB q).length) (some (id, .row e 1 z (cB q)))
   | .sl b len=>fS H b fun e' sz' d es=>cx g (es.length=len∧e'=e∧sz'=1)∧cx g ((len+(cB q).length) * bytes≤ja)∧K (.sl b (len+(cB q).length)) (some (b, .row e 1 d (es++cB q)))
   |_=>False)
  |_=>False
 | .A7 neg x=>cZ g R x fun v=>match v with
  | .pt _ _ _ _=>K (.sc (.bool neg)) none
  | .ip _ _ _ _ _=>K (.sc (.bool neg)) none
  | .sc (.pointer none)=>K (.sc (.bool !neg)) none
  |_=>False
 | .vw neg x=>cZ g R x fun v=>iJ (jS H v) fun t=>fK (oY neg t) fun v=>K v none
 | .eqs neg ks x y=>cZ g R x fun a=>cZ g R y fun b=>match a,b with
  | .agg as, .agg bs=>iJ (DD ks as bs) fun t=>(match neg with
   |true=>K (.sc (.bool !t)) none
   |false=>K (.sc (.bool t)) none)
  |_,_=>False
 | .J6 e n=>K (.pt id n 0 0) (some (id, .row e 1 (.sc (.int .u8 0)) (List.replicate n (.sc (.int .u8 0)))))
 | .bad=>False
 | .LV n x i=>cZ g R x fun v=>cZ g R i fun iv=>match v,iv with
  | .pt b len 0 0, .sc (.int _ j)=>fS H b fun _ sz _ es=>cx g (len=n∧es.length=n∧sz=1)∧cx g (0≤j∧j<n)∧K (.pt b n j.toNat 0) none
  |_,_=>False
 | .MJ n x i=>cZ g R x fun v=>cZ g R i fun iv=>match v,iv with
  | .pt b len 0 0, .sc (.int _ j)=>fS H b fun _ sz _ es=>cx g (len=n∧es.length=n∧sz=1)∧cx g (0≤j∧j<n)∧K (.sv b n j.toNat (n - j.toNat)) none
  |_,_=>False
 | .NC sz x h m=>cZ g R x fun v=>cZ g R h fun a=>cZ g R m fun b=>iJ (BP sz a b v) fun r=>fK r fun r=>K r none
 | .JL sz x lo hi=>cZ g R x fun v=>jP g R (lo.toList++hi.toList) fun bs=>
  iJ (qj H sz (match lo with|some _=>bs[0]?|none=>none) (match hi with|some _=>(match lo with|some _=>bs[1]?|none=>bs[0]?)|none=>none) v) fun r=>fK r fun r=>K r none
 | .IE sz x y=>cZ g R x fun xv=>cZ g R y fun yv=>match xv with
  | .sl b len=>px g H sz yv fun xs=>fS H b fun e s d es=>cx g (es.length=len∧s=sz)∧
   K (.sc (.int .i64 (Nat.min xs.length len:Nat))) (some (b, .row e s d (xs.take (Nat.min xs.length len)++es.drop (Nat.min xs.length len))))
  |_=>False
 | .call _ _=>False
 | .KG kt=>K (.mp id) (some (id, .row kt 0 .any (mapA [])))
 | .IZ str ag z ok x k=>cZ g R x fun v=>cZ g R k fun kv=>match kv with
  | .sc kv=>zQ H v fun _ _ _ es=>cx g (j8 str kv=true)∧jl g (xY str kv es (gE ag z)) fun p=>match ok with
   |true=>K (.dD [p.1, .sc (.bool p.2)]) none
   |false=>fK p.1 fun v=>K v none
  |_=>False
 | .B7 str x k y=>cZ g R x fun v=>cZ g R k fun kv=>cZ g R y fun yv=>match kv with
  | .sc kv=>zQ H v fun b e d es=>cx g (j8 str kv=true)∧jl g (A5 str kv es yv) fun es'=>K .any (some (b, .row e 0 d (mapA es')))
  |_=>False
 | .xR x=>cZ g R x fun v=>zQ H v fun _ _ _ es=>K (.sc (.int .i64 (es.length:Nat))) none
 | .del str x k=>cZ g R x fun v=>cZ g R k fun kv=>match kv with
  | .sc kv=>zQ H v fun b e d es=>cx g (j8 str kv=true)∧jl g (N6 str kv es) fun es'=>K (.dD []) (some (b, .row e 0 d (mapA es')))
  |_=>False
 | .zf sz v=>K (.agg (List.replicate sz (.sc v))) none
 | .uI e sz v=>K (.pt id 1 0 0) (some (id, .row e sz (.agg (List.replicate sz (.sc v))) [.agg (List.replicate sz (.sc v))]))
 | .OF t ok ag z x=>cZ g R x fun v=>match v with
  | .kq t' v=>(bif Nat.beq t' t then(match ok with
   |true=>K (.dD [v, .sc (.bool true)]) none
   |false=>fK v fun v=>K v none) else(match ok with
   |true=>K (.dD [gE ag z, .sc (.bool false)]) none
   |false=>False))
  |_=>False
end
theorem y4 {f:Fr} {R:Raw}:∀{ps:List (Nat×Nat×dH)},(∀x∈ps.map (·.2.2),ev f x=(R x).2)→KC f ps=List.zipWith (fun p a=>(p.1,p.2.1,a)) ps ((ps.map (·.2.2)).map fun x=>(R x).2)
 |[],_=>rfl
 |(i,j,x)::ps,h=>by
  simp only[KC,List.map_cons,List.zipWith_cons_cons]
  rw[h x (by simp),y4 fun y hy=>h y (by simp only[List.map_cons,List.mem_cons];exact .inr hy)]
theorem y6 {f:Fr} {R:Raw}:∀{ps:List (Nat×dH)},(∀x∈ps.map (·.2),ev f x=(R x).2)→y5 f ps=List.zipWith (fun p a=>(p.1,a)) ps ((ps.map (·.2)).map fun x=>(R x).2)
 |[],_=>rfl
 |(i,x)::ps,h=>by
  simp only[y5,List.map_cons,List.zipWith_cons_cons]
  rw[h x (by simp),y6 fun y hy=>h y (by simp only[List.map_cons,List.mem_cons];exact .inr hy)]
theorem AP {g:Option Bool} {ag:Bool} {k:Nat} {e:AV} {sz off:Nat} {K:AV→Prop} (h:O8 g ag k e sz off K):∃r,K r∧(Gd g→w5 ag k e sz off=some r):=by
 unfold O8 at h
 cases ag with
 |true=>
  simp only at h
  cases e
  case agg cs=>
   simp only at h
   by_cases hb:off=0∧k=sz
   ·have hb':(Nat.beq off 0&&Nat.beq k sz)=true:=by
     obtain⟨rfl,rfl⟩:=hb;simp
    rw[hb'] at h
    exact⟨_,h,fun _=>by simp[w5,hb.1,hb.2]⟩
   ·have hb':(Nat.beq off 0&&Nat.beq k sz)=false:=by
     cases hc:(Nat.beq off 0&&Nat.beq k sz) with
     |false=>rfl
     |true=>
      rw[Bool.and_eq_true] at hc
      exact absurd ⟨Nat.eq_of_beq_eq_true hc.1,Nat.eq_of_beq_eq_true hc.2⟩ hb
    rw[hb'] at h
    simp only[cond_false] at h
    refine⟨_,h.2,fun hg=> ?_⟩
    have h1:=bz.1 h.1 hg
    simp only[w5,if_true]
    rw[if_neg hb,if_pos h1]
  all_goals exact h.elim
 |false=>
  have gen:∀e:AV,(bif one e then fK e K else False)→(w5 false k e sz off=if one e then some e else none)→∃r,K r∧(Gd g→w5 false k e sz off=some r):=by
   intro e h1 h2
   cases ho:one e with
   |true=>rw[ho,cond_true,eA] at h1;exact⟨_,h1,fun _=>by rw[h2,ho];rfl⟩
   |false=>rw[ho] at h1;exact h1.elim
  cases e
  case agg cs=>
   simp only at h
   have:=h.ok
   rw[eA] at this
   exact⟨_,this,fun _=>by simp[w5]⟩
  case any=>exact⟨_,h,fun _=>by simp[w5]⟩
  all_goals exact gen _ h rfl
theorem vk {g:Option Bool} {H:Hp} {v:AV} {K:Nat→AV→Nat→Prop} (h:lookW g H v K):∃sz e off,K sz e off∧(Gd g→j9 H v=some (sz,e,off)):=by
 unfold lookW at h
 split at h
 ·exact⟨_,_,_,h.ok,fun _=>rfl⟩
 ·obtain⟨e,sz,d,es,h1,h2,h3⟩:=h.ok
  refine⟨_,_,_,h3.ok,fun hg=> ?_⟩
  simp only[j9,h1]
  rw[if_pos (bz.1 h2 hg)]
 ·exact h.elim
theorem jr {g:Option Bool} {H:Hp} {k:Nat} {v:AV} {K:List AV→Prop} (h:px g H k v K):∃es,K es∧(Gd g→fw H v=some es∧wU H k v=true):=by
 unfold px at h
 split at h
 ·rename_i sz d es
  cases hb:Nat.beq sz k with
  |true=>rw[hb] at h;exact⟨_,h,fun _=>⟨rfl,by simpa[wU] using hb⟩⟩
  |false=>rw[hb] at h;exact h.elim
 ·obtain⟨e,sz,d,es,h1,h2,h3⟩:=h.ok
  refine⟨_,h3,fun hg=> ?_⟩
  obtain⟨g1,g2⟩:=bz.1 h2 hg
  simp[fw,wU,h1,g1,g2]
 ·exact⟨_,h,fun _=>⟨rfl,rfl⟩⟩
 ·exact⟨_,h,fun _=>⟨rfl,rfl⟩⟩
 ·obtain⟨e,sz,d,es,h1,h2,h3⟩:=h.ok
  refine⟨_,h3,fun hg=> ?_⟩
  obtain⟨g1,g2⟩:=bz.1 h2 hg
  simp[fw,wU,h1,g1,g2]
 ·exact h.elim
set_option maxHeartbeats 4000000 in
theorem jJ {g:Option Bool} {H:Hp} {R:Raw} {id:Nat} {op:cd} {K:AV→Option (Nat×du)→Prop} (h:nH g H R id op K):
 ∃r u,K r u∧(Gd g→(op.rd=true→∀x∈op.dL,BA R x)∧∀f,(∀x,BA R x→ev f x=(R x).2)→bn id f H op=some (r,u)):=by
 cases op
 case mv x=>
  obtain⟨h1,h2⟩:=bt h
  rw[eA] at h2
  exact⟨_,_,h2,fun hg=>⟨fun hr=>by simp[cd.rd] at hr,fun f hf=>by simp only[bn,hf x (h1 hg)]⟩⟩
 case pick c a b=>
  obtain⟨h1,h2⟩:=bt h
  split at h2
  ·rename_i t ht
   simp only[eA] at h2
   have key:∀{q:Option Bool} {p:Prop} {A:Prop},(match q with|none=>A|some q=>cx g (p→q=true)∧A)→A∧(Gd g→p→∀q',q=some q'→q'=true):=by
    intro q p A h
    cases q with
    |none=>exact⟨h,fun _ _ _ hq=>by cases hq⟩
    |some q=>exact⟨h.2,fun hg hp q' hq=>by cases hq;exact bz.1 h.1 hg hp⟩
   obtain⟨h3,ha⟩:=key h2
   obtain⟨h4,hb⟩:=key h3
   refine⟨_,_,h4,fun hg=>⟨fun hr=>by simp[cd.rd] at hr,fun f hf=> ?_⟩⟩
   simp only[bn,hf c (h1 hg),ht]
   congr 2
   cases t with
   |true=>rw[qf,qf,hf a (ha hg rfl)]
   |false=>rw[oU,oU,hf b (hb hg rfl)]
  ·exact h2.elim
 case alloc e sz ag z=>
  refine⟨_,_,h.2,fun hg=>⟨fun hr=>by simp[cd.rd] at hr,fun f hf=> ?_⟩⟩
  simp only[bn];rw[if_pos (bz.1 h.1 hg)]
 case box e sz ag x=>
  obtain⟨h1,h2⟩:=bt h
  refine⟨_,_,h2.2,fun hg=>⟨fun hr=>by simp[cd.rd] at hr,fun f hf=> ?_⟩⟩
  simp only[bn,hf x (h1 hg)];rw[if_pos (bz.1 h2.1 hg)]
 case M1 z ps=>
  obtain⟨h1,h2⟩:=eP h
  obtain⟨cs,h3,h4⟩:=h2.ok
  refine⟨_,_,h4,fun hg=>⟨fun hr=>by simp[cd.rd] at hr,fun f hf=> ?_⟩⟩
  simp only[bn]
  rw[y4 (R:=R) fun x hx=>hf x (h1 hg x hx),h3]
 case J8 e sz ag z n ps=>
  obtain⟨h1,h2⟩:=eP h
  refine⟨_,_,h2.2,fun hg=>⟨fun hr=>by simp[cd.rd] at hr,fun f hf=> ?_⟩⟩
  have h3:=bz.1 h2.1 hg
  simp only[bn]
  rw[y6 (R:=R) fun x hx=>hf x (h1 hg x hx),if_pos h3]
 case ld ag k x=>
  obtain⟨h1,h2⟩:=bt h
  obtain⟨sz,e,off,h3,h4⟩:=vk h2
  obtain⟨r,h5,h6⟩:=AP h3
  refine⟨_,_,h5,fun hg=>⟨fun _ y hy=>by simp[cd.dL] at hy;subst hy;exact h1 hg,fun f hf=> ?_⟩⟩
  simp only[bn,hf x (h1 hg),h4 hg,h6 hg,Option.map_some]
 case st ag k x y=>
  obtain⟨h1,h2⟩:=bt h
  obtain⟨h3,h4⟩:=bt h2
  split at h4
  ·rename_i b len i off hx
   obtain⟨e,sz,d,es,g1,g2,g3⟩:=h4.ok
   obtain⟨e',g4,g5⟩:=g3.ok.ok
   refine⟨_,_,g5,fun hg=>⟨fun _ z hz=>by simp[cd.dL] at hz;rcases hz with rfl|rfl;exact h1 hg;exact h3 hg,fun f hf=> ?_⟩⟩
   simp only[bn,hf x (h1 hg),hf y (h3 hg),hx,g1,g4]
   rw[if_pos (bz.1 g2 hg)]
  ·exact h4.elim
 case N8 x=>
  obtain⟨h1,h2⟩:=bt h
  split at h2
  all_goals first
   |exact h2.elim
   |(rename_i hx;exact⟨_,_,h2,fun hg=>⟨fun hr=>by simp[cd.rd] at hr,fun f hf=>by simp only[bn,hf x (h1 hg),hx]⟩⟩)
 case bin op x y=>
  obtain⟨h1,h2⟩:=bt h
  obtain⟨h3,h4⟩:=bt h2
  split at h4
  all_goals first
   |exact h4.elim
   |(rename_i hx hy;obtain⟨q1,q2⟩:=h4;obtain⟨m,q3,q4⟩:=q2.ok;refine⟨_,_,q4,fun hg=>⟨fun hr=>by simp[cd.rd] at hr,fun f hf=> ?_⟩⟩;simp only[bn,hf x (h1 hg),hf y (h3 hg),hx,hy,zd];rw[if_pos (bz.1 q1 hg),q3 hg];rfl)
   |(rename_i hx hy;refine⟨_,_,h4.2,fun hg=>⟨fun hr=>by simp[cd.rd] at hr,fun f hf=> ?_⟩⟩;simp only[bn,hf x (h1 hg),hf y (h3 hg),hx,hy,zd];rw[if_pos (bz.1 h4.1 hg)];rfl)
 case M3 neg x y=>
  obtain⟨h1,h2⟩:=bt h
  obtain⟨h3,h4⟩:=bt h2
  split at h4
  ·rename_i p q hx hy
   cases neg
   all_goals exact⟨_,_,h4,fun hg=>⟨fun hr=>by simp[cd.rd] at hr,fun f hf=>by simp[bn,hf x (h1 hg),hf y (h3 hg),hx,hy]⟩⟩
  ·exact h4.elim
 case sA neg x y=>
  obtain⟨h1,h2⟩:=bt h
  obtain⟨h3,h4⟩:=bt h2
  split at h4
  ·rename_i p q hx hy
   cases neg
   all_goals exact⟨_,_,h4,fun hg=>⟨fun hr=>by simp[cd.rd] at hr,fun f hf=>by simp[bn,hf x (h1 hg),hf y (h3 hg),hx,hy]⟩⟩
  ·exact h4.elim
 case zg op x y=>
  obtain⟨h1,h2⟩:=bt h
  obtain⟨h3,h4⟩:=bt h2
  split at h4
  ·rename_i p q hx hy
   cases op
   case add=>exact⟨_,_,h4.2,fun hg=>⟨fun hr=>by simp[cd.rd] at hr,fun f hf=>by simp only[bn,hf x (h1 hg),hf y (h3 hg),hx,hy,G8];rw[if_pos (bz.1 h4.1 hg)];rfl⟩⟩
   case lss=>exact⟨_,_,h4,fun hg=>⟨fun hr=>by simp[cd.rd] at hr,fun f hf=>by simp only[bn,hf x (h1 hg),hf y (h3 hg),hx,hy,G8];rfl⟩⟩
   all_goals exact h4.elim
  ·exact h4.elim
 case HZ sz ag z x=>
  obtain⟨h1,h2⟩:=bt h
  split at h2
  ·rename_i b len lo n hx
   obtain⟨e,s,d,es,q1,q2,q3⟩:=h2.ok
   exact⟨_,_,q3,fun hg=>⟨fun hr y hy=>by simp[cd.dL] at hy;subst hy;exact h1 hg,fun f hf=>by
    simp only[bn,hf x (h1 hg),hx,q1];rw[if_pos (bz.1 q2 hg)]⟩⟩
  ·exact h2.elim
 case K3 x=>
  obtain⟨h1,h2⟩:=bt h
  obtain⟨xs,h3,h4⟩:=jr h2
  obtain⟨ns,h5,h6⟩:=h3.ok
  exact⟨_,_,h6,fun hg=>⟨fun hr y hy=>by simp[cd.dL] at hy;subst hy;exact h1 hg,fun f hf=>by
   obtain⟨q1,q2⟩:=h4 hg
   simp only[bn,hf x (h1 hg),q1,q2,if_true,h5 hg,Option.map_some]⟩⟩
 case un op x=>
  obtain⟨h1,h2⟩:=bt h
  split at h2
  all_goals first
   |exact h2.elim
   |(rename_i hx;obtain⟨m,q3,q4⟩:=h2.ok;exact⟨_,_,q4,fun hg=>⟨fun hr=>by simp[cd.rd] at hr,fun f hf=>by simp only[bn,hf x (h1 hg),hx,OI,Option.map_some,q3 hg]⟩⟩)
   |(rename_i hx;exact⟨_,_,h2,fun hg=>⟨fun hr=>by simp[cd.rd] at hr,fun f hf=>by simp only[bn,hf x (h1 hg),hx,OI,Option.map_some]⟩⟩)
 case NQ k x=>
  obtain⟨h1,h2⟩:=bt h
  split at h2
  all_goals first
   |exact h2.elim
   |(rename_i hx;obtain⟨m,q3,q4⟩:=h2.ok;exact⟨_,_,q4,fun hg=>⟨fun hr=>by simp[cd.rd] at hr,fun f hf=>by simp only[bn,hf x (h1 hg),hx,q3 hg]⟩⟩)
 case fa off x=>
  obtain⟨h1,h2⟩:=bt h
  have hr:Gd g→((cd.fa off x).rd=true→∀y∈(cd.fa off x).dL,BA R y):=fun hg _ y hy=>by simp[cd.dL] at hy;subst hy;exact h1 hg
  split at h2
  ·rename_i hx
   refine⟨_,_,h2.2,fun hg=>⟨hr hg,fun f hf=> ?_⟩⟩
   simp only[bn,hf x (h1 hg),hx];rw[if_pos (bz.1 h2.1 hg)]
  ·rename_i hx
   obtain⟨e,sz,d,es,g1,g2,g3⟩:=h2.ok
   refine⟨_,_,g3,fun hg=>⟨hr hg,fun f hf=> ?_⟩⟩
   simp only[bn,hf x (h1 hg),hx,g1];rw[if_pos (bz.1 g2 hg)]
  ·exact h2.elim
 case ia k n x i=>
  obtain⟨h1,h2⟩:=bt h
  obtain⟨h3,h4⟩:=bt h2
  have hr:Gd g→((cd.ia k n x i).rd=true→∀y∈(cd.ia k n x i).dL,BA R y):=fun hg _ y hy=>by simp[cd.dL] at hy;rcases hy with rfl|rfl;exact h1 hg;exact h3 hg
  split at h4
  ·rename_i kk j hi
   cases n with
   |none=>
    simp only at h4
    split at h4
    ·rename_i hx
     refine⟨_,_,h4.2.2,fun hg=>⟨hr hg,fun f hf=> ?_⟩⟩
     simp only[bn,hf x (h1 hg),hf i (h3 hg),hx,hi,D6]
     rw[if_pos ⟨bz.1 h4.1 hg,bz.1 h4.2.1 hg⟩];rfl
    ·rename_i hx
     obtain⟨e,sz,d,es,g1,g2,g3,g4⟩:=h4.ok
     refine⟨_,_,g4,fun hg=>⟨hr hg,fun f hf=> ?_⟩⟩
     obtain⟨q1,q2⟩:=bz.1 g2 hg
     simp only[bn,hf x (h1 hg),hf i (h3 hg),hx,hi,D6,g1]
     rw[if_pos ⟨q1,q2,bz.1 g3 hg⟩];rfl
    ·rename_i hx
     obtain⟨e,sz,d,es,g1,g2,g3,g4⟩:=h4.ok
     refine⟨_,_,g4,fun hg=>⟨hr hg,fun f hf=> ?_⟩⟩
     obtain⟨q1,q2⟩:=bz.1 g2 hg
     simp only[bn,hf x (h1 hg),hf i (h3 hg),hx,hi,D6,g1]
     rw[if_pos ⟨q1,q2,bz.1 g3 hg⟩];rfl
    ·exact h4.elim
   |some m=>
    simp only at h4
    split at h4
    ·rename_i hx
     refine⟨_,_,h4.2.2,fun hg=>⟨hr hg,fun f hf=> ?_⟩⟩
     simp only[bn,hf x (h1 hg),hf i (h3 hg),hx,hi,D6]
     rw[if_pos ⟨bz.1 h4.1 hg,bz.1 h4.2.1 hg⟩];rfl
    ·rename_i hx
     obtain⟨e,sz,d,es,g1,g2,g3,g4⟩:=h4.ok
     refine⟨_,_,g4,fun hg=>⟨hr hg,fun f hf=> ?_⟩⟩
     obtain⟨q1,q2⟩:=bz.1 g2 hg
     simp only[bn,hf x (h1 hg),hf i (h3 hg),hx,hi,D6,g1]
     rw[if_pos ⟨q1,q2,bz.1 g3 hg⟩];rfl
    ·exact h4.elim
  ·exact h4.elim
 case NV off k ag x=>
  obtain⟨h1,h2⟩:=bt h
  split at h2
  ·rename_i cs hx
   cases ag with
   |true=>
    refine⟨_,_,h2.2,fun hg=>⟨fun hr=>by simp[cd.rd] at hr,fun f hf=> ?_⟩⟩
    simp only[bn,hf x (h1 hg),hx,if_true];rw[if_pos (bz.1 h2.1 hg)]
   |false=>
    have h3:=h2.2.ok
    rw[eA] at h3
    refine⟨_,_,h3,fun hg=>⟨fun hr=>by simp[cd.rd] at hr,fun f hf=> ?_⟩⟩
    obtain⟨q1,q2⟩:=bz.1 h2.1 hg
    simp only[bn,hf x (h1 hg),hx,Bool.false_eq_true,if_false];rw[if_pos q1,if_pos q2]
  ·exact h2.elim
 case ix k ag n x i=>
  obtain⟨h1,h2⟩:=bt h
  obtain⟨h3,h4⟩:=bt h2
  split at h4
  ·rename_i cs kk j hx hi
   obtain⟨p1,p2,p3⟩:=h4
   cases ag with
   |true=>
    refine⟨_,_,p3,fun hg=>⟨fun hr=>by simp[cd.rd] at hr,fun f hf=> ?_⟩⟩
    have q2:=bz.1 p2 hg
    simp only[bn,hf x (h1 hg),hf i (h3 hg),hx,hi,if_true];rw[if_pos ⟨q2.1,q2.2,bz.1 p1 hg⟩]
   |false=>
    have h5:=p3.2.ok
    rw[eA] at h5
    refine⟨_,_,h5,fun hg=>⟨fun hr=>by simp[cd.rd] at hr,fun f hf=> ?_⟩⟩
    have q2:=bz.1 p2 hg
    simp only[bn,hf x (h1 hg),hf i (h3 hg),hx,hi,Bool.false_eq_true,if_false];rw[if_pos ⟨q2.1,q2.2,bz.1 p1 hg⟩,if_pos (bz.1 p3.1 hg)]
  ·exact h4.elim
 case N0 x i=>
  obtain⟨h1,h2⟩:=bt h
  obtain⟨h3,h4⟩:=bt h2
  split at h4
  ·rename_i hx hi
   refine⟨_,_,h4.2,fun hg=>⟨fun hr=>by simp[cd.rd] at hr,fun f hf=> ?_⟩⟩
   simp only[bn,hf x (h1 hg),hf i (h3 hg),hx,hi];rw[if_pos (bz.1 h4.1 hg)]
  ·exact h4.elim
 case lens x=>
  obtain⟨h1,h2⟩:=bt h
  split at h2
  all_goals first
   |exact h2.elim
   |(rename_i hx;exact⟨_,_,h2,fun hg=>⟨fun hr=>by simp[cd.rd] at hr,fun f hf=>by simp only[bn,hf x (h1 hg),hx]⟩⟩)
 case L7 e sz bytes ag z l c=>
  obtain⟨h1,h2⟩:=bt h
  obtain⟨h3,h4⟩:=bt h2
  split at h4
  ·rename_i hx hi
   refine⟨_,_,h4.2.2,fun hg=>⟨fun hr=>by simp[cd.rd] at hr,fun f hf=> ?_⟩⟩
   obtain⟨q1,q2⟩:=bz.1 h4.1 hg
   obtain⟨q3,q4,q5⟩:=bz.1 h4.2.1 hg
   simp only[bn,hf l (h1 hg),hf c (h3 hg),hx,hi];rw[if_pos ⟨q1,q3,q2,q4,q5⟩]
  ·exact h4.elim
 case ext i x=>
  obtain⟨h1,h2⟩:=bt h
  split at h2
  ·rename_i hx
   have h3:=h2.2.ok
   rw[eA] at h3
   refine⟨_,_,h3,fun hg=>⟨fun hr=>by simp[cd.rd] at hr,fun f hf=> ?_⟩⟩
   simp only[bn,hf x (h1 hg),hx];rw[if_pos (bz.1 h2.1 hg)]
  ·exact h2.elim
 case NB fn first caps=>
  obtain⟨h1,h2⟩:=eP h
  obtain⟨h3,h4⟩:=eP h2
  refine⟨_,_,h4,fun hg=>⟨fun hr=>by simp[cd.rd] at hr,fun f hf=> ?_⟩⟩
  simp only[bn]
  rw[jt (R:=R) fun x hx=>hf x (h1 hg x hx),jt (R:=R) fun x hx=>hf x (h3 hg x hx)]
 case N7 t x=>
  obtain⟨h1,h2⟩:=bt h
  exact⟨_,_,h2,fun hg=>⟨fun hr=>by simp[cd.rd] at hr,fun f hf=>by simp only[bn,hf x (h1 hg)]⟩⟩
 case len x=>
  obtain⟨h1,h2⟩:=bt h
  have hr:Gd g→((cd.len x).rd=true→∀y∈(cd.len x).dL,BA R y):=fun hg _ y hy=>by simp[cd.dL] at hy;subst hy;exact h1 hg
  split at h2
  ·rename_i hx;exact⟨_,_,h2,fun hg=>⟨hr hg,fun f hf=>by simp only[bn,hf x (h1 hg),hx,qW]⟩⟩
  ·rename_i hx
   obtain⟨e,sz,d,es,g1,g2,g3⟩:=h2.ok
   refine⟨_,_,g3,fun hg=>⟨hr hg,fun f hf=> ?_⟩⟩
   simp only[bn,hf x (h1 hg),hx,qW,g1];rw[if_pos (bz.1 g2 hg)]
  ·rename_i hx;exact⟨_,_,h2,fun hg=>⟨hr hg,fun f hf=>by simp[bn,hf x (h1 hg),hx,qW]⟩⟩
  ·rename_i hx;exact⟨_,_,h2,fun hg=>⟨hr hg,fun f hf=>by simp[bn,hf x (h1 hg),hx,qW]⟩⟩
  ·rename_i hx;exact⟨_,_,h2,fun hg=>⟨hr hg,fun f hf=>by simp only[bn,hf x (h1 hg),hx,qW]⟩⟩
  ·exact h2.elim
 case app e sz bytes ag z s x=>
  obtain⟨h1,h2⟩:=bt h
  obtain⟨h3,h4⟩:=bt h2
  obtain⟨xs,⟨h5,h5'⟩,h6⟩:=jr h4
  have hr:Gd g→((cd.app e sz bytes ag z s x).rd=true→∀y∈(cd.app e sz bytes ag z s x).dL,BA R y):=fun hg _ y hy=>by simp[cd.dL] at hy;rcases hy with rfl|rfl;exact h1 hg;exact h3 hg
  split at h5'
  ·rename_i hx
   refine⟨_,_,h5'.2,fun hg=>⟨hr hg,fun f hf=> ?_⟩⟩
   obtain⟨q1,q2⟩:=h6 hg
   simp only[bn,hf s (h1 hg),hf x (h3 hg),hx,q1];rw[if_pos ⟨q2,bz.1 h5 hg⟩,if_pos (bz.1 h5'.1 hg)]
  ·rename_i hx
   obtain⟨e',sz',d,es,g1,g2,g3,g4⟩:=h5'.ok
   refine⟨_,_,g4,fun hg=>⟨hr hg,fun f hf=> ?_⟩⟩
   obtain⟨q1,q2⟩:=h6 hg
   obtain⟨q3,q4,q5⟩:=bz.1 g2 hg
   simp only[bn,hf s (h1 hg),hf x (h3 hg),hx,q1,g1];rw[if_pos ⟨q2,bz.1 h5 hg⟩,if_pos ⟨q3,q4,q5,bz.1 g3 hg⟩]
  ·exact h5'.elim
 case CO e bytes z s x=>
  obtain⟨h1,h2⟩:=bt h
  obtain⟨h3,h4⟩:=bt h2
  have hr:Gd g→((cd.CO e bytes z s x).rd=true→∀y∈(cd.CO e bytes z s x).dL,BA R y):=fun hg _ y hy=>by simp[cd.dL] at hy;rcases hy with rfl|rfl;exact h1 hg;exact h3 hg
  split at h4
  ·rename_i q hq
   split at h4
   ·rename_i hx
    refine⟨_,_,h4.2,fun hg=>⟨hr hg,fun f hf=> ?_⟩⟩
    simp only[bn,hf s (h1 hg),hf x (h3 hg),hx,hq];rw[if_pos (bz.1 h4.1 hg)]
   ·rename_i hx
    obtain⟨e',sz',d,es,g1,g2,g3,g4⟩:=h4.ok
    refine⟨_,_,g4,fun hg=>⟨hr hg,fun f hf=> ?_⟩⟩
    obtain⟨q3,q4,q5⟩:=bz.1 g2 hg
    simp only[bn,hf s (h1 hg),hf x (h3 hg),hx,hq,g1];rw[if_pos ⟨q3,q4,q5,bz.1 g3 hg⟩]
   ·exact h4.elim
  ·exact h4.elim
 case A7 neg x=>
  obtain⟨h1,h2⟩:=bt h
  split at h2
  all_goals first
   |exact h2.elim
   |(rename_i hx;exact⟨_,_,h2,fun hg=>⟨fun hr=>by simp[cd.rd] at hr,fun f hf=>by simp only[bn,hf x (h1 hg),hx]⟩⟩)
 case vw neg x=>
  obtain⟨h1,h2⟩:=bt h
  obtain⟨t,h3,h4⟩:=h2.ok
  rw[eA] at h4
  refine⟨_,_,h4,fun hg=>⟨fun _ y hy=>by simp[cd.dL] at hy;subst hy;exact h1 hg,fun f hf=> ?_⟩⟩
  simp only[bn,hf x (h1 hg),h3]
 case eqs neg ks x y=>
  obtain⟨h1,h2⟩:=bt h
  obtain⟨h3,h4⟩:=bt h2
  split at h4
  ·rename_i hx hy
   obtain⟨t,g1,g2⟩:=h4.ok
   cases neg
   all_goals exact⟨_,_,g2,fun hg=>⟨fun hr=>by simp[cd.rd] at hr,fun f hf=>by simp[bn,hf x (h1 hg),hf y (h3 hg),hx,hy,g1]⟩⟩
  ·exact h4.elim
 case JL sz x lo hi=>
  obtain⟨h1,h2⟩:=bt h
  obtain⟨h3,h4⟩:=eP h2
  obtain⟨r,g1,g2⟩:=h4.ok
  rw[eA] at g2
  refine⟨_,_,g2,fun hg=>⟨fun _ y hy=> ?_,fun f hf=> ?_⟩⟩
  ·simp only[cd.dL,List.mem_append,List.mem_singleton] at hy
   rcases hy with(rfl|hy)|hy
   ·exact h1 hg
   ·exact h3 hg y (by simp only[List.mem_append];exact .inl hy)
   ·exact h3 hg y (by simp only[List.mem_append];exact .inr hy)
  ·simp only[bn,hf x (h1 hg)]
   have e1:∀y∈lo.toList++hi.toList,ev f y=(R y).2:=fun y hy=>hf y (h3 hg y hy)
   cases lo<;>cases hi<;>simp_all
 case LV n x i=>
  obtain⟨h1,h2⟩:=bt h
  obtain⟨h3,h4⟩:=bt h2
  split at h4
  ·rename_i b len kk j hx hi
   obtain⟨e,sz,d,es,g1,g2,g3,g4⟩:=h4.ok
   refine⟨_,_,g4,fun hg=>⟨fun _ y hy=>by simp[cd.dL] at hy;rcases hy with rfl|rfl;exact h1 hg;exact h3 hg,fun f hf=> ?_⟩⟩
   obtain⟨q1,q2,q3⟩:=bz.1 g2 hg
   obtain⟨q4,q5⟩:=bz.1 g3 hg
   simp only[bn,hf x (h1 hg),hf i (h3 hg),hx,hi,xL,g1]
   rw[if_pos ⟨q1,q2,q3,q4,q5⟩];rfl
  ·exact h4.elim
 case MJ n x i=>
  obtain⟨h1,h2⟩:=bt h
  obtain⟨h3,h4⟩:=bt h2
  split at h4
  ·rename_i b len kk j hx hi
   obtain⟨e,sz,d,es,g1,g2,g3,g4⟩:=h4.ok
   refine⟨_,_,g4,fun hg=>⟨fun _ y hy=>by simp[cd.dL] at hy;rcases hy with rfl|rfl;exact h1 hg;exact h3 hg,fun f hf=> ?_⟩⟩
   obtain⟨q1,q2,q3⟩:=bz.1 g2 hg
   obtain⟨q4,q5⟩:=bz.1 g3 hg
   simp only[bn,hf x (h1 hg),hf i (h3 hg),hx,hi,xz,g1]
   rw[if_pos ⟨q1,q2,q3,q4,q5⟩];rfl
  ·exact h4.elim
 case bad=>exact h.elim
 case J6 e n=>exact⟨_,_,h,fun hg=>⟨fun hr=>by simp[cd.rd] at hr,fun f hf=>rfl⟩⟩
 case NC sz x a b=>
  obtain⟨h1,h2⟩:=bt h
  obtain⟨h3,h4⟩:=bt h2
  obtain⟨h5,h6⟩:=bt h4
  obtain⟨r,g1,g2⟩:=h6.ok
  rw[eA] at g2
  refine⟨_,_,g2,fun hg=>⟨fun _ y hy=> ?_,fun f hf=> ?_⟩⟩
  ·simp only[cd.dL,List.mem_cons,List.not_mem_nil,or_false] at hy
   rcases hy with rfl|rfl|rfl
   ·exact h1 hg
   ·exact h3 hg
   ·exact h5 hg
  ·simp only[bn,hf x (h1 hg),hf a (h3 hg),hf b (h5 hg),g1]
   rfl
 case IE sz x y=>
  obtain⟨h1,h2⟩:=bt h
  obtain⟨h3,h4⟩:=bt h2
  split at h4
  ·rename_i b len hx
   obtain⟨xs,h5,h6⟩:=jr h4
   obtain⟨e,s,d,es,g1,g2,g3⟩:=h5.ok
   refine⟨_,_,g3,fun hg=>⟨fun _ z hz=>by simp[cd.dL] at hz;rcases hz with rfl|rfl;exact h1 hg;exact h3 hg,fun f hf=> ?_⟩⟩
   obtain⟨q1,q2⟩:=h6 hg
   obtain⟨q3,q4⟩:=bz.1 g2 hg
   simp only[bn,hf x (h1 hg),hf y (h3 hg),hx,q1,g1];rw[if_pos ⟨q3,q4,q2⟩]
  ·exact h4.elim
 case call f as=>exact h.elim
 case KG kt=>exact⟨_,_,h,fun hg=>⟨fun hr=>by simp[cd.rd] at hr,fun f hf=>rfl⟩⟩
 case zf sz v=>exact⟨_,_,h,fun hg=>⟨fun hr=>by simp[cd.rd] at hr,fun f hf=>rfl⟩⟩
 case uI e sz v=>exact⟨_,_,h,fun hg=>⟨fun hr=>by simp[cd.rd] at hr,fun f hf=>rfl⟩⟩
 case xR x=>
  obtain⟨h1,h2⟩:=bt h
  obtain⟨b,e,d,es,h3,h4⟩:=jm h2
  exact⟨_,_,h4,fun hg=>⟨fun _ y hy=>by simp[cd.dL] at hy;subst hy;exact h1 hg,fun f hf=>by simp only[bn,hf x (h1 hg),h3]⟩⟩
 case IZ str ag z ok x k=>
  obtain⟨h1,h2⟩:=bt h
  obtain⟨h3,h4⟩:=bt h2
  have hr:Gd g→((cd.IZ str ag z ok x k).rd=true→∀y∈(cd.IZ str ag z ok x k).dL,BA R y):=fun hg _ y hy=>by simp[cd.dL] at hy;rcases hy with rfl|rfl;exact h1 hg;exact h3 hg
  split at h4
  ·rename_i kv hk
   obtain⟨b,e,d,es,h5,h6,h7⟩:=jm h4
   obtain⟨p,h8,h9⟩:=h7.ok
   cases ok with
   |true=>
    refine⟨_,_,h9,fun hg=>⟨hr hg,fun f hf=> ?_⟩⟩
    have h10:=h8 hg
    unfold xY at h10
    simp only[bn,hf x (h1 hg),hf k (h3 hg),h5,hk]
    rw[if_pos (bz.1 h6 hg)]
    split at h10<;>simp only[Option.some.injEq,reduceCtorEq] at h10
    ·subst h10;simp_all
    ·subst h10;simp_all
   |false=>
    simp only[eA] at h9
    refine⟨_,_,h9,fun hg=>⟨hr hg,fun f hf=> ?_⟩⟩
    have h10:=h8 hg
    unfold xY at h10
    simp only[bn,hf x (h1 hg),hf k (h3 hg),h5,hk]
    rw[if_pos (bz.1 h6 hg)]
    split at h10<;>simp only[Option.some.injEq,reduceCtorEq] at h10
    ·subst h10;simp_all
    ·subst h10;simp_all
  ·exact h4.elim
 case B7 str x k y=>
  obtain⟨h1,h2⟩:=bt h
  obtain⟨h3,h4⟩:=bt h2
  obtain⟨h3',h4'⟩:=bt h4
  have hr:Gd g→((cd.B7 str x k y).rd=true→∀w∈(cd.B7 str x k y).dL,BA R w):=fun hg _ w hy=>by simp[cd.dL] at hy;rcases hy with rfl|rfl|rfl;exact h1 hg;exact h3 hg;exact h3' hg
  split at h4'
  ·rename_i kv hk
   obtain⟨b,e,d,es,h5,h6,h7⟩:=jm h4'
   obtain⟨p,h8,h9⟩:=h7.ok
   refine⟨_,_,h9,fun hg=>⟨hr hg,fun f hf=> ?_⟩⟩
   have h10:=h8 hg
   unfold A5 at h10
   simp only[bn,hf x (h1 hg),hf k (h3 hg),hf y (h3' hg),h5,hk]
   rw[if_pos (bz.1 h6 hg)]
   split at h10<;>simp only[Option.some.injEq,reduceCtorEq] at h10
   ·subst h10;simp_all[w4]
   ·subst h10;simp_all[w4]
  ·exact h4'.elim
 case del str x k=>
  obtain⟨h1,h2⟩:=bt h
  obtain⟨h3,h4⟩:=bt h2
  have hr:Gd g→((cd.del str x k).rd=true→∀y∈(cd.del str x k).dL,BA R y):=fun hg _ y hy=>by simp[cd.dL] at hy;rcases hy with rfl|rfl;exact h1 hg;exact h3 hg
  split at h4
  ·rename_i kv hk
   obtain⟨b,e,d,es,h5,h6,h7⟩:=jm h4
   obtain⟨p,h8,h9⟩:=h7.ok
   refine⟨_,_,h9,fun hg=>⟨hr hg,fun f hf=> ?_⟩⟩
   have h10:=h8 hg
   unfold N6 at h10
   simp only[bn,hf x (h1 hg),hf k (h3 hg),h5,hk]
   rw[if_pos (bz.1 h6 hg)]
   split at h10<;>simp only[Option.some.injEq,reduceCtorEq] at h10
   ·subst h10;simp_all
   ·subst h10;simp_all
  ·exact h4.elim
 case OF t ok ag z x=>
  obtain⟨h1,h2⟩:=bt h
  split at h2
  ·rename_i t' v hx
   cases hb:Nat.beq t' t with
   |true=>
    rw[hb] at h2
    have e:=Nat.eq_of_beq_eq_true hb
    cases ok with
    |true=>
     simp only[cond_true] at h2
     exact⟨_,_,h2,fun hg=>⟨fun hr=>by simp[cd.rd] at hr,fun f hf=>by simp only[bn,hf x (h1 hg),hx];rw[if_pos e];rfl⟩⟩
    |false=>
     simp only[cond_true,eA] at h2
     exact⟨_,_,h2,fun hg=>⟨fun hr=>by simp[cd.rd] at hr,fun f hf=>by simp only[bn,hf x (h1 hg),hx];rw[if_pos e];rfl⟩⟩
   |false=>
    rw[hb] at h2
    have e:¬t'=t:=fun e=>by rw[e] at hb;simp at hb
    cases ok with
    |true=>
     simp only[cond_false] at h2
     exact⟨_,_,h2,fun hg=>⟨fun hr=>by simp[cd.rd] at hr,fun f hf=>by simp only[bn,hf x (h1 hg),hx];rw[if_neg e];rfl⟩⟩
    |false=>exact h2.elim
  ·exact h2.elim
end Go.cW
/- Code as a whole, run by reduction alone; it is so. -/
namespace Go.cW
open Go.RowKit
structure eT (t:Bool) (A B:Prop):Prop where
 ok:(t=true→A)∧(t=false→B)
theorem eT.lt {A B:Prop} (h:A):eT true A B:=⟨⟨fun _=>h,fun h=>(by cases h)⟩⟩
theorem eT.lf {A B:Prop} (h:B):eT false A B:=⟨⟨fun h=>(by cases h),fun _=>h⟩⟩
theorem eT.of {t:Bool} {A B:Prop} (h1:t=true→A) (h2:t=false→B):eT t A B:=⟨⟨h1,h2⟩⟩
structure dh (t want:Bool) (A B J:Prop):Prop where
 ok:((t=want→A)∧(t≠want→B))∨J
theorem dh.tt {A B J:Prop} (h:A):dh true true A B J:=⟨.inl ⟨fun _=>h,fun h=>absurd rfl h⟩⟩
theorem dh.join {t want:Bool} {A B J:Prop} (h:J):dh t want A B J:=⟨.inr h⟩
theorem dh.split {t want:Bool} {A B J:Prop} (h1:t=want→A) (h2:t= !want→B):dh t want A B J:=⟨.inl ⟨h1,fun h=>h2 (by cases t<;>cases want<;>simp_all)⟩⟩
structure ft (P:Program) (f:FuncId) (args:List AV) (H:Hp) (nx:Nat) (K:AV→Hp→Nat→Prop):Prop where
 ok:bw P f args H nx K
structure mH (P:Program) (g:Bool) (f:FuncId) (args:List AV) (H:Hp) (nx:Nat) (K:AV→Prop):Prop where
 ok:∃r,(g=true→∀(K':AV→Hp→Nat→Prop),K' r H (nx+1)→bw P f args H nx K')∧K r
structure kH (P:Program) (id:Nat) (f:FuncId) (args:List AV) (H:Hp) (K:AV→Option (Nat×du)→List Nat→Prop):Prop where
 ok:∃r u S,l7 P id (.fn (.func f) [] []) args H r u S∧K r u S
structure NH (P:Program) (t:TypeId) (v:AV) (nm:String) (args:List AV) (H:Hp) (nx:Nat) (K:AV→Hp→Nat→Prop):Prop where
 ok:rP P t v nm args H nx K
structure rO (P:Program) (g:Bool) (id:Nat) (f:FuncId) (args:List AV) (H:Hp) (K:AV→List Nat→Prop):Prop where
 ok:∃r S,(g=true→l7 P id (.fn (.func f) [] []) args H r none S)∧K r S
theorem Pure.K7 {P:Program} {f:FuncId} {args:List AV} {R:AV→Prop} {H:Hp} {nx:Nat} {K:AV→Hp→Nat→Prop} (h:Pure P f args R) (hf:cG 0 args) (hK:∀r,R r→K r H (nx+1)):bw P f args H nx K:=by
 have:=h.dR (H:=H) (nx:=nx) (K:=fun r H' n=>∃n',n≤n'∧K r H' n') hf fun r hr=>⟨_,Nat.le_succ _,hK r hr⟩
 refine⟨this.1,fun w0 c vs a1 a2 a3 a4=>(this.2 w0 c vs a1 a2 a3 a4).mono ?_⟩
 rintro e w' ⟨v,r,H',nx',ρ,U,he,⟨n',hn,hR⟩,hU,hrest⟩
 exact⟨v,r,H',n',ρ,U,he,hR,fun b hb=>Nat.lt_of_lt_of_le (hU b hb) hn,hrest⟩
theorem ft.pure {P:Program} {f:FuncId} {args:List AV} {R:AV→Prop} {H:Hp} {nx:Nat} {K:AV→Hp→Nat→Prop} (h:Pure P f args R) (hf:cG 0 args) (hK:∀r,R r→K r H nx):ft P f args H nx K:=⟨h.dR hf hK⟩
theorem ft.HI {P:Program} {f:FuncId} {args:List AV} {r:AV} {H:Hp} {nx:Nat} {K:AV→Hp→Nat→Prop} (h:Pure P f args (fun x=>x=r)) (hf:cG 0 args) (hK:K r H nx):ft P f args H nx K:=⟨h.dR hf fun x hx=>by rw[hx];exact hK⟩
theorem ft.of {P:Program} {f:FuncId} {args:List AV} {H:Hp} {nx:Nat} {R K:AV→Hp→Nat→Prop} (h:bw P f args H nx R) (hK:∀r H' nx',R r H' nx'→K r H' nx'):ft P f args H nx K:=⟨h.mono hK⟩
theorem mH.HI {P:Program} {g:Bool} {f:FuncId} {args:List AV} {r:AV} {H:Hp} {nx:Nat} {K:AV→Prop} (h:g=true→Pure P f args (fun x=>x=r)) (hf:cG 0 args) (hK:K r):mH P g f args H nx K:=
 ⟨⟨r,fun hg K' hK'=>(h hg).K7 hf fun x hx=>by rw[hx];exact hK',hK⟩⟩
theorem kH.HI {P:Program} {id:Nat} {f:FuncId} {args:List AV} {H:Hp} {r:AV} {K:AV→Option (Nat×du)→List Nat→Prop} (h:Pure P f args (fun x=>x=r)) (hf:cG 0 args) (hK:K r none []):kH P id f args H K:=
 ⟨⟨r,none,[],Pure.GP (by simpa using hf) (by simpa using h),hK⟩⟩
theorem rO.HI {P:Program} {g:Bool} {id:Nat} {f:FuncId} {args:List AV} {H:Hp} {r:AV} {K:AV→List Nat→Prop} (h:g=true→Pure P f args (fun x=>x=r)) (hf:cG 0 args) (hK:K r []):rO P g id f args H K:=
 ⟨⟨r,[],fun hg=>Pure.GP (by simpa using hf) (by simpa using h hg),hK⟩⟩
theorem kH.fresh {P:Program} {id:Nat} {f:FuncId} {args:List AV} {H:Hp} {r:AV} {u:Option (Nat×du)} (S:List Nat) {K:AV→Option (Nat×du)→List Nat→Prop}
 (h:∀H1,(∀b∈S,bd H1 b=bd H b)→mG P f args H1 id (fun r' H'=>r'=r∧H'=cc H1 u)) (hu:∀b q,u=some (b,q)→b=id) (hK:K r u S):kH P id f args H K:=
 ⟨⟨r,u,S,⟨by simpa using h,hu⟩,hK⟩⟩
section
variable (P:Program)
noncomputable def uC (nx:Nat) (R:Raw) (H:Hp) (op:cd) (K:AV→Hp→Nat→Prop):Prop:=
 match op with
 | .call f args=>cZ none R f fun fv=>jP none R args fun as=>match fv with
  | .fn (.func g) first caps=>na (first++as++caps) fun as=>ft P g as H nx K
  | .fn (.method nm) [.kq t v] []=>na as fun as=>NH P t v nm as H nx K
  |_=>False
 |op=>nH none H R nx op fun r u=>K r (cc H u) (nx+1)
noncomputable def ka (nx:Nat) (g:Bool) (R:Raw) (H:Hp) (op:cd) (K:AV→Prop):Prop:=
 match op with
 | .call f args=>cZ (some g) R f fun fv=>jP (some g) R args fun as=>match fv with
  | .fn (.func q) first caps=>na (first++as++caps) fun as=>mH P g q as H nx K
  |_=>False
 |op=>nH (some g) H R nx op fun r u=>match u with
  |none=>K r
  |some _=>False
abbrev yO:=Nat→Ov→Fr→Hp→(Ov→Hp→Nat→Prop)→Prop
def uD (nx:Nat) (ov:Ov) (_:Fr) (H:Hp) (K:Ov→Hp→Nat→Prop):Prop:=K ov H nx
noncomputable def nQ (g:fc) (_:List fc) (ih:yO) (nx:Nat) (ov:Ov) (fr:Fr) (H:Hp) (K:Ov→Hp→Nat→Prop):Prop:=match g.guard with
 |none=>uC P nx (eL ov fr) H g.op fun r H' nx'=>ih nx' (fq ov g.dst none r) fr H' K
 |some (d,want)=>match ng ov fr d with
  |(none, .sc (.bool t))=>dh t want (uC P nx (eL ov fr) H g.op fun r H' nx'=>ih nx' (fq ov g.dst none r) fr H' K) (ih (nx+1) (fq ov g.dst none (.sc undef)) fr H K)
   (match want with
    |true=>ka P nx t (eL ov fr) H g.op fun r=>ih (nx+1) (fq ov g.dst (some t) r) fr H K
    |false=>ka P nx (!t) (eL ov fr) H g.op fun r=>ih (nx+1) (fq ov g.dst (some !t) r) fr H K)
  |(some q, .sc (.bool t))=>(match want with
   |true=>ka P nx (q&&t) (eL ov fr) H g.op fun r=>ih (nx+1) (fq ov g.dst (some (q&&t)) r) fr H K
   |false=>ka P nx (q&& !t) (eL ov fr) H g.op fun r=>ih (nx+1) (fq ov g.dst (some (q&& !t)) r) fr H K)
  |(none, .sc (.tuple _))=>ih (nx+1) (fq ov g.dst none (.sc undef)) fr H K
  |_=>False
noncomputable def zX (nx:Nat) (gs:List fc) (ov:Ov) (fr:Fr) (H:Hp) (K:Ov→Hp→Nat→Prop):Prop:=List.rec (motive:=fun _=>yO) uD (nQ P) gs nx ov fr H K
def AK (R:Raw) (op:cd):List Nat:=if op.rd then op.dL.flatMap (fun x=>ff (R x).2) else[]
noncomputable def ll (id:Nat) (R:Raw) (H:Hp) (op:cd) (K:AV→Option (Nat×du)→List Nat→Prop):Prop:=
 match op with
 | .call f args=>cZ none R f fun fv=>jP none R args fun as=>match fv with
  | .fn (.func g) first caps=>na (first++as++caps) fun as=>kH P id g as H K
  |_=>False
 |op=>nH none H R id op fun r u=>K r u (AK R op)
noncomputable def gn (id:Nat) (g:Bool) (R:Raw) (H:Hp) (op:cd) (K:AV→List Nat→Prop):Prop:=
 match op with
 | .call f args=>cZ (some g) R f fun fv=>jP (some g) R args fun as=>match fv with
  | .fn (.func q) first caps=>na (first++as++caps) fun as=>rO P g id q as H K
  |_=>False
 |op=>nH (some g) H R id op fun r u=>match u with
  |none=>K r (AK R op)
  |some _=>False
abbrev ON:=Nat→Ov→Fr→Hp→Tr→(Ov→Hp→Tr→Prop)→Prop
def CD (_:Nat) (ov:Ov) (_:Fr) (H:Hp) (tr:Tr) (K:Ov→Hp→Tr→Prop):Prop:=K ov H tr
noncomputable def mL (g:fc) (_:List fc) (ih:ON) (id:Nat) (ov:Ov) (fr:Fr) (H:Hp) (tr:Tr) (K:Ov→Hp→Tr→Prop):Prop:=match g.guard with
 |none=>ll P id (eL ov fr) H g.op fun r u S=>ih (id+1) (fq ov g.dst none r) fr (cc H u) (tr++[(S,u.map (·.1))]) K
 |some (d,want)=>match ng ov fr d with
  |(none, .sc (.bool t))=>dh t want (ll P id (eL ov fr) H g.op fun r u S=>ih (id+1) (fq ov g.dst none r) fr (cc H u) (tr++[(S,u.map (·.1))]) K) (ih (id+1) (fq ov g.dst none (.sc undef)) fr H (tr++[([],none)]) K)
   (match want with
    |true=>gn P id t (eL ov fr) H g.op fun r S=>ih (id+1) (fq ov g.dst (some t) r) fr H (tr++[(S,none)]) K
    |false=>gn P id (!t) (eL ov fr) H g.op fun r S=>ih (id+1) (fq ov g.dst (some !t) r) fr H (tr++[(S,none)]) K)
  |(some q, .sc (.bool t))=>(match want with
   |true=>gn P id (q&&t) (eL ov fr) H g.op fun r S=>ih (id+1) (fq ov g.dst (some (q&&t)) r) fr H (tr++[(S,none)]) K
   |false=>gn P id (q&& !t) (eL ov fr) H g.op fun r S=>ih (id+1) (fq ov g.dst (some (q&& !t)) r) fr H (tr++[(S,none)]) K)
  |(none, .sc (.tuple _))=>ih (id+1) (fq ov g.dst none (.sc undef)) fr H (tr++[([],none)]) K
  |_=>False
noncomputable def WD (id:Nat) (gs:List fc) (ov:Ov) (fr:Fr) (H:Hp) (tr:Tr) (K:Ov→Hp→Tr→Prop):Prop:=List.rec (motive:=fun _=>ON) CD (mL P) gs id ov fr H tr K
noncomputable def MB (S:List Nat):(List Nat→Prop)→Prop:=List.rec (motive:=fun _=>(List Nat→Prop)→Prop) (fun K=>K []) (fun b _ ih K=>ih fun S'=>K (b::S')) S
theorem GH:∀(S:List Nat) (K:List Nat→Prop),MB S K=K S
 |[],_=>rfl
 |b::S,K=>GH S fun S'=>K (b::S')
def uW (u:Option (Nat×du)) (K:Option Nat→Prop):Prop:=match u with
 |none=>K none
 |some (b,_)=>K (some b)
theorem OH (u:Option (Nat×du)) (K:Option Nat→Prop):uW u K=K (u.map (·.1)):=by
 cases u<;>rfl
noncomputable def sm (g:fc) (_:List fc) (ih:ON) (id:Nat) (ov:Ov) (fr:Fr) (H:Hp) (tr:Tr) (K:Ov→Hp→Tr→Prop):Prop:=match g.guard with
 |none=>ll P id (eL ov fr) H g.op fun r u S=>MB S fun S=>uW u fun x=>ih (id+1) (fq ov g.dst none r) fr (cc H u) ((S,x)::tr) K
 |some (d,want)=>match ng ov fr d with
  |(none, .sc (.bool t))=>dh t want (ll P id (eL ov fr) H g.op fun r u S=>MB S fun S=>uW u fun x=>ih (id+1) (fq ov g.dst none r) fr (cc H u) ((S,x)::tr) K) (ih (id+1) (fq ov g.dst none (.sc undef)) fr H (([],none)::tr) K)
   (match want with
    |true=>gn P id t (eL ov fr) H g.op fun r S=>MB S fun S=>ih (id+1) (fq ov g.dst (some t) r) fr H ((S,none)::tr) K
    |false=>gn P id (!t) (eL ov fr) H g.op fun r S=>MB S fun S=>ih (id+1) (fq ov g.dst (some !t) r) fr H ((S,none)::tr) K)
  |(some q, .sc (.bool t))=>(match want with
   |true=>gn P id (q&&t) (eL ov fr) H g.op fun r S=>MB S fun S=>ih (id+1) (fq ov g.dst (some (q&&t)) r) fr H ((S,none)::tr) K
   |false=>gn P id (q&& !t) (eL ov fr) H g.op fun r S=>MB S fun S=>ih (id+1) (fq ov g.dst (some (q&& !t)) r) fr H ((S,none)::tr) K)
  |(none, .sc (.tuple _))=>ih (id+1) (fq ov g.dst none (.sc undef)) fr H (([],none)::tr) K
  |_=>False
noncomputable def WE (id:Nat) (gs:List fc) (ov:Ov) (fr:Fr) (H:Hp) (tr:Tr) (K:Ov→Hp→Tr→Prop):Prop:=List.rec (motive:=fun _=>ON) CD (sm P) gs id ov fr H tr K
theorem uB:∀(gs:List fc) (id:Nat) (ov:Ov) (fr:Fr) (H:Hp) (tr:Tr) (K:Ov→Hp→Tr→Prop),WE P id gs ov fr H tr K=WD P id gs ov fr H tr.reverse fun ov H t=>K ov H t.reverse
 |[],id,ov,fr,H,tr,K=>by
  show K ov H tr=K ov H tr.reverse.reverse
  rw[List.reverse_reverse]
 |g::gs,id,ov,fr,H,tr,K=>by
  have ih:=uB gs
  show sm P g gs (fun id ov fr H tr K=>WE P id gs ov fr H tr K) id ov fr H tr K=mL P g gs (fun id ov fr H tr K=>WD P id gs ov fr H tr K) id ov fr H tr.reverse fun ov H t=>K ov H t.reverse
  simp only[sm,mL,GH,OH,ih,List.reverse_cons]
noncomputable def HK (s:o7) (_:List o7) (ih:yO) (nx:Nat) (ov:Ov) (fr:Fr) (H:Hp) (K:Ov→Hp→Nat→Prop):Prop:=match s.ops with
 |[g]=>zX P nx [g] ov fr H fun ov' H' nx'=>ih nx' ov' fr H' K
 |gs=>WE P nx gs ov fr H [] fun ov' H' tr=>(match s.ps with
  |[]=>ih (nx+gs.length) ov' fr H' K
  |p::ps=>Ask (gR tr.reverse (p::ps))∧ih (nx+gs.length) ov' fr H' K)
noncomputable def WS (nx:Nat) (segs:List o7) (ov:Ov) (fr:Fr) (H:Hp) (K:Ov→Hp→Nat→Prop):Prop:=List.rec (motive:=fun _=>yO) uD (HK P) segs nx ov fr H K
structure jZ (n lo:Nat) (x:LC) (fr:Fr) (H:Hp) (nx:Nat) (Q:QT):Prop where
 ok:WL P n lo (.loop x) fr H nx Q
abbrev WT:=Fr→Hp→Nat→QT→Prop
def KW (fr:Fr) (H:Hp) (nx:Nat) (Q:QT):Prop:=Q .normal fr H nx
noncomputable def CE (gs:List fc) (fr:Fr) (H:Hp) (nx:Nat) (Q:QT):Prop:=zX P nx gs [] fr H fun ov H' nx'=>Q .normal (gC ov fr) H' nx'
structure fE (segs:List o7) (fr:Fr) (H:Hp) (nx:Nat) (Q:QT):Prop where
 ok:∀n lo,WL P n lo (.drawn segs) fr H nx Q
def HM (segs:List o7) (fr:Fr) (H:Hp) (nx:Nat) (Q:QT):Prop:=fE P segs fr H nx Q
def NJ (_ _:LC) (ia ib:WT) (fr:Fr) (H:Hp) (nx:Nat) (Q:QT):Prop:=ia fr H nx (jL (fun fr H nx=>ib fr H nx Q) Q)
def w8 (c:dH) (_ _:LC) (ia ib:WT) (fr:Fr) (H:Hp) (nx:Nat) (Q:QT):Prop:=match ev fr c with
 | .sc (.bool t)=>eT t (ia fr H nx Q) (ib fr H nx Q)
 | .ab=>ia fr H nx Q∧ib fr H nx Q
 |_=>False
def HL (id:Nat) (_:LC) (ia:WT) (fr:Fr) (H:Hp) (nx:Nat) (Q:QT):Prop:=ia fr H nx (tA id Q)
def KV (n lo:Nat) (a:LC) (_:WT) (fr:Fr) (H:Hp) (nx:Nat) (Q:QT):Prop:=jZ P n lo a fr H nx Q
def KU (id:Nat) (fr:Fr) (H:Hp) (nx:Nat) (Q:QT):Prop:=Q (.exit id) fr H nx
def NI (fr:Fr) (H:Hp) (nx:Nat) (Q:QT):Prop:=Q .ret fr H nx
noncomputable def W (n lo:Nat) (lc:LC):WT:=LC.rec (motive:=fun _=>WT) KW (CE P) (HM P) NJ w8 HL (KV P n lo) KU NI lc
end
section
variable {P:Program}
theorem oJ {nx:Nat} {ov:Ov} {f fr:Fr} {H:Hp} {op:cd} {K:AV→Hp→Nat→Prop} (hF:nP f ov fr) (h:uC P nx (eL ov fr) H op K):dQ P nx f H op K:=by
 by_cases hc:∃g as,op= .call g as
 ·obtain⟨fo,as,rfl⟩:=hc
  simp only[uC] at h
  obtain⟨h1,h2⟩:=bt h
  obtain⟨h3,h4⟩:=eP h2
  simp only[dQ]
  rw[hF.raw fo (h1 trivial),jt (R:=eL ov fr) fun x hx=>hF.raw x (h3 trivial x hx)]
  split at h4
  ·rename_i he
   rw[he]
   rw[iG] at h4
   exact h4.ok
  ·rename_i he
   rw[he]
   rw[iG] at h4
   exact h4.ok
  ·exact h4.elim
 ·have e1:uC P nx (eL ov fr) H op K=nH none H (eL ov fr) nx op fun r u=>K r (cc H u) (nx+1):=by cases op<;>first|rfl|exact absurd ⟨_,_,rfl⟩ hc
  have e2:dQ P nx f H op K=ir (bn nx f H op) fun p=>K p.1 (cc H p.2) (nx+1):=by cases op<;>first|rfl|exact absurd ⟨_,_,rfl⟩ hc
  rw[e1] at h
  obtain⟨r,u,h1,h2⟩:=jJ h
  rw[e2,(h2 trivial).2 f fun x hx=>hF.raw x hx]
  exact h1
theorem sq {nx:Nat} {g:Bool} {ov:Ov} {fr:Fr} {H:Hp} {op:cd} {K:AV→Prop} (h:ka P nx g (eL ov fr) H op K):
 ∃r,K r∧(g=true→∀f,nP f ov fr→∀K':AV→Hp→Nat→Prop,K' r H (nx+1)→dQ P nx f H op K'):=by
 by_cases hc:∃g as,op= .call g as
 ·obtain⟨fo,as,rfl⟩:=hc
  simp only[ka] at h
  obtain⟨h1,h2⟩:=bt h
  obtain⟨h3,h4⟩:=eP h2
  split at h4
  ·rename_i he
   rw[iG] at h4
   obtain⟨r,h5,h6⟩:=h4.ok
   refine⟨r,h6,fun hg f hF K' hK'=> ?_⟩
   simp only[dQ]
   rw[hF.raw fo (h1 hg),jt (R:=eL ov fr) fun x hx=>hF.raw x (h3 hg x hx),he]
   exact h5 hg K' hK'
  ·exact h4.elim
 ·have e1:ka P nx g (eL ov fr) H op K=nH (some g) H (eL ov fr) nx op fun r u=>match u with|none=>K r|some _=>False:=by cases op<;>first|rfl|exact absurd ⟨_,_,rfl⟩ hc
  rw[e1] at h
  obtain⟨r,u,h1,h2⟩:=jJ h
  cases u with
  |some p=>exact h1.elim
  |none=>
   refine⟨r,h1,fun hg f hF K' hK'=> ?_⟩
   have e2:dQ P nx f H op K'=ir (bn nx f H op) fun p=>K' p.1 (cc H p.2) (nx+1):=by cases op<;>first|rfl|exact absurd ⟨_,_,rfl⟩ hc
   rw[e2,(h2 hg).2 f fun x hx=>hF.raw x hx]
   exact hK'
theorem ed:∀{gs:List fc} {nx:Nat} {ov:Ov} {f fr:Fr} {H:Hp} {K:Ov→Hp→Nat→Prop},nP f ov fr→zX P nx gs ov fr H K→eC P nx gs f H (fun f1 H1 nx1=>∃ov1,nP f1 ov1 fr∧K ov1 H1 nx1)
 |[],nx,ov,f,fr,H,K,hF,h=>⟨ov,hF,h⟩
 |g::gs,nx,ov,f,fr,H,K,hF,h=>by
  have join:∀{q t:Bool} {d:Nat} {want:Bool},g.guard=some (d,want)→(q=true→cJ f d= .sc (.bool t))→(q=false→cJ f d= .sc undef)→∀{gg:Bool},(gg=true↔(q=true∧t=want))→
   (ka P nx gg (eL ov fr) H g.op fun r=>zX P (nx+1) gs (fq ov g.dst (some gg) r) fr H K)→eC P nx (g::gs) f H (fun f1 H1 nx1=>∃ov1,nP f1 ov1 fr∧K ov1 H1 nx1):=by
   intro q t d want hg hq1 hq2 gg hgg hJ
   obtain⟨r,h1,h2⟩:=sq hJ
   simp only[eC,hg,cg]
   cases q with
   |true=>
    simp only[hq1 rfl]
    by_cases ht:t=want
    ·rw[if_pos ht]
     have hgt:=hgg.2 ⟨rfl,ht⟩
     exact h2 hgt f hF _ (ed (hF.oj g.dst (u:=r) (fun _=>rfl) fun h=>by rw[hgt] at h;cases h) h1)
    ·rw[if_neg ht]
     have hgf:gg=false:=by cases hgg':gg<;>simp_all
     exact ed (hF.oj g.dst (u:= .sc undef) (fun h=>by rw[hgf] at h;cases h) fun _=>rfl) h1
   |false=>
    simp only[hq2 rfl]
    have hgf:gg=false:=by cases hgg':gg<;>simp_all
    have:=ed (hF.oj g.dst (u:= .sc undef) (q:=gg) (fun h=>by rw[hgf] at h;cases h) fun _=>rfl) h1
    exact this
  have h:nQ P g gs (fun nx ov fr H K=>zX P nx gs ov fr H K) nx ov fr H K:=h
  simp only[nQ] at h
  split at h
  ·rename_i hg
   simp only[eC,hg,cg]
   exact(oJ hF h).mono fun r H' nx' hh=>ed (hF.put g.dst r) hh
  ·rename_i d want hg
   have hd:=hF d
   split at h
   ·rename_i t he
    rw[he] at hd
    simp only at hd
    rcases h.ok with⟨hA,hB⟩|hJ
    ·simp only[eC,hg,cg,hd]
     by_cases ht:t=want
     ·rw[if_pos ht]
      exact(oJ hF (hA ht)).mono fun r H' nx' hh=>ed (hF.put g.dst r) hh
     ·rw[if_neg ht]
      exact ed (hF.put g.dst _) (hB ht)
    ·cases want with
     |true=>exact join (q:=true) hg (fun _=>hd) (fun h=>by cases h) (gg:=t) (by simp) hJ
     |false=>exact join (q:=true) hg (fun _=>hd) (fun h=>by cases h) (gg:= !t) (by simp) hJ
   ·rename_i q t he
    rw[he] at hd
    simp only at hd
    cases want with
    |true=>exact join hg hd.1 hd.2 (gg:=q&&t) (by simp) h
    |false=>exact join hg hd.1 hd.2 (gg:=q&& !t) (by simp) h
   ·rename_i v he
    rw[he] at hd
    simp only at hd
    simp only[eC,hg,cg,hd]
    exact ed (hF.put g.dst _) h
   ·exact h.elim
def zR:Tr→Tr→Prop
 |[],[]=>True
 |a::r,b::s=>(∀x∈a.1,x∈b.1)∧a.2=b.2∧zR r s
 |_,_=>False
theorem zR.snoc {a b:List Nat} {u:Option Nat} (h1:∀x∈a,x∈b):∀{r s:Tr},zR r s→zR (r++[(a,u)]) (s++[(b,u)])
 |[],[],_=>⟨h1,rfl,trivial⟩
 |x::r,y::s,h=>⟨h.1,h.2.1,zR.snoc h1 h.2.2⟩
 |[],_::_,h=>h.elim
 |_::_,[],h=>h.elim
theorem zR.get:∀{r s:Tr},zR r s→∀k,(∀x∈(r.getD k ([],none)).1,x∈(s.getD k ([],none)).1)∧(r.getD k ([],none)).2=(s.getD k ([],none)).2
 |[],[],_,k=>by simp
 |x::r,y::s,h,0=>⟨h.1,h.2.1⟩
 |x::r,y::s,h,k+1=>by simpa using zR.get h.2.2 k
 |[],_::_,h,_=>h.elim
 |_::_,[],h,_=>h.elim
theorem zR.zp {r s:Tr} (h:zR r s) {ps:List (Nat×Nat)} (hf:gR s ps):gR r ps:=by
 intro p hp
 obtain⟨h1,h2,h3⟩:=hf p hp
 obtain⟨a1,a2⟩:=h.get p.1
 obtain⟨b1,b2⟩:=h.get p.2
 exact⟨fun b hb hm=>h1 b (by rw[←a2];exact hb) (b1 b hm),fun b hb hm=>h2 b (by rw[←b2];exact hb) (a1 b hm),fun b hb=>h3 b ⟨by rw[←a2];exact hb.1,by rw[←b2];exact hb.2⟩⟩
theorem ye {ov:Ov} {f fr:Fr} {op:cd} (hF:nP f ov fr) (h:op.rd=true→∀y∈op.dL,BA (eL ov fr) y):∀x∈dZ f op,x∈AK (eL ov fr) op:=by
 intro x hx
 unfold dZ at hx
 unfold AK
 split at hx
 ·rename_i hr
  rw[if_pos hr]
  obtain⟨y,hy,hm⟩:=List.mem_flatMap.1 hx
  exact List.mem_flatMap.2 ⟨y,hy,by rw[←hF.raw y (h hr y hy)];exact hm⟩
 ·cases hx
theorem mM {id:Nat} {ov:Ov} {fr:Fr} {H:Hp} {op:cd} {K:AV→Option (Nat×du)→List Nat→Prop} (h:ll P id (eL ov fr) H op K) {f:Fr} (hF:nP f ov fr):
 iu P id f H op (fun r u S'=>∃S,(∀x∈S',x∈S)∧K r u S):=by
 by_cases hc:∃g as,op= .call g as
 ·obtain⟨fo,as,rfl⟩:=hc
  simp only[ll] at h
  obtain⟨h1,h2⟩:=bt h
  obtain⟨h3,h4⟩:=eP h2
  split at h4
  ·rename_i he
   rw[iG] at h4
   obtain⟨r,u,S,h5,h6⟩:=h4.ok
   refine⟨r,u,S, ?_,S,fun _ h=>h,h6⟩
   rw[hF.raw fo (h1 trivial),jt (R:=eL ov fr) fun x hx=>hF.raw x (h3 trivial x hx),he]
   simpa[l7] using h5
  ·exact h4.elim
 ·have e1:ll P id (eL ov fr) H op K=nH none H (eL ov fr) id op fun r u=>K r u (AK (eL ov fr) op):=by cases op<;>first|rfl|exact absurd ⟨_,_,rfl⟩ hc
  rw[e1] at h
  obtain⟨r,u,h1,h2⟩:=jJ h
  obtain⟨h3,h4⟩:=h2 trivial
  have e2:∀K',iu P id f H op K'=ir (bn id f H op) fun p=>K' p.1 p.2 (dZ f op):=by intro K';cases op<;>first|rfl|exact absurd ⟨_,_,rfl⟩ hc
  rw[e2,h4 f fun x hx=>hF.raw x hx]
  exact⟨_,ye hF h3,h1⟩
theorem sn {id:Nat} {g:Bool} {ov:Ov} {fr:Fr} {H:Hp} {op:cd} {K:AV→List Nat→Prop} (h:gn P id g (eL ov fr) H op K):
 ∃r S,K r S∧(g=true→∀f,nP f ov fr→∀K':AV→Option (Nat×du)→List Nat→Prop,(∀S',(∀x∈S',x∈S)→K' r none S')→iu P id f H op K'):=by
 by_cases hc:∃g as,op= .call g as
 ·obtain⟨fo,as,rfl⟩:=hc
  simp only[gn] at h
  obtain⟨h1,h2⟩:=bt h
  obtain⟨h3,h4⟩:=eP h2
  split at h4
  ·rename_i he
   rw[iG] at h4
   obtain⟨r,S,h5,h6⟩:=h4.ok
   refine⟨r,S,h6,fun hg f hF K' hK'=>⟨r,none,S, ?_,hK' S fun _ h=>h⟩⟩
   rw[hF.raw fo (h1 hg),jt (R:=eL ov fr) fun x hx=>hF.raw x (h3 hg x hx),he]
   simpa[l7] using h5 hg
  ·exact h4.elim
 ·have e1:gn P id g (eL ov fr) H op K=nH (some g) H (eL ov fr) id op fun r u=>match u with|none=>K r (AK (eL ov fr) op)|some _=>False:=by cases op<;>first|rfl|exact absurd ⟨_,_,rfl⟩ hc
  rw[e1] at h
  obtain⟨r,u,h1,h2⟩:=jJ h
  cases u with
  |some p=>exact h1.elim
  |none=>
   refine⟨r,_,h1,fun hg f hF K' hK'=> ?_⟩
   obtain⟨h3,h4⟩:=h2 hg
   have e2:iu P id f H op K'=ir (bn id f H op) fun p=>K' p.1 p.2 (dZ f op):=by cases op<;>first|rfl|exact absurd ⟨_,_,rfl⟩ hc
   rw[e2,h4 f fun x hx=>hF.raw x hx]
   exact hK' _ (ye hF h3)
theorem fF:∀{gs:List fc} {id:Nat} {ov:Ov} {f fr:Fr} {H:Hp} {tr tr':Tr} {K:Ov→Hp→Tr→Prop},nP f ov fr→zR tr' tr→WD P id gs ov fr H tr K→gM P id gs f H tr' (fun f1 H1 tr1=>∃ov1 trj,nP f1 ov1 fr∧zR tr1 trj∧K ov1 H1 trj)
 |[],id,ov,f,fr,H,tr,tr',K,hF,hT,h=>⟨ov,tr,hF,hT,h⟩
 |g::gs,id,ov,f,fr,H,tr,tr',K,hF,hT,h=>by
  have join:∀{q t:Bool} {d:Nat} {want:Bool},g.guard=some (d,want)→(q=true→cJ f d= .sc (.bool t))→(q=false→cJ f d= .sc undef)→∀{gg:Bool},(gg=true↔(q=true∧t=want))→
   (gn P id gg (eL ov fr) H g.op fun r S=>WD P (id+1) gs (fq ov g.dst (some gg) r) fr H (tr++[(S,none)]) K)→gM P id (g::gs) f H tr' (fun f1 H1 tr1=>∃ov1 trj,nP f1 ov1 fr∧zR tr1 trj∧K ov1 H1 trj):=by
   intro q t d want hg hq1 hq2 gg hgg hJ
   obtain⟨r,S,h1,h2⟩:=sn hJ
   simp only[gM,hg,cg]
   cases q with
   |true=>
    simp only[hq1 rfl]
    by_cases ht:t=want
    ·rw[if_pos ht]
     have hgt:=hgg.2 ⟨rfl,ht⟩
     refine h2 hgt f hF _ fun S' hS=> ?_
     exact fF (hF.oj g.dst (u:=r) (fun _=>rfl) fun h=>by rw[hgt] at h;cases h) (hT.snoc hS) h1
    ·rw[if_neg ht]
     have hgf:gg=false:=by cases hgg':gg<;>simp_all
     exact fF (hF.oj g.dst (u:= .sc undef) (fun h=>by rw[hgf] at h;cases h) fun _=>rfl) (hT.snoc (a:=[]) (b:=S) (fun _ h=>by cases h)) h1
   |false=>
    simp only[hq2 rfl]
    have hgf:gg=false:=by cases hgg':gg<;>simp_all
    have:=fF (hF.oj g.dst (u:= .sc undef) (q:=gg) (fun h=>by rw[hgf] at h;cases h) fun _=>rfl) (hT.snoc (a:=[]) (b:=S) (fun _ h=>by cases h)) h1
    exact this
  have h:mL P g gs (fun id ov fr H tr K=>WD P id gs ov fr H tr K) id ov fr H tr K:=h
  simp only[mL] at h
  split at h
  ·rename_i hg
   simp only[gM,hg,cg]
   refine(mM h hF).mono ?_
   rintro r u S' ⟨S,hS,hh⟩
   exact fF (hF.put g.dst r) (hT.snoc hS) hh
  ·rename_i d want hg
   have hd:=hF d
   split at h
   ·rename_i t he
    rw[he] at hd
    simp only at hd
    rcases h.ok with⟨hA,hB⟩|hJ
    ·simp only[gM,hg,cg,hd]
     by_cases ht:t=want
     ·rw[if_pos ht]
      refine(mM (hA ht) hF).mono ?_
      rintro r u S' ⟨S,hS,hh⟩
      exact fF (hF.put g.dst r) (hT.snoc hS) hh
     ·rw[if_neg ht]
      exact fF (hF.put g.dst _) (hT.snoc (a:=[]) (b:=[]) (fun _ h=>h)) (hB ht)
    ·cases want with
     |true=>exact join (q:=true) hg (fun _=>hd) (fun h=>by cases h) (gg:=t) (by simp) hJ
     |false=>exact join (q:=true) hg (fun _=>hd) (fun h=>by cases h) (gg:= !t) (by simp) hJ
   ·rename_i q t he
    rw[he] at hd
    simp only at hd
    cases want with
    |true=>exact join hg hd.1 hd.2 (gg:=q&&t) (by simp) h
    |false=>exact join hg hd.1 hd.2 (gg:=q&& !t) (by simp) h
   ·rename_i v he
    rw[he] at hd
    simp only at hd
    simp only[gM,hg,cg,hd]
    exact fF (hF.put g.dst _) (hT.snoc (a:=[]) (b:=[]) (fun _ h=>h)) h
   ·exact h.elim
theorem j1:∀{segs:List o7} {nx:Nat} {ov:Ov} {f fr:Fr} {H:Hp} {K:Ov→Hp→Nat→Prop},nP f ov fr→WS P nx segs ov fr H K→fp P nx segs f H (fun f1 H1 nx1=>∃ov1,nP f1 ov1 fr∧K ov1 H1 nx1)
 |[],nx,ov,f,fr,H,K,hF,h=>⟨ov,hF,h⟩
 |⟨[g],ps⟩::rest,nx,ov,f,fr,H,K,hF,h=>by
  have h:zX P nx [g] ov fr H fun ov' H' nx'=>WS P nx' rest ov' fr H' K:=h
  refine eC.mono (K':=fun a b c=>fp P c rest a b _) (ed hF h) ?_
  rintro f1 H1 nx1 ⟨ov1,h1,h2⟩
  exact j1 h1 h2
 |⟨[],[]⟩::rest,nx,ov,f,fr,H,K,hF,h=>by
  have h:WE P nx [] ov fr H [] fun ov' H' _=>WS P (nx+0) rest ov' fr H' K:=h
  rw[uB,List.reverse_nil] at h
  simp only[fp]
  refine gM.mono (fF hF (tr':=[]) (tr:=[]) trivial h) ?_
  rintro f1 H1 tr1 ⟨ov1,trj,h1,h2,h3⟩
  exact⟨(fun p hp=>by cases hp),j1 h1 h3⟩
 |⟨[],p::ps⟩::rest,nx,ov,f,fr,H,K,hF,h=>by
  have h:WE P nx [] ov fr H [] fun ov' H' tr=>Ask (gR tr.reverse (p::ps))∧WS P (nx+0) rest ov' fr H' K:=h
  rw[uB,List.reverse_nil] at h
  simp only[List.reverse_reverse] at h
  simp only[fp]
  refine gM.mono (fF hF (tr':=[]) (tr:=[]) trivial h) ?_
  rintro f1 H1 tr1 ⟨ov1,trj,h1,h2,h3⟩
  exact⟨h2.zp h3.1.ok,j1 h1 h3.2⟩
 |⟨g1::g2::gs,[]⟩::rest,nx,ov,f,fr,H,K,hF,h=>by
  have h:WE P nx (g1::g2::gs) ov fr H [] fun ov' H' _=>WS P (nx+(g1::g2::gs).length) rest ov' fr H' K:=h
  rw[uB,List.reverse_nil] at h
  simp only[fp]
  refine gM.mono (fF hF (tr':=[]) (tr:=[]) trivial h) ?_
  rintro f1 H1 tr1 ⟨ov1,trj,h1,h2,h3⟩
  exact⟨(fun p hp=>by cases hp),j1 h1 h3⟩
 |⟨g1::g2::gs,p::ps⟩::rest,nx,ov,f,fr,H,K,hF,h=>by
  have h:WE P nx (g1::g2::gs) ov fr H [] fun ov' H' tr=>Ask (gR tr.reverse (p::ps))∧WS P (nx+(g1::g2::gs).length) rest ov' fr H' K:=h
  rw[uB,List.reverse_nil] at h
  simp only[List.reverse_reverse] at h
  simp only[fp]
  refine gM.mono (fF hF (tr':=[]) (tr:=[]) trivial h) ?_
  rintro f1 H1 tr1 ⟨ov1,trj,h1,h2,h3⟩
  exact⟨h2.zp h3.1.ok,j1 h1 h3.2⟩
theorem Holds.less {w0:World} {M0:Nat→Prop} {c0:Cx} {lo n:Nat} {fr fr':Fr} {H:Hp} {nx:Nat} {a:Act} {w:World} (h:Holds w0 M0 c0 lo n fr H nx a w) (hf:∀t,cJ fr' t= .any∨cJ fr' t=cJ fr t):Holds w0 M0 c0 lo n fr' H nx a w:=by
 obtain⟨h1,h2,ρ,U,hU,hS,hF,hT⟩:=h
 refine⟨h1,h2,ρ,U,hU,hS,fun t=> ?_,hT⟩
 rcases hf t with h|h
 ·rw[h,VR];trivial
 ·rw[h];exact hF t
theorem WL.less {n lo:Nat} {lc:LC} {fr:Fr} {H:Hp} {nx:Nat} {Q:QT} (h:WL P n lo lc fr H nx (fun e f H nx=>∃f',(∀t,cJ f' t= .any∨cJ f' t=cJ f t)∧Q e f' H nx)):WL P n lo lc fr H nx Q:=
 fun code hc w0 M0 c0 a w hh=>Code.wp_mono (fun _ _ _ ⟨x,f,H,nx,he,⟨f',h1,h2⟩,hhh⟩=>⟨x,f',H,nx,he,h2,hhh.less h1⟩) (h code hc w0 M0 c0 a w hh)
theorem nP.less {f:Fr} {ov:Ov} {fr:Fr} (h:nP f ov fr) (t:Nat):cJ (gC ov fr) t= .any∨cJ (gC ov fr) t=cJ f t:=by
 rcases lz (ov:=ov) (fr:=fr) (t:=t) with h1|⟨v,h1,h2⟩
 ·exact .inl h1
 ·have:=h t
  rw[h1] at this
  exact .inr (h2.trans this.symm)
theorem fE.of {segs:List o7} {fr:Fr} {H:Hp} {nx:Nat} {Q:QT} (h:WS P nx segs [] fr H fun ov H' nx'=>Q .normal (gC ov fr) H' nx'):fE P segs fr H nx Q:=
 ⟨fun _ _=>WL.less (WL.drawn (fp.mono (j1 (nP.refl fr) h) fun _ _ _ ⟨_,h1,h2⟩=>⟨_,h1.less,h2⟩))⟩
theorem fA {n lo:Nat}:∀{lc:LC} {fr:Fr} {H:Hp} {nx:Nat} {Q:QT},W P n lo lc fr H nx Q→WL P n lo lc fr H nx Q
 | .skip,_,_,_,_,h=>WL.skip h
 | .ret,_,_,_,_,h=>WL.ret h
 | .exit _,_,_,_,_,h=>WL.exit h
 | .region gs,fr,H,nx,Q,h=>WL.less (WL.region (eC.mono (ed (nP.refl fr) h) fun _ _ _ ⟨_,h1,h2⟩=>⟨_,h1.less,h2⟩))
 | .drawn segs,fr,H,nx,Q,h=>fE.ok (P:=P) h n lo
 | .seq a b,fr,H,nx,Q,h=>WL.seq ((fA (lc:=a) (Q:=jL (fun fr H nx=>W P n lo b fr H nx Q) Q) h).mono fun e fr H nx hh=>by
  cases e with
  |normal=>exact fA (lc:=b) hh
  |exit id=>exact hh
  |ret=>exact hh)
 | .cond c a b,fr,H,nx,Q,h=>by
  have h:w8 c a b (W P n lo a) (W P n lo b) fr H nx Q:=h
  simp only[w8] at h
  split at h
  ·rename_i t ht
   exact WL.cond ht (fun h1=>fA (lc:=a) (h.ok.1 h1)) (fun h1=>fA (lc:=b) (h.ok.2 h1))
  ·rename_i ht
   exact WL.LB ht (fA (lc:=a) h.1) (fA (lc:=b) h.2)
  ·exact h.elim
 | .block id a,fr,H,nx,Q,h=>WL.block (fA (lc:=a) h)
 | .loop a,fr,H,nx,Q,h=>h.ok
theorem jZ.inv {n lo:Nat} {x:LC} {fr:Fr} {H:Hp} {nx:Nat} {Q:QT} {σ:Type} (I:σ→Fr→Hp→Nat→Prop) (μ:σ→Nat) (s0:σ) (h0:∃fr',(∀t,cJ fr' t= .any∨cJ fr' t=cJ fr t)∧I s0 fr' H nx)
 (round:∀s fr H nx,I s fr H nx→WL P n lo x fr H nx (jL (fun fr' H' nx'=>∃s',μ s'<μ s∧∃fr2,(∀t,cJ fr2 t= .any∨cJ fr2 t=cJ fr' t)∧I s' fr2 H' nx') Q)):jZ P n lo x fr H nx Q:=by
 refine⟨fun code hc w0 M0 c0 a w hh=> ?_⟩
 have:∃c1,code= .loop c1∧cV P n c1=some x:=by
  cases code<;>simp only[cV] at hc
  case loop c1=>
   simp only[Option.map_eq_some_iff,LC.loop.injEq] at hc
   obtain⟨x',h1,rfl⟩:=hc
   exact⟨c1,rfl,h1⟩
  all_goals (exfalso;repeat' (split at hc))<;>simp at hc
 obtain⟨c1,rfl,h1⟩:=this
 intro b k cs
 have key:∀m,∀s,μ s=m→∀fr H nx,I s fr H nx→∀a w,Holds w0 M0 c0 lo n fr H nx a w→
  ∃e a' w',LQ w0 M0 c0 lo n Q e a' w'∧Arrives P (lone (b.at a (.code c1:: .inLoop c1::k)) cs w) b k cs e a' w':=by
  intro m
  induction m using Nat.strongRecOn with
  |_ m ih=>
   intro s hs fr H nx hI a w hh
   obtain⟨e,a1,w1,hq,harr⟩:=round s fr H nx hI c1 h1 w0 M0 c0 a w hh b (.inLoop c1::k) cs
   obtain⟨x',fr',H',nx',rfl,hQ,hh'⟩:=hq
   cases x' with
   |normal=>
    obtain⟨s',hlt,fr2,hless,hI'⟩:=hQ
    obtain⟨e2,a2,w2,hq2,harr2⟩:=ih (μ s') (by omega) s' rfl fr2 H' nx' hI' a1 w1 (hh'.less hless)
    exact⟨e2,a2,w2,hq2, .of_steps (Steps.trans harr (.one step_inLoop)) harr2⟩
   |exit id=>exact⟨_,a1,w1,⟨.exit id,fr',H',nx',rfl,hQ,hh'⟩, .pass (x:= .inLoop c1) rfl (fun _ _=> .inl (by simp[Ex.to])) harr⟩
   |ret=>exact⟨_,a1,w1,⟨.ret,fr',H',nx',rfl,hQ,hh'⟩, .pass (x:= .inLoop c1) rfl (fun _ _=> .inl (by simp[Ex.to])) harr⟩
 obtain⟨fr',hless,hI⟩:=h0
 obtain⟨e,a',w',hq,harr⟩:=key _ s0 rfl fr' H nx hI a w (hh.less hless)
 exact⟨e,a',w',hq, .of_steps (.one step_loop) harr⟩
def kO (fr:Fr):Fr→Prop
 |[]=>True
 |(t,v)::r=>cJ fr t=v∧kO fr r
theorem iT {fr:Fr}:∀{fr':Fr},kO fr fr'→∀t,cJ fr' t= .any∨cJ fr' t=cJ fr t
 |[],_,t=> .inl rfl
 |(d,v)::r,h,t=>by
  simp only[cJ]
  by_cases ht:t=d
  ·subst ht;rw[if_pos rfl];exact .inr h.1.symm
  ·rw[if_neg ht];exact iT h.2 t
theorem jZ.fr {n lo:Nat} {x:LC} {fr:Fr} {H:Hp} {nx:Nat} {Q:QT} {σ:Type} (F:σ→Fr) (I:σ→Hp→Nat→Prop) (μ:σ→Nat) (s0:σ) (h0:kO fr (F s0)) (h1:I s0 H nx)
 (round:∀s H nx,I s H nx→W P n lo x (F s) H nx (jL (fun fr' H' nx'=>∃s',μ s'<μ s∧kO fr' (F s')∧I s' H' nx') Q)):jZ P n lo x fr H nx Q:=by
 refine jZ.inv (fun s fr H nx=>fr=F s∧I s H nx) μ s0 ⟨F s0,iT h0,rfl,h1⟩ ?_
 rintro s fr H nx ⟨rfl,hI⟩
 refine(fA (round s H nx hI)).mono ?_
 intro e fr' H' nx' hh
 cases e with
 |normal=>
  obtain⟨s',h2,h3,h4⟩:=hh
  exact⟨s',h2,F s',iT h3,rfl,h4⟩
 |exit id=>exact hh
 |ret=>exact hh
end
end Go.cW
end
