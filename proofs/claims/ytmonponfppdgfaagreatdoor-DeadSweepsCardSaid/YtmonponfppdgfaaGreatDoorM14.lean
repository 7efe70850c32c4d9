import Derived.Test.YtmonponfppdgfaaGreatDoorM8
section
/- A run by reduction alone: the code is walked by the reducer; what is to be shown stands out as questions. -/
set_option linter.unusedSimpArgs false
set_option linter.unusedVariables false
namespace Go.ch
open Go.RowKit
structure Ask (p:Prop):Prop where
 ok:p
def de:Option Bool→Prop→Prop
 |none,p=>Ask p
 |some g,p=>Ask (g=true→p)
def Gd:Option Bool→Prop
 |none=>True
 |some g=>g=true
theorem cQ {g:Option Bool} {p:Prop}:de g p↔(Gd g→p):=by
 cases g with
 |none=>exact⟨fun h _=>h.ok,fun h=>⟨h trivial⟩⟩
 |some g=>exact⟨fun h=>h.ok,fun h=>⟨h⟩⟩
abbrev Ov:=List (Nat×Option Bool×AV)
def oh:Ov→Fr→Nat→Option Bool×AV
 |[],fr,t=>(none,cZ fr t)
 |(d,c,v)::r,fr,t=>bif Nat.beq t d then(c,v) else oh r fr t
def gn (ov:Ov) (d:Option Nat) (c:Option Bool) (v:AV):Ov:=
 match d with
 |some d=>(d,c,v)::ov
 |none=>ov
def hO:Ov→Fr→Fr
 |[],fr=>fr
 |(d,none,v)::r,fr=>(d,v)::hO r fr
 |(d,some _,_)::r,fr=>(d, .any)::hO r fr
def fI (ov:Ov) (fr:Fr):eA→Option Bool×AV
 | .t n=>oh ov fr n
 | .c v=>(none, .sc v)
 | .f n=>(none, .fn (.func n) [] [])
 | .m nm n=>match oh ov fr n with
  |(g, .ll t v)=>(g, .fn (.method nm) [.ll t v] [])
  |(g,_)=>(g, .any)
theorem qG {t d:Nat} (h:¬t=d):Nat.beq t d=false:=by
 cases hb:Nat.beq t d with
 |false=>rfl
 |true=>exact absurd (Nat.eq_of_beq_eq_true hb) h
def oY (f:Fr) (ov:Ov) (fr:Fr):Prop:=
 ∀t,match oh ov fr t with
  |(none,v)=>cZ f t=v
  |(some q,v)=>(q=true→cZ f t=v)∧(q=false→cZ f t= .sc undef)
theorem oY.refl (fr:Fr):oY fr [] fr:=fun _=>rfl
theorem oY.put {f:Fr} {ov:Ov} {fr:Fr} (h:oY f ov fr) (d:Option Nat) (v:AV):oY (gB f d v) (gn ov d none v) fr:=by
 cases d with
 |none=>exact h
 |some d=>
  intro t
  simp only[gn,gB,oh,cZ]
  by_cases ht:t=d
  ·subst ht;simp
  ·have:Nat.beq t d=false:=qG ht
   rw[this,if_neg ht];exact h t
theorem oY.ra {f:Fr} {ov:Ov} {fr:Fr} (h:oY f ov fr) (d:Option Nat) {q:Bool} {u v:AV} (h1:q=true→u=v) (h2:q=false→u= .sc undef):oY (gB f d u) (gn ov d (some q) v) fr:=by
 cases d with
 |none=>exact h
 |some d=>
  intro t
  simp only[gn,gB,oh,cZ]
  by_cases ht:t=d
  ·subst ht;simpa using⟨h1,h2⟩
  ·have:Nat.beq t d=false:=qG ht
   rw[this,if_neg ht];exact h t
theorem oY.raw {f:Fr} {ov:Ov} {fr:Fr} (h:oY f ov fr) (x:eA) (hq:∀q,(fI ov fr x).1=some q→q=true):ev f x=(fI ov fr x).2:=by
 cases x with
 |t n=>
  have:=h n
  simp only[ev,fI] at hq ⊢
  split at this
  ·rename_i v he;rw[this,he]
  ·rename_i q v he;rw[he] at hq ⊢;exact this.1 (hq q rfl)
 |c v=>rfl
 |f n=>rfl
 |m nm n=>
  have:=h n
  simp only[ev,fI] at hq ⊢
  generalize oh ov fr n=x at this hq ⊢
  obtain⟨g,v⟩:=x
  have hv:cZ f n=v:=by
   cases g with
   |none=>exact this
   |some q=>
    refine this.1 (hq q ?_)
    cases v<;>rfl
  rw[hv]
  cases v<;>rfl
theorem nD {fr:Fr} {t:Nat}:∀{ov:Ov},cZ (hO ov fr) t= .any∨∃v,oh ov fr t=(none,v)∧cZ (hO ov fr) t=v
 |[]=> .inr ⟨_,rfl,rfl⟩
 |(d,none,v)::r=>by
  simp only[hO,cZ,oh]
  by_cases ht:t=d
  ·subst ht;simp
  ·have:Nat.beq t d=false:=qG ht
   rw[this,if_neg ht];exact nD
 |(d,some q,v)::r=>by
  simp only[hO,cZ,oh]
  by_cases ht:t=d
  ·subst ht;simp
  ·have:Nat.beq t d=false:=qG ht
   rw[this,if_neg ht];exact nD
abbrev Raw:=eA→Option Bool×AV
def cy (g:Option Bool) (R:Raw) (x:eA) (K:AV→Prop):Prop:=
 match R x with
 |(none,v)=>K v
 |(some q,v)=>de g (q=true)∧K v
def BO (R:Raw) (x:eA):Prop:=∀q,(R x).1=some q→q=true
theorem cK {g:Option Bool} {R:Raw} {x:eA} {K:AV→Prop} (h:cy g R x K):(Gd g→BO R x)∧K (R x).2:=by
 unfold cy at h
 split at h
 ·rename_i v he;rw[he];exact⟨fun _ q hq=>(by rw[he] at hq;cases hq),h⟩
 ·rename_i q v he
  rw[he]
  exact⟨fun hg q' hq=>(by rw[he] at hq;cases hq;exact cQ.1 h.1 hg),h.2⟩
def x8 (K:List AV→Prop):Prop:=K []
def vM (g:Option Bool) (R:Raw) (x:eA) (_:List eA) (ih:(List AV→Prop)→Prop) (K:List AV→Prop):Prop:=cy g R x fun a=>ih fun as=>K (a::as)
noncomputable def kE (g:Option Bool) (R:Raw) (xs:List eA):(List AV→Prop)→Prop:=List.rec (motive:=fun _=>(List AV→Prop)→Prop) x8 (vM g R) xs
theorem fK {g:Option Bool} {R:Raw}:∀{xs:List eA} {K:List AV→Prop},kE g R xs K→(Gd g→∀x∈xs,BO R x)∧K (xs.map fun x=>(R x).2)
 |[],K,h=>⟨fun _ _ h=>(by cases h),h⟩
 |x::r,K,h=>by
  obtain⟨h1,h2⟩:=cK h
  obtain⟨h3,h4⟩:=fK h2
  refine⟨fun hg y hy=> ?_,h4⟩
  rcases List.mem_cons.1 hy with rfl|hy
  ·exact h1 hg
  ·exact h3 hg y hy
theorem ko {f:Fr} {R:Raw}:∀{xs:List eA},(∀x∈xs,ev f x=(R x).2)→pQ f xs=xs.map fun x=>(R x).2
 |[],_=>rfl
 |x::r,h=>by
  simp only[pQ,List.map_cons]
  rw[h x (by simp),ko fun y hy=>h y (by simp[hy])]
def gP (v:AV) (K:AV→Prop):Prop:=
 match v with
 | .sc v=>K (.sc v)
 | .any=>K .any
 | .im a b c=>K (.im a b c)
 | .ip a b c d e=>K (.ip a b c d e)
 | .sl a b=>K (.sl a b)
 | .pt a b c d=>K (.pt a b c d)
 | .zc=>K .zc
 | .agg a=>K (.agg a)
 | .dI a=>K (.dI a)
 | .fn a b c=>K (.fn a b c)
 | .ll a b=>K (.ll a b)
 | .mp a=>K (.mp a)
 | .ab=>K .ab
 | .sv a b c d=>K (.sv a b c d)
theorem fE (v:AV) (K:AV→Prop):gP v K=K v:=by cases v<;>rfl
def xb (K:List AV→Prop):Prop:=K []
def vT (a:AV) (_:List AV) (ih:(List AV→Prop)→Prop) (K:List AV→Prop):Prop:=ih fun r'=>K (a::r')
noncomputable def od (l:List AV):(List AV→Prop)→Prop:=List.rec (motive:=fun _=>(List AV→Prop)→Prop) xb vT l
theorem jV:∀(l:List AV) (K:List AV→Prop),od l K=K l
 |[],_=>rfl
 |a::r,K=>jV r fun r'=>K (a::r')
structure iC (H:Hp) (b:Nat) (K:TypeId→Nat→AV→List AV→Prop):Prop where
 ok:∃e sz d es,bj H b=some (.row e sz d es)∧K e sz d es
theorem iC.of {H:Hp} {b:Nat} {K:TypeId→Nat→AV→List AV→Prop} {e:TypeId} {sz:Nat} {d:AV} {es:List AV} (h:bj H b=some (.row e sz d es)) (k:K e sz d es):iC H b K:=⟨⟨e,sz,d,es,h,k⟩⟩
structure oW (es:List AV) (i:Nat) (d:AV) (K:AV→Prop):Prop where
 ok:K (es.getD i d)
theorem oW.of {es:List AV} {i:Nat} {d:AV} {K:AV→Prop} {e:AV} (h:es.getD i d=e) (k:K e):oW es i d K:=⟨by rw[h];exact k⟩
structure jf {α:Type} (x:Option α) (K:α→Prop):Prop where
 ok:∃a,x=some a∧K a
theorem jf.of {α:Type} {x:Option α} {K:α→Prop} {a:α} (h:x=some a) (k:K a):jf x K:=⟨⟨a,h,k⟩⟩
structure kA {α:Type} (g:Option Bool) (x:Option α) (K:α→Prop):Prop where
 ok:∃a,(Gd g→x=some a)∧K a
theorem kA.of {α:Type} {g:Option Bool} {x:Option α} {K:α→Prop} {a:α} (h:Gd g→x=some a) (k:K a):kA g x K:=⟨⟨a,h,k⟩⟩
structure pI (H:Hp) (b:Nat) (K:TypeId→AV→List AV→Prop):Prop where
 ok:∃e d es,bj H b=some (.row e 0 d (mapA es))∧K e d es
theorem pI.of {H:Hp} {b:Nat} {K:TypeId→AV→List AV→Prop} {e:TypeId} {d:AV} {es:List AV} (h:bj H b=some (.row e 0 d (mapA es))) (k:K e d es):pI H b K:=⟨⟨e,d,es,h,k⟩⟩
def zR (H:Hp) (v:AV) (K:Nat→TypeId→AV→List AV→Prop):Prop:=
 match v with
 | .mp b=>pI H b (K b)
 |_=>False
theorem kh {H:Hp} {v:AV} {K:Nat→TypeId→AV→List AV→Prop} (h:zR H v K):∃b e d es,mapOf H v=some (b,e,d,es)∧K b e d es:=by
 cases v<;>simp only[zR] at h
 obtain⟨e,d,es,h1,h2⟩:=h.ok
 exact⟨_,e,d,es,by simp only[mapOf,h1,mapA],h2⟩
structure sG (g:Option Bool) (k:IntKind) (n:Int) (K:Int→Prop):Prop where
 ok:∃m,(Gd g→k.wrap n=m)∧K m
theorem sG.of {g:Option Bool} {k:IntKind} {n:Int} {K:Int→Prop} {m:Int} (h:Gd g→k.wrap n=m) (hK:K m):sG g k n K:=⟨⟨m,h,hK⟩⟩
section
variable (g:Option Bool) (H:Hp)
def MR (ag:Bool) (k:Nat) (e:AV) (sz off:Nat) (K:AV→Prop):Prop:=
 match ag with
 |true=>match e with
  | .agg cs=>bif Nat.beq off 0&&Nat.beq k sz then K (.agg cs) else de g (off+k≤cs.length)∧K (.agg ((cs.drop off).take k))
  |_=>False
 |false=>match e with
  | .agg cs=>oW cs off .any fun v=>gP v K
  | .any=>K .any
  |e=>bif one e then gP e K else False
def lookW (v:AV) (K:Nat→AV→Nat→Prop):Prop:=
 match v with
 | .ip sz d es i off=>oW es i d fun e=>K sz e off
 | .pt b len i off=>iC H b fun _ sz d es=>de g (es.length=len)∧oW es i d fun e=>K sz e off
 |_=>False
def uI (k:Nat) (v:AV) (K:List AV→Prop):Prop:=
 match v with
 | .im sz _ es=>bif Nat.beq sz k then K es else False
 | .sl b len=>iC H b fun _ sz _ es=>de g (es.length=len∧sz=k)∧K es
 | .sc (.slice none 0 0)=>K []
 | .zc=>K []
 | .sv b len lo n=>iC H b fun _ sz _ es=>de g (es.length=len∧sz=k)∧K ((es.drop lo).take n)
 |_=>False
noncomputable def oP (R:Raw) (id:Nat) (op:dD) (K:AV→Option (Nat×eP)→Prop):Prop:=
 match op with
 | .mv x=>cy g R x fun a=>gP a fun a=>K a none
 | .pick c a b=>cy g R c fun v=>match v with
  | .sc (.bool t)=>
   let rest:=fun(_:Unit)=>gP (oK t (R a).2 (R b).2) fun v=>K v none
   let r2:=fun(_:Unit)=>match(R b).1 with
    |none=>rest ()
    |some q=>de g (t=false→q=true)∧rest ()
   match(R a).1 with
   |none=>r2 ()
   |some q=>de g (t=true→q=true)∧r2 ()
  |_=>False
 | .alloc e sz ag z=>de g (z.length=sz)∧K (.pt id 1 0 0) (some (id, .row e sz (iW ag z) [iW ag z]))
 | .box e sz ag x=>cy g R x fun v=>de g (fits ag sz v=true)∧K (.pt id 1 0 0) (some (id, .row e sz .any [v]))
 | .KN z parts=>kE g R (parts.map (·.2.2)) fun as=>jf (pR (z.map .sc) (List.zipWith (fun p a=>(p.1,p.2.1,a)) parts as)) fun cs=>K (.agg cs) none
 | .IZ e sz ag z n parts=>kE g R (parts.map (·.2)) fun as=>
  de g (z.length=sz∧(List.zipWith (fun p a=>(p.1,a)) parts as).all (fun p=>decide (p.1<n)&&fits ag sz p.2)=true)∧
  K (.sl id n) (some (id, .row e sz (iW ag z) ((List.zipWith (fun p a=>(p.1,a)) parts as).foldl (fun l p=>l.set p.1 p.2) (List.replicate n (iW ag z)))))
 | .ld ag k x=>cy g R x fun v=>lookW g H v fun sz e off=>MR g ag k e sz off fun r=>K r none
 | .st ag k x y=>cy g R x fun v=>cy g R y fun yv=>match v with
  | .pt b len i off=>iC H b fun e sz d es=>de g (es.length=len)∧oW es i d fun ju=>jf (KC ag k ju yv sz off) fun e'=>K .any (some (b, .row e sz d (es.set i e')))
  |_=>False
 | .LP x=>cy g R x fun v=>match v with
  | .pt b len i off=>K (.pt b len i off) none
  | .ip sz d es i off=>K (.ip sz d es i off) none
  | .fn (.func f) p q=>K (.fn (.func f) p q) none
  | .ll t v=>K (.ll t v) none
  |_=>False
 | .bin op x y=>cy g R x fun a=>cy g R y fun b=>match op,a,b with
  | .add, .sc (.int k a), .sc (.int k' b)=>de g (k=k')∧sG g k (a+b) fun m=>K (.sc (.int k m)) none
  | .sub, .sc (.int k a), .sc (.int k' b)=>de g (k=k')∧sG g k (a - b) fun m=>K (.sc (.int k m)) none
  | .mul, .sc (.int k a), .sc (.int k' b)=>de g (k=k')∧sG g k (a * b) fun m=>K (.sc (.int k m)) none
  | .eql, .sc (.int k a), .sc (.int k' b)=>de g (k=k')∧K (.sc (.bool (decide (a=b)))) none
  | .neq, .sc (.int k a), .sc (.int k' b)=>de g (k=k')∧K (.sc (.bool (decide (a≠b)))) none
  | .lss, .sc (.int k a), .sc (.int k' b)=>de g (k=k')∧K (.sc (.bool (decide (a<b)))) none
  | .leq, .sc (.int k a), .sc (.int k' b)=>de g (k=k')∧K (.sc (.bool (decide (a≤b)))) none
  | .gtr, .sc (.int k a), .sc (.int k' b)=>de g (k=k')∧K (.sc (.bool (decide (b<a)))) none
  | .geq, .sc (.int k a), .sc (.int k' b)=>de g (k=k')∧K (.sc (.bool (decide (b≤a)))) none
  | .quo, .sc (.int k a), .sc (.int k' b)=>de g (k=k'∧b≠0)∧K (.sc (.int k (k.wrap (a.tdiv b)))) none
  | .rem, .sc (.int k a), .sc (.int k' b)=>de g (k=k'∧b≠0)∧K (.sc (.int k (a.tmod b))) none
  | .and, .sc (.int k a), .sc (.int k' b)=>de g (k=k')∧K (.sc (.int k (k.wrap (BitVec.ofInt k.bits a&&& BitVec.ofInt k.bits b).toNat))) none
  | .or, .sc (.int k a), .sc (.int k' b)=>de g (k=k')∧K (.sc (.int k (k.wrap (BitVec.ofInt k.bits a|||BitVec.ofInt k.bits b).toNat))) none
  | .xor, .sc (.int k a), .sc (.int k' b)=>de g (k=k')∧K (.sc (.int k (k.wrap (BitVec.ofInt k.bits a^^^BitVec.ofInt k.bits b).toNat))) none
  | .andNot, .sc (.int k a), .sc (.int k' b)=>de g (k=k')∧K (.sc (.int k (k.wrap (BitVec.ofInt k.bits a&&& ~~~(BitVec.ofInt k.bits b)).toNat))) none
  | .shl, .sc (.int k a), .sc (.int _ b)=>de g (0≤b)∧K (.sc (.int k (k.wrap (a * 2^(min b.toNat k.bits))))) none
  | .shr, .sc (.int k a), .sc (.int _ b)=>de g (0≤b)∧K (.sc (.int k (a.fdiv (2^(min b.toNat k.bits))))) none
  |_,_,_=>False
 | .KO neg x y=>cy g R x fun a=>cy g R y fun b=>match a,b with
  | .sc (.bool p), .sc (.bool q)=>(match neg with
   |true=>K (.sc (.bool (p != q))) none
   |false=>K (.sc (.bool (p==q))) none)
  |_,_=>False
 | .sx neg x y=>cy g R x fun a=>cy g R y fun b=>match a,b with
  | .sc (.string p), .sc (.string q)=>(match neg with
   |true=>K (.sc (.bool (p != q))) none
   |false=>K (.sc (.bool (p==q))) none)
  |_,_=>False
 | .un op x=>cy g R x fun a=>match op,a with
  | .not, .sc (.bool b)=>K (.sc (.bool !b)) none
  | .neg, .sc (.int k n)=>sG g k (0 - n) fun m=>K (.sc (.int k m)) none
  |_,_=>False
 | .K3 k x=>cy g R x fun a=>match a with
  | .sc (.int _ n)=>sG g k n fun m=>K (.sc (.int k m)) none
  |_=>False
 | .fa off x=>cy g R x fun a=>match a with
  | .ip sz d es i o=>de g (o+off<sz)∧K (.ip sz d es i (o+off)) none
  | .pt b len i o=>iC H b fun _ sz _ es=>de g (es.length=len∧o+off<sz)∧K (.pt b len i (o+off)) none
  |_=>False
 | .ia k n x i=>cy g R x fun v=>cy g R i fun iv=>match iv with
  | .sc (.int _ j)=>
   (match n with
    |none=>match v with
     | .im sz d es=>de g (k=sz)∧de g (0≤j∧j<es.length)∧K (.ip sz d es j.toNat 0) none
     | .sl b len=>iC H b fun _ sz _ es=>de g (es.length=len∧k=sz)∧de g (0≤j∧j<len)∧K (.pt b len j.toNat 0) none
     | .sv b len lo m=>iC H b fun _ sz _ es=>de g (es.length=len∧k=sz)∧de g (0≤j∧j<m)∧K (.pt b len (lo+j.toNat) 0) none
     |_=>False
    |some m=>match v with
     | .ip sz d es i off=>de g (off+m * k≤sz)∧de g (0≤j∧j<m)∧K (.ip sz d es i (off+j.toNat * k)) none
     | .pt b len i off=>iC H b fun _ sz _ es=>de g (es.length=len∧off+m * k≤sz)∧de g (0≤j∧j<m)∧K (.pt b len i (off+j.toNat * k)) none
     |_=>False)
  |_=>False
 | .LA off k ag x=>cy g R x fun v=>match v with
  | .agg cs=>(match ag with
   |true=>de g (off+k≤cs.length)∧K (.agg ((cs.drop off).take k)) none
   |false=>de g (off+k≤cs.length∧k=1)∧oW cs off .any fun v=>gP v fun v=>K v none)
  |_=>False
 | .ix k ag n x i=>cy g R x fun v=>cy g R i fun iv=>match v,iv with
  | .agg cs, .sc (.int _ j)=>de g (n * k=cs.length)∧de g (0≤j∧j<n)∧(match ag with
   |true=>K (.agg ((cs.drop (j.toNat * k)).take k)) none
   |false=>de g (k=1)∧oW cs (j.toNat * k) .any fun v=>gP v fun v=>K v none)
  |_,_=>False
 | .LJ x i=>cy g R x fun v=>cy g R i fun iv=>match v,iv with
  | .sc (.string s), .sc (.int _ j)=>de g (0≤j∧j<s.size)∧K (.sc (.int .u8 (s.data.toList.getD j.toNat 0).toNat)) none
  |_,_=>False
 | .lens x=>cy g R x fun v=>match v with
  | .sc (.string s)=>K (.sc (.int .i64 s.size)) none
  |_=>False
 | .J1 e sz bytes ag z l c=>cy g R l fun lv=>cy g R c fun cv=>match lv,cv with
  | .sc (.int _ n), .sc (.int _ m)=>de g (z.length=sz∧n=m)∧de g (0≤n∧n * bytes≤281474976710656∧n≤9223372036854775807)∧
   K (.sl id n.toNat) (some (id, .row e sz (iW ag z) (List.replicate n.toNat (iW ag z))))
  |_,_=>False
 | .ext i x=>cy g R x fun v=>match v with
  | .dI vs=>de g (i<vs.length)∧oW vs i .any fun v=>gP v fun v=>K v none
  |_=>False
 | .KR f first caps=>kE g R first fun a=>kE g R caps fun b=>K (.fn f a b) none
 | .LO t x=>cy g R x fun v=>K (.ll t v) none
 | .len x=>cy g R x fun v=>match v with
  | .im _ _ es=>K (.sc (.int .i64 (es.length:Int))) none
  | .sl b len=>iC H b fun _ _ _ es=>de g (es.length=len)∧K (.sc (.int .i64 (len:Int))) none
  | .sc (.slice none 0 0)=>K (.sc (.int .i64 0)) none
  | .zc=>K (.sc (.int .i64 0)) none
  | .sv _ _ _ n=>K (.sc (.int .i64 (n:Int))) none
  |_=>False
 | .app e sz bytes ag z s x=>cy g R s fun sv=>cy g R x fun xv=>uI g H sz xv fun xs=>de g (z.length=sz)∧match sv with
  | .sc (.slice none 0 0)=>de g (xs.length * bytes≤py)∧K (.sl id xs.length) (some (id, .row e sz (iW ag z) xs))
  | .sl b len=>iC H b fun e' sz' d es=>de g (es.length=len∧e'=e∧sz'=sz)∧de g ((len+xs.length) * bytes≤py)∧K (.sl b (len+xs.length)) (some (b, .row e sz d (es++xs)))
  |_=>False
 | .AZ neg x=>cy g R x fun v=>match v with
  | .pt _ _ _ _=>K (.sc (.bool neg)) none
  | .ip _ _ _ _ _=>K (.sc (.bool neg)) none
  | .sc (.pointer none)=>K (.sc (.bool !neg)) none
  |_=>False
 | .wY neg x=>cy g R x fun v=>jf (rR H v) fun t=>gP (pk neg t) fun v=>K v none
 | .eqs neg ks x y=>cy g R x fun a=>cy g R y fun b=>match a,b with
  | .agg as, .agg bs=>jf (CA ks as bs) fun t=>(match neg with
   |true=>K (.sc (.bool !t)) none
   |false=>K (.sc (.bool t)) none)
  |_,_=>False
 | .KA sz x lo hi=>cy g R x fun v=>kE g R (lo.toList++hi.toList) fun bs=>
  jf (rk H sz (match lo with|some _=>bs[0]?|none=>none) (match hi with|some _=>(match lo with|some _=>bs[1]?|none=>bs[0]?)|none=>none) v) fun r=>gP r fun r=>K r none
 | .G9 sz x y=>cy g R x fun xv=>cy g R y fun yv=>match xv with
  | .sl b len=>uI g H sz yv fun xs=>iC H b fun e s d es=>de g (es.length=len∧s=sz)∧
   K (.sc (.int .i64 (Nat.min xs.length len:Nat))) (some (b, .row e s d (xs.take (Nat.min xs.length len)++es.drop (Nat.min xs.length len))))
  |_=>False
 | .call _ _=>False
 | .I6 kt=>K (.mp id) (some (id, .row kt 0 .any (mapA [])))
 | .HX str ag z ok x k=>cy g R x fun v=>cy g R k fun kv=>match kv with
  | .sc kv=>zR H v fun _ _ _ es=>de g (kV str kv=true)∧kA g (pz str kv es (iW ag z)) fun p=>match ok with
   |true=>K (.dI [p.1, .sc (.bool p.2)]) none
   |false=>gP p.1 fun v=>K v none
  |_=>False
 | .BN str x k y=>cy g R x fun v=>cy g R k fun kv=>cy g R y fun yv=>match kv with
  | .sc kv=>zR H v fun b e d es=>de g (kV str kv=true)∧kA g (sP str kv es yv) fun es'=>K .any (some (b, .row e 0 d (mapA es')))
  |_=>False
 | .xp x=>cy g R x fun v=>zR H v fun _ _ _ es=>K (.sc (.int .i64 (es.length:Nat))) none
 | .del str x k=>cy g R x fun v=>cy g R k fun kv=>match kv with
  | .sc kv=>zR H v fun b e d es=>de g (kV str kv=true)∧kA g (FQ str kv es) fun es'=>K (.dI []) (some (b, .row e 0 d (mapA es')))
  |_=>False
 | .za sz v=>K (.agg (List.replicate sz (.sc v))) none
 | .uz e sz v=>K (.pt id 1 0 0) (some (id, .row e sz (.agg (List.replicate sz (.sc v))) [.agg (List.replicate sz (.sc v))]))
 | .LX t ok ag z x=>cy g R x fun v=>match v with
  | .ll t' v=>(bif Nat.beq t' t then(match ok with
   |true=>K (.dI [v, .sc (.bool true)]) none
   |false=>gP v fun v=>K v none) else(match ok with
   |true=>K (.dI [iW ag z, .sc (.bool false)]) none
   |false=>False))
  |_=>False
end
theorem yx {f:Fr} {R:Raw}:∀{ps:List (Nat×Nat×eA)},(∀x∈ps.map (·.2.2),ev f x=(R x).2)→I1 f ps=List.zipWith (fun p a=>(p.1,p.2.1,a)) ps ((ps.map (·.2.2)).map fun x=>(R x).2)
 |[],_=>rfl
 |(i,j,x)::ps,h=>by
  simp only[I1,List.map_cons,List.zipWith_cons_cons]
  rw[h x (by simp),yx fun y hy=>h y (by simp only[List.map_cons,List.mem_cons];exact .inr hy)]
theorem yz {f:Fr} {R:Raw}:∀{ps:List (Nat×eA)},(∀x∈ps.map (·.2),ev f x=(R x).2)→yy f ps=List.zipWith (fun p a=>(p.1,a)) ps ((ps.map (·.2)).map fun x=>(R x).2)
 |[],_=>rfl
 |(i,x)::ps,h=>by
  simp only[yy,List.map_cons,List.zipWith_cons_cons]
  rw[h x (by simp),yz fun y hy=>h y (by simp only[List.map_cons,List.mem_cons];exact .inr hy)]
theorem AK {g:Option Bool} {ag:Bool} {k:Nat} {e:AV} {sz off:Nat} {K:AV→Prop} (h:MR g ag k e sz off K):∃r,K r∧(Gd g→xn ag k e sz off=some r):=by
 unfold MR at h
 cases ag with
 |true=>
  simp only at h
  cases e
  case agg cs=>
   simp only at h
   by_cases hb:off=0∧k=sz
   ·have hb':(Nat.beq off 0&&Nat.beq k sz)=true:=by
     obtain⟨rfl,rfl⟩:=hb;simp
    rw[hb'] at h
    exact⟨_,h,fun _=>by simp[xn,hb.1,hb.2]⟩
   ·have hb':(Nat.beq off 0&&Nat.beq k sz)=false:=by
     cases hc:(Nat.beq off 0&&Nat.beq k sz) with
     |false=>rfl
     |true=>
      rw[Bool.and_eq_true] at hc
      exact absurd ⟨Nat.eq_of_beq_eq_true hc.1,Nat.eq_of_beq_eq_true hc.2⟩ hb
    rw[hb'] at h
    simp only[cond_false] at h
    refine⟨_,h.2,fun hg=> ?_⟩
    have h1:=cQ.1 h.1 hg
    simp only[xn,if_true]
    rw[if_neg hb,if_pos h1]
  all_goals exact h.elim
 |false=>
  have gen:∀e:AV,(bif one e then gP e K else False)→(xn false k e sz off=if one e then some e else none)→∃r,K r∧(Gd g→xn false k e sz off=some r):=by
   intro e h1 h2
   cases ho:one e with
   |true=>rw[ho,cond_true,fE] at h1;exact⟨_,h1,fun _=>by rw[h2,ho];rfl⟩
   |false=>rw[ho] at h1;exact h1.elim
  cases e
  case agg cs=>
   simp only at h
   have:=h.ok
   rw[fE] at this
   exact⟨_,this,fun _=>by simp[xn]⟩
  case any=>exact⟨_,h,fun _=>by simp[xn]⟩
  all_goals exact gen _ h rfl
theorem wM {g:Option Bool} {H:Hp} {v:AV} {K:Nat→AV→Nat→Prop} (h:lookW g H v K):∃sz e off,K sz e off∧(Gd g→lQ H v=some (sz,e,off)):=by
 unfold lookW at h
 split at h
 ·exact⟨_,_,_,h.ok,fun _=>rfl⟩
 ·obtain⟨e,sz,d,es,h1,h2,h3⟩:=h.ok
  refine⟨_,_,_,h3.ok,fun hg=> ?_⟩
  simp only[lQ,h1]
  rw[if_pos (cQ.1 h2 hg)]
 ·exact h.elim
theorem nh {g:Option Bool} {H:Hp} {k:Nat} {v:AV} {K:List AV→Prop} (h:uI g H k v K):∃es,K es∧(Gd g→jB H v=some es∧ye H k v=true):=by
 unfold uI at h
 split at h
 ·rename_i sz d es
  cases hb:Nat.beq sz k with
  |true=>rw[hb] at h;exact⟨_,h,fun _=>⟨rfl,by simpa[ye] using hb⟩⟩
  |false=>rw[hb] at h;exact h.elim
 ·obtain⟨e,sz,d,es,h1,h2,h3⟩:=h.ok
  refine⟨_,h3,fun hg=> ?_⟩
  obtain⟨g1,g2⟩:=cQ.1 h2 hg
  simp[jB,ye,h1,g1,g2]
 ·exact⟨_,h,fun _=>⟨rfl,rfl⟩⟩
 ·exact⟨_,h,fun _=>⟨rfl,rfl⟩⟩
 ·obtain⟨e,sz,d,es,h1,h2,h3⟩:=h.ok
  refine⟨_,h3,fun hg=> ?_⟩
  obtain⟨g1,g2⟩:=cQ.1 h2 hg
  simp[jB,ye,h1,g1,g2]
 ·exact h.elim
set_option maxHeartbeats 4000000 in
theorem jx {g:Option Bool} {H:Hp} {R:Raw} {id:Nat} {op:dD} {K:AV→Option (Nat×eP)→Prop} (h:oP g H R id op K):
 ∃r u,K r u∧(Gd g→(op.rd=true→∀x∈op.eV,BO R x)∧∀f,(∀x,BO R x→ev f x=(R x).2)→cA id f H op=some (r,u)):=by
 cases op
 case mv x=>
  obtain⟨h1,h2⟩:=cK h
  rw[fE] at h2
  exact⟨_,_,h2,fun hg=>⟨fun hr=>by simp[dD.rd] at hr,fun f hf=>by simp only[cA,hf x (h1 hg)]⟩⟩
 case pick c a b=>
  obtain⟨h1,h2⟩:=cK h
  split at h2
  ·rename_i t ht
   simp only[fE] at h2
   have key:∀{q:Option Bool} {p:Prop} {A:Prop},(match q with|none=>A|some q=>de g (p→q=true)∧A)→A∧(Gd g→p→∀q',q=some q'→q'=true):=by
    intro q p A h
    cases q with
    |none=>exact⟨h,fun _ _ _ hq=>by cases hq⟩
    |some q=>exact⟨h.2,fun hg hp q' hq=>by cases hq;exact cQ.1 h.1 hg hp⟩
   obtain⟨h3,ha⟩:=key h2
   obtain⟨h4,hb⟩:=key h3
   refine⟨_,_,h4,fun hg=>⟨fun hr=>by simp[dD.rd] at hr,fun f hf=> ?_⟩⟩
   simp only[cA,hf c (h1 hg),ht]
   congr 2
   cases t with
   |true=>rw[rY,rY,hf a (ha hg rfl)]
   |false=>rw[pa,pa,hf b (hb hg rfl)]
  ·exact h2.elim
 case alloc e sz ag z=>
  refine⟨_,_,h.2,fun hg=>⟨fun hr=>by simp[dD.rd] at hr,fun f hf=> ?_⟩⟩
  simp only[cA];rw[if_pos (cQ.1 h.1 hg)]
 case box e sz ag x=>
  obtain⟨h1,h2⟩:=cK h
  refine⟨_,_,h2.2,fun hg=>⟨fun hr=>by simp[dD.rd] at hr,fun f hf=> ?_⟩⟩
  simp only[cA,hf x (h1 hg)];rw[if_pos (cQ.1 h2.1 hg)]
 case KN z ps=>
  obtain⟨h1,h2⟩:=fK h
  obtain⟨cs,h3,h4⟩:=h2.ok
  refine⟨_,_,h4,fun hg=>⟨fun hr=>by simp[dD.rd] at hr,fun f hf=> ?_⟩⟩
  simp only[cA]
  rw[yx (R:=R) fun x hx=>hf x (h1 hg x hx),h3]
 case IZ e sz ag z n ps=>
  obtain⟨h1,h2⟩:=fK h
  refine⟨_,_,h2.2,fun hg=>⟨fun hr=>by simp[dD.rd] at hr,fun f hf=> ?_⟩⟩
  have h3:=cQ.1 h2.1 hg
  simp only[cA]
  rw[yz (R:=R) fun x hx=>hf x (h1 hg x hx),if_pos h3]
 case ld ag k x=>
  obtain⟨h1,h2⟩:=cK h
  obtain⟨sz,e,off,h3,h4⟩:=wM h2
  obtain⟨r,h5,h6⟩:=AK h3
  refine⟨_,_,h5,fun hg=>⟨fun _ y hy=>by simp[dD.eV] at hy;subst hy;exact h1 hg,fun f hf=> ?_⟩⟩
  simp only[cA,hf x (h1 hg),h4 hg,h6 hg,Option.map_some]
 case st ag k x y=>
  obtain⟨h1,h2⟩:=cK h
  obtain⟨h3,h4⟩:=cK h2
  split at h4
  ·rename_i b len i off hx
   obtain⟨e,sz,d,es,g1,g2,g3⟩:=h4.ok
   obtain⟨e',g4,g5⟩:=g3.ok.ok
   refine⟨_,_,g5,fun hg=>⟨fun _ z hz=>by simp[dD.eV] at hz;rcases hz with rfl|rfl;exact h1 hg;exact h3 hg,fun f hf=> ?_⟩⟩
   simp only[cA,hf x (h1 hg),hf y (h3 hg),hx,g1,g4]
   rw[if_pos (cQ.1 g2 hg)]
  ·exact h4.elim
 case LP x=>
  obtain⟨h1,h2⟩:=cK h
  split at h2
  all_goals first
   |exact h2.elim
   |(rename_i hx;exact⟨_,_,h2,fun hg=>⟨fun hr=>by simp[dD.rd] at hr,fun f hf=>by simp only[cA,hf x (h1 hg),hx]⟩⟩)
 case bin op x y=>
  obtain⟨h1,h2⟩:=cK h
  obtain⟨h3,h4⟩:=cK h2
  split at h4
  all_goals first
   |exact h4.elim
   |(rename_i hx hy;obtain⟨q1,q2⟩:=h4;obtain⟨m,q3,q4⟩:=q2.ok;refine⟨_,_,q4,fun hg=>⟨fun hr=>by simp[dD.rd] at hr,fun f hf=> ?_⟩⟩;simp only[cA,hf x (h1 hg),hf y (h3 hg),hx,hy,z8];rw[if_pos (cQ.1 q1 hg),q3 hg];rfl)
   |(rename_i hx hy;refine⟨_,_,h4.2,fun hg=>⟨fun hr=>by simp[dD.rd] at hr,fun f hf=> ?_⟩⟩;simp only[cA,hf x (h1 hg),hf y (h3 hg),hx,hy,z8];rw[if_pos (cQ.1 h4.1 hg)];rfl)
 case KO neg x y=>
  obtain⟨h1,h2⟩:=cK h
  obtain⟨h3,h4⟩:=cK h2
  split at h4
  ·rename_i p q hx hy
   cases neg
   all_goals exact⟨_,_,h4,fun hg=>⟨fun hr=>by simp[dD.rd] at hr,fun f hf=>by simp[cA,hf x (h1 hg),hf y (h3 hg),hx,hy]⟩⟩
  ·exact h4.elim
 case sx neg x y=>
  obtain⟨h1,h2⟩:=cK h
  obtain⟨h3,h4⟩:=cK h2
  split at h4
  ·rename_i p q hx hy
   cases neg
   all_goals exact⟨_,_,h4,fun hg=>⟨fun hr=>by simp[dD.rd] at hr,fun f hf=>by simp[cA,hf x (h1 hg),hf y (h3 hg),hx,hy]⟩⟩
  ·exact h4.elim
 case un op x=>
  obtain⟨h1,h2⟩:=cK h
  split at h2
  all_goals first
   |exact h2.elim
   |(rename_i hx;obtain⟨m,q3,q4⟩:=h2.ok;exact⟨_,_,q4,fun hg=>⟨fun hr=>by simp[dD.rd] at hr,fun f hf=>by simp only[cA,hf x (h1 hg),hx,LZ,Option.map_some,q3 hg]⟩⟩)
   |(rename_i hx;exact⟨_,_,h2,fun hg=>⟨fun hr=>by simp[dD.rd] at hr,fun f hf=>by simp only[cA,hf x (h1 hg),hx,LZ,Option.map_some]⟩⟩)
 case K3 k x=>
  obtain⟨h1,h2⟩:=cK h
  split at h2
  all_goals first
   |exact h2.elim
   |(rename_i hx;obtain⟨m,q3,q4⟩:=h2.ok;exact⟨_,_,q4,fun hg=>⟨fun hr=>by simp[dD.rd] at hr,fun f hf=>by simp only[cA,hf x (h1 hg),hx,q3 hg]⟩⟩)
 case fa off x=>
  obtain⟨h1,h2⟩:=cK h
  have hr:Gd g→((dD.fa off x).rd=true→∀y∈(dD.fa off x).eV,BO R y):=fun hg _ y hy=>by simp[dD.eV] at hy;subst hy;exact h1 hg
  split at h2
  ·rename_i hx
   refine⟨_,_,h2.2,fun hg=>⟨hr hg,fun f hf=> ?_⟩⟩
   simp only[cA,hf x (h1 hg),hx];rw[if_pos (cQ.1 h2.1 hg)]
  ·rename_i hx
   obtain⟨e,sz,d,es,g1,g2,g3⟩:=h2.ok
   refine⟨_,_,g3,fun hg=>⟨hr hg,fun f hf=> ?_⟩⟩
   simp only[cA,hf x (h1 hg),hx,g1];rw[if_pos (cQ.1 g2 hg)]
  ·exact h2.elim
 case ia k n x i=>
  obtain⟨h1,h2⟩:=cK h
  obtain⟨h3,h4⟩:=cK h2
  have hr:Gd g→((dD.ia k n x i).rd=true→∀y∈(dD.ia k n x i).eV,BO R y):=fun hg _ y hy=>by simp[dD.eV] at hy;rcases hy with rfl|rfl;exact h1 hg;exact h3 hg
  split at h4
  ·rename_i kk j hi
   cases n with
   |none=>
    simp only at h4
    split at h4
    ·rename_i hx
     refine⟨_,_,h4.2.2,fun hg=>⟨hr hg,fun f hf=> ?_⟩⟩
     simp only[cA,hf x (h1 hg),hf i (h3 hg),hx,hi,C5]
     rw[if_pos ⟨cQ.1 h4.1 hg,cQ.1 h4.2.1 hg⟩];rfl
    ·rename_i hx
     obtain⟨e,sz,d,es,g1,g2,g3,g4⟩:=h4.ok
     refine⟨_,_,g4,fun hg=>⟨hr hg,fun f hf=> ?_⟩⟩
     obtain⟨q1,q2⟩:=cQ.1 g2 hg
     simp only[cA,hf x (h1 hg),hf i (h3 hg),hx,hi,C5,g1]
     rw[if_pos ⟨q1,q2,cQ.1 g3 hg⟩];rfl
    ·rename_i hx
     obtain⟨e,sz,d,es,g1,g2,g3,g4⟩:=h4.ok
     refine⟨_,_,g4,fun hg=>⟨hr hg,fun f hf=> ?_⟩⟩
     obtain⟨q1,q2⟩:=cQ.1 g2 hg
     simp only[cA,hf x (h1 hg),hf i (h3 hg),hx,hi,C5,g1]
     rw[if_pos ⟨q1,q2,cQ.1 g3 hg⟩];rfl
    ·exact h4.elim
   |some m=>
    simp only at h4
    split at h4
    ·rename_i hx
     refine⟨_,_,h4.2.2,fun hg=>⟨hr hg,fun f hf=> ?_⟩⟩
     simp only[cA,hf x (h1 hg),hf i (h3 hg),hx,hi,C5]
     rw[if_pos ⟨cQ.1 h4.1 hg,cQ.1 h4.2.1 hg⟩];rfl
    ·rename_i hx
     obtain⟨e,sz,d,es,g1,g2,g3,g4⟩:=h4.ok
     refine⟨_,_,g4,fun hg=>⟨hr hg,fun f hf=> ?_⟩⟩
     obtain⟨q1,q2⟩:=cQ.1 g2 hg
     simp only[cA,hf x (h1 hg),hf i (h3 hg),hx,hi,C5,g1]
     rw[if_pos ⟨q1,q2,cQ.1 g3 hg⟩];rfl
    ·exact h4.elim
  ·exact h4.elim
 case LA off k ag x=>
  obtain⟨h1,h2⟩:=cK h
  split at h2
  ·rename_i cs hx
   cases ag with
   |true=>
    refine⟨_,_,h2.2,fun hg=>⟨fun hr=>by simp[dD.rd] at hr,fun f hf=> ?_⟩⟩
    simp only[cA,hf x (h1 hg),hx,if_true];rw[if_pos (cQ.1 h2.1 hg)]
   |false=>
    have h3:=h2.2.ok
    rw[fE] at h3
    refine⟨_,_,h3,fun hg=>⟨fun hr=>by simp[dD.rd] at hr,fun f hf=> ?_⟩⟩
    obtain⟨q1,q2⟩:=cQ.1 h2.1 hg
    simp only[cA,hf x (h1 hg),hx,Bool.false_eq_true,if_false];rw[if_pos q1,if_pos q2]
  ·exact h2.elim
 case ix k ag n x i=>
  obtain⟨h1,h2⟩:=cK h
  obtain⟨h3,h4⟩:=cK h2
  split at h4
  ·rename_i cs kk j hx hi
   obtain⟨p1,p2,p3⟩:=h4
   cases ag with
   |true=>
    refine⟨_,_,p3,fun hg=>⟨fun hr=>by simp[dD.rd] at hr,fun f hf=> ?_⟩⟩
    have q2:=cQ.1 p2 hg
    simp only[cA,hf x (h1 hg),hf i (h3 hg),hx,hi,if_true];rw[if_pos ⟨q2.1,q2.2,cQ.1 p1 hg⟩]
   |false=>
    have h5:=p3.2.ok
    rw[fE] at h5
    refine⟨_,_,h5,fun hg=>⟨fun hr=>by simp[dD.rd] at hr,fun f hf=> ?_⟩⟩
    have q2:=cQ.1 p2 hg
    simp only[cA,hf x (h1 hg),hf i (h3 hg),hx,hi,Bool.false_eq_true,if_false];rw[if_pos ⟨q2.1,q2.2,cQ.1 p1 hg⟩,if_pos (cQ.1 p3.1 hg)]
  ·exact h4.elim
 case LJ x i=>
  obtain⟨h1,h2⟩:=cK h
  obtain⟨h3,h4⟩:=cK h2
  split at h4
  ·rename_i hx hi
   refine⟨_,_,h4.2,fun hg=>⟨fun hr=>by simp[dD.rd] at hr,fun f hf=> ?_⟩⟩
   simp only[cA,hf x (h1 hg),hf i (h3 hg),hx,hi];rw[if_pos (cQ.1 h4.1 hg)]
  ·exact h4.elim
 case lens x=>
  obtain⟨h1,h2⟩:=cK h
  split at h2
  all_goals first
   |exact h2.elim
   |(rename_i hx;exact⟨_,_,h2,fun hg=>⟨fun hr=>by simp[dD.rd] at hr,fun f hf=>by simp only[cA,hf x (h1 hg),hx]⟩⟩)
 case J1 e sz bytes ag z l c=>
  obtain⟨h1,h2⟩:=cK h
  obtain⟨h3,h4⟩:=cK h2
  split at h4
  ·rename_i hx hi
   refine⟨_,_,h4.2.2,fun hg=>⟨fun hr=>by simp[dD.rd] at hr,fun f hf=> ?_⟩⟩
   obtain⟨q1,q2⟩:=cQ.1 h4.1 hg
   obtain⟨q3,q4,q5⟩:=cQ.1 h4.2.1 hg
   simp only[cA,hf l (h1 hg),hf c (h3 hg),hx,hi];rw[if_pos ⟨q1,q3,q2,q4,q5⟩]
  ·exact h4.elim
 case ext i x=>
  obtain⟨h1,h2⟩:=cK h
  split at h2
  ·rename_i hx
   have h3:=h2.2.ok
   rw[fE] at h3
   refine⟨_,_,h3,fun hg=>⟨fun hr=>by simp[dD.rd] at hr,fun f hf=> ?_⟩⟩
   simp only[cA,hf x (h1 hg),hx];rw[if_pos (cQ.1 h2.1 hg)]
  ·exact h2.elim
 case KR fn first caps=>
  obtain⟨h1,h2⟩:=fK h
  obtain⟨h3,h4⟩:=fK h2
  refine⟨_,_,h4,fun hg=>⟨fun hr=>by simp[dD.rd] at hr,fun f hf=> ?_⟩⟩
  simp only[cA]
  rw[ko (R:=R) fun x hx=>hf x (h1 hg x hx),ko (R:=R) fun x hx=>hf x (h3 hg x hx)]
 case LO t x=>
  obtain⟨h1,h2⟩:=cK h
  exact⟨_,_,h2,fun hg=>⟨fun hr=>by simp[dD.rd] at hr,fun f hf=>by simp only[cA,hf x (h1 hg)]⟩⟩
 case len x=>
  obtain⟨h1,h2⟩:=cK h
  have hr:Gd g→((dD.len x).rd=true→∀y∈(dD.len x).eV,BO R y):=fun hg _ y hy=>by simp[dD.eV] at hy;subst hy;exact h1 hg
  split at h2
  ·rename_i hx;exact⟨_,_,h2,fun hg=>⟨hr hg,fun f hf=>by simp only[cA,hf x (h1 hg),hx,rK]⟩⟩
  ·rename_i hx
   obtain⟨e,sz,d,es,g1,g2,g3⟩:=h2.ok
   refine⟨_,_,g3,fun hg=>⟨hr hg,fun f hf=> ?_⟩⟩
   simp only[cA,hf x (h1 hg),hx,rK,g1];rw[if_pos (cQ.1 g2 hg)]
  ·rename_i hx;exact⟨_,_,h2,fun hg=>⟨hr hg,fun f hf=>by simp[cA,hf x (h1 hg),hx,rK]⟩⟩
  ·rename_i hx;exact⟨_,_,h2,fun hg=>⟨hr hg,fun f hf=>by simp[cA,hf x (h1 hg),hx,rK]⟩⟩
  ·rename_i hx;exact⟨_,_,h2,fun hg=>⟨hr hg,fun f hf=>by simp only[cA,hf x (h1 hg),hx,rK]⟩⟩
  ·exact h2.elim
 case app e sz bytes ag z s x=>
  obtain⟨h1,h2⟩:=cK h
  obtain⟨h3,h4⟩:=cK h2
  obtain⟨xs,⟨h5,h5'⟩,h6⟩:=nh h4
  have hr:Gd g→((dD.app e sz bytes ag z s x).rd=true→∀y∈(dD.app e sz bytes ag z s x).eV,BO R y):=fun hg _ y hy=>by simp[dD.eV] at hy;rcases hy with rfl|rfl;exact h1 hg;exact h3 hg
  split at h5'
  ·rename_i hx
   refine⟨_,_,h5'.2,fun hg=>⟨hr hg,fun f hf=> ?_⟩⟩
   obtain⟨q1,q2⟩:=h6 hg
   simp only[cA,hf s (h1 hg),hf x (h3 hg),hx,q1];rw[if_pos ⟨q2,cQ.1 h5 hg⟩,if_pos (cQ.1 h5'.1 hg)]
  ·rename_i hx
   obtain⟨e',sz',d,es,g1,g2,g3,g4⟩:=h5'.ok
   refine⟨_,_,g4,fun hg=>⟨hr hg,fun f hf=> ?_⟩⟩
   obtain⟨q1,q2⟩:=h6 hg
   obtain⟨q3,q4,q5⟩:=cQ.1 g2 hg
   simp only[cA,hf s (h1 hg),hf x (h3 hg),hx,q1,g1];rw[if_pos ⟨q2,cQ.1 h5 hg⟩,if_pos ⟨q3,q4,q5,cQ.1 g3 hg⟩]
  ·exact h5'.elim
 case AZ neg x=>
  obtain⟨h1,h2⟩:=cK h
  split at h2
  all_goals first
   |exact h2.elim
   |(rename_i hx;exact⟨_,_,h2,fun hg=>⟨fun hr=>by simp[dD.rd] at hr,fun f hf=>by simp only[cA,hf x (h1 hg),hx]⟩⟩)
 case wY neg x=>
  obtain⟨h1,h2⟩:=cK h
  obtain⟨t,h3,h4⟩:=h2.ok
  rw[fE] at h4
  refine⟨_,_,h4,fun hg=>⟨fun _ y hy=>by simp[dD.eV] at hy;subst hy;exact h1 hg,fun f hf=> ?_⟩⟩
  simp only[cA,hf x (h1 hg),h3]
 case eqs neg ks x y=>
  obtain⟨h1,h2⟩:=cK h
  obtain⟨h3,h4⟩:=cK h2
  split at h4
  ·rename_i hx hy
   obtain⟨t,g1,g2⟩:=h4.ok
   cases neg
   all_goals exact⟨_,_,g2,fun hg=>⟨fun hr=>by simp[dD.rd] at hr,fun f hf=>by simp[cA,hf x (h1 hg),hf y (h3 hg),hx,hy,g1]⟩⟩
  ·exact h4.elim
 case KA sz x lo hi=>
  obtain⟨h1,h2⟩:=cK h
  obtain⟨h3,h4⟩:=fK h2
  obtain⟨r,g1,g2⟩:=h4.ok
  rw[fE] at g2
  refine⟨_,_,g2,fun hg=>⟨fun _ y hy=> ?_,fun f hf=> ?_⟩⟩
  ·simp only[dD.eV,List.mem_append,List.mem_singleton] at hy
   rcases hy with(rfl|hy)|hy
   ·exact h1 hg
   ·exact h3 hg y (by simp only[List.mem_append];exact .inl hy)
   ·exact h3 hg y (by simp only[List.mem_append];exact .inr hy)
  ·simp only[cA,hf x (h1 hg)]
   have e1:∀y∈lo.toList++hi.toList,ev f y=(R y).2:=fun y hy=>hf y (h3 hg y hy)
   cases lo<;>cases hi<;>simp_all
 case G9 sz x y=>
  obtain⟨h1,h2⟩:=cK h
  obtain⟨h3,h4⟩:=cK h2
  split at h4
  ·rename_i b len hx
   obtain⟨xs,h5,h6⟩:=nh h4
   obtain⟨e,s,d,es,g1,g2,g3⟩:=h5.ok
   refine⟨_,_,g3,fun hg=>⟨fun _ z hz=>by simp[dD.eV] at hz;rcases hz with rfl|rfl;exact h1 hg;exact h3 hg,fun f hf=> ?_⟩⟩
   obtain⟨q1,q2⟩:=h6 hg
   obtain⟨q3,q4⟩:=cQ.1 g2 hg
   simp only[cA,hf x (h1 hg),hf y (h3 hg),hx,q1,g1];rw[if_pos ⟨q3,q4,q2⟩]
  ·exact h4.elim
 case call f as=>exact h.elim
 case I6 kt=>exact⟨_,_,h,fun hg=>⟨fun hr=>by simp[dD.rd] at hr,fun f hf=>rfl⟩⟩
 case za sz v=>exact⟨_,_,h,fun hg=>⟨fun hr=>by simp[dD.rd] at hr,fun f hf=>rfl⟩⟩
 case uz e sz v=>exact⟨_,_,h,fun hg=>⟨fun hr=>by simp[dD.rd] at hr,fun f hf=>rfl⟩⟩
 case xp x=>
  obtain⟨h1,h2⟩:=cK h
  obtain⟨b,e,d,es,h3,h4⟩:=kh h2
  exact⟨_,_,h4,fun hg=>⟨fun _ y hy=>by simp[dD.eV] at hy;subst hy;exact h1 hg,fun f hf=>by simp only[cA,hf x (h1 hg),h3]⟩⟩
 case HX str ag z ok x k=>
  obtain⟨h1,h2⟩:=cK h
  obtain⟨h3,h4⟩:=cK h2
  have hr:Gd g→((dD.HX str ag z ok x k).rd=true→∀y∈(dD.HX str ag z ok x k).eV,BO R y):=fun hg _ y hy=>by simp[dD.eV] at hy;rcases hy with rfl|rfl;exact h1 hg;exact h3 hg
  split at h4
  ·rename_i kv hk
   obtain⟨b,e,d,es,h5,h6,h7⟩:=kh h4
   obtain⟨p,h8,h9⟩:=h7.ok
   cases ok with
   |true=>
    refine⟨_,_,h9,fun hg=>⟨hr hg,fun f hf=> ?_⟩⟩
    have h10:=h8 hg
    unfold pz at h10
    simp only[cA,hf x (h1 hg),hf k (h3 hg),h5,hk]
    rw[if_pos (cQ.1 h6 hg)]
    split at h10<;>simp only[Option.some.injEq,reduceCtorEq] at h10
    ·subst h10;simp_all
    ·subst h10;simp_all
   |false=>
    simp only[fE] at h9
    refine⟨_,_,h9,fun hg=>⟨hr hg,fun f hf=> ?_⟩⟩
    have h10:=h8 hg
    unfold pz at h10
    simp only[cA,hf x (h1 hg),hf k (h3 hg),h5,hk]
    rw[if_pos (cQ.1 h6 hg)]
    split at h10<;>simp only[Option.some.injEq,reduceCtorEq] at h10
    ·subst h10;simp_all
    ·subst h10;simp_all
  ·exact h4.elim
 case BN str x k y=>
  obtain⟨h1,h2⟩:=cK h
  obtain⟨h3,h4⟩:=cK h2
  obtain⟨h3',h4'⟩:=cK h4
  have hr:Gd g→((dD.BN str x k y).rd=true→∀w∈(dD.BN str x k y).eV,BO R w):=fun hg _ w hy=>by simp[dD.eV] at hy;rcases hy with rfl|rfl|rfl;exact h1 hg;exact h3 hg;exact h3' hg
  split at h4'
  ·rename_i kv hk
   obtain⟨b,e,d,es,h5,h6,h7⟩:=kh h4'
   obtain⟨p,h8,h9⟩:=h7.ok
   refine⟨_,_,h9,fun hg=>⟨hr hg,fun f hf=> ?_⟩⟩
   have h10:=h8 hg
   unfold sP at h10
   simp only[cA,hf x (h1 hg),hf k (h3 hg),hf y (h3' hg),h5,hk]
   rw[if_pos (cQ.1 h6 hg)]
   split at h10<;>simp only[Option.some.injEq,reduceCtorEq] at h10
   ·subst h10;simp_all[xJ]
   ·subst h10;simp_all[xJ]
  ·exact h4'.elim
 case del str x k=>
  obtain⟨h1,h2⟩:=cK h
  obtain⟨h3,h4⟩:=cK h2
  have hr:Gd g→((dD.del str x k).rd=true→∀y∈(dD.del str x k).eV,BO R y):=fun hg _ y hy=>by simp[dD.eV] at hy;rcases hy with rfl|rfl;exact h1 hg;exact h3 hg
  split at h4
  ·rename_i kv hk
   obtain⟨b,e,d,es,h5,h6,h7⟩:=kh h4
   obtain⟨p,h8,h9⟩:=h7.ok
   refine⟨_,_,h9,fun hg=>⟨hr hg,fun f hf=> ?_⟩⟩
   have h10:=h8 hg
   unfold FQ at h10
   simp only[cA,hf x (h1 hg),hf k (h3 hg),h5,hk]
   rw[if_pos (cQ.1 h6 hg)]
   split at h10<;>simp only[Option.some.injEq,reduceCtorEq] at h10
   ·subst h10;simp_all
   ·subst h10;simp_all
  ·exact h4.elim
 case LX t ok ag z x=>
  obtain⟨h1,h2⟩:=cK h
  split at h2
  ·rename_i t' v hx
   cases hb:Nat.beq t' t with
   |true=>
    rw[hb] at h2
    have e:=Nat.eq_of_beq_eq_true hb
    cases ok with
    |true=>
     simp only[cond_true] at h2
     exact⟨_,_,h2,fun hg=>⟨fun hr=>by simp[dD.rd] at hr,fun f hf=>by simp only[cA,hf x (h1 hg),hx];rw[if_pos e];rfl⟩⟩
    |false=>
     simp only[cond_true,fE] at h2
     exact⟨_,_,h2,fun hg=>⟨fun hr=>by simp[dD.rd] at hr,fun f hf=>by simp only[cA,hf x (h1 hg),hx];rw[if_pos e];rfl⟩⟩
   |false=>
    rw[hb] at h2
    have e:¬t'=t:=fun e=>by rw[e] at hb;simp at hb
    cases ok with
    |true=>
     simp only[cond_false] at h2
     exact⟨_,_,h2,fun hg=>⟨fun hr=>by simp[dD.rd] at hr,fun f hf=>by simp only[cA,hf x (h1 hg),hx];rw[if_neg e];rfl⟩⟩
    |false=>exact h2.elim
  ·exact h2.elim
end Go.ch
/- Code as a whole, run by reduction alone; it is so. -/
namespace Go.ch
open Go.RowKit
structure fU (t:Bool) (A B:Prop):Prop where
 ok:(t=true→A)∧(t=false→B)
theorem fU.lt {A B:Prop} (h:A):fU true A B:=⟨⟨fun _=>h,fun h=>(by cases h)⟩⟩
theorem fU.lf {A B:Prop} (h:B):fU false A B:=⟨⟨fun h=>(by cases h),fun _=>h⟩⟩
theorem fU.of {t:Bool} {A B:Prop} (h1:t=true→A) (h2:t=false→B):fU t A B:=⟨⟨h1,h2⟩⟩
structure da (t want:Bool) (A B J:Prop):Prop where
 ok:((t=want→A)∧(t≠want→B))∨J
theorem da.tt {A B J:Prop} (h:A):da true true A B J:=⟨.inl ⟨fun _=>h,fun h=>absurd rfl h⟩⟩
theorem da.tf {A B J:Prop} (h:B):da true false A B J:=⟨.inl ⟨fun h=>(by cases h),fun _=>h⟩⟩
theorem da.join {t want:Bool} {A B J:Prop} (h:J):da t want A B J:=⟨.inr h⟩
theorem da.split {t want:Bool} {A B J:Prop} (h1:t=want→A) (h2:t= !want→B):da t want A B J:=⟨.inl ⟨h1,fun h=>h2 (by cases t<;>cases want<;>simp_all)⟩⟩
structure jF (P:Program) (f:FuncId) (args:List AV) (H:Hp) (nx:Nat) (K:AV→Hp→Nat→Prop):Prop where
 ok:cM P f args H nx K
structure n0 (P:Program) (g:Bool) (f:FuncId) (args:List AV) (H:Hp) (nx:Nat) (K:AV→Prop):Prop where
 ok:∃r,(g=true→∀(K':AV→Hp→Nat→Prop),K' r H (nx+1)→cM P f args H nx K')∧K r
structure lK (P:Program) (id:Nat) (f:FuncId) (args:List AV) (H:Hp) (K:AV→Option (Nat×eP)→List Nat→Prop):Prop where
 ok:∃r u S,mc P id (.fn (.func f) [] []) args H r u S∧K r u S
structure KS (P:Program) (t:TypeId) (v:AV) (nm:String) (args:List AV) (H:Hp) (nx:Nat) (K:AV→Hp→Nat→Prop):Prop where
 ok:s4 P t v nm args H nx K
structure qS (P:Program) (g:Bool) (id:Nat) (f:FuncId) (args:List AV) (H:Hp) (K:AV→List Nat→Prop):Prop where
 ok:∃r S,(g=true→mc P id (.fn (.func f) [] []) args H r none S)∧K r S
theorem Pure.JH {P:Program} {f:FuncId} {args:List AV} {R:AV→Prop} {H:Hp} {nx:Nat} {K:AV→Hp→Nat→Prop} (h:Pure P f args R) (hf:cL 0 args) (hK:∀r,R r→K r H (nx+1)):cM P f args H nx K:=by
 have:=h.eN (H:=H) (nx:=nx) (K:=fun r H' n=>∃n',n≤n'∧K r H' n') hf fun r hr=>⟨_,Nat.le_succ _,hK r hr⟩
 refine⟨this.1,fun w0 c vs a1 a2 a3 a4=>(this.2 w0 c vs a1 a2 a3 a4).mono ?_⟩
 rintro e w' ⟨v,r,H',nx',ρ,U,he,⟨n',hn,hR⟩,hU,hrest⟩
 exact⟨v,r,H',n',ρ,U,he,hR,fun b hb=>Nat.lt_of_lt_of_le (hU b hb) hn,hrest⟩
theorem jF.pure {P:Program} {f:FuncId} {args:List AV} {R:AV→Prop} {H:Hp} {nx:Nat} {K:AV→Hp→Nat→Prop} (h:Pure P f args R) (hf:cL 0 args) (hK:∀r,R r→K r H nx):jF P f args H nx K:=⟨h.eN hf hK⟩
theorem jF.G2 {P:Program} {f:FuncId} {args:List AV} {r:AV} {H:Hp} {nx:Nat} {K:AV→Hp→Nat→Prop} (h:Pure P f args (fun x=>x=r)) (hf:cL 0 args) (hK:K r H nx):jF P f args H nx K:=⟨h.eN hf fun x hx=>by rw[hx];exact hK⟩
theorem jF.of {P:Program} {f:FuncId} {args:List AV} {H:Hp} {nx:Nat} {R K:AV→Hp→Nat→Prop} (h:cM P f args H nx R) (hK:∀r H' nx',R r H' nx'→K r H' nx'):jF P f args H nx K:=⟨h.mono hK⟩
theorem n0.G2 {P:Program} {g:Bool} {f:FuncId} {args:List AV} {r:AV} {H:Hp} {nx:Nat} {K:AV→Prop} (h:g=true→Pure P f args (fun x=>x=r)) (hf:cL 0 args) (hK:K r):n0 P g f args H nx K:=
 ⟨⟨r,fun hg K' hK'=>(h hg).JH hf fun x hx=>by rw[hx];exact hK',hK⟩⟩
theorem lK.G2 {P:Program} {id:Nat} {f:FuncId} {args:List AV} {H:Hp} {r:AV} {K:AV→Option (Nat×eP)→List Nat→Prop} (h:Pure P f args (fun x=>x=r)) (hf:cL 0 args) (hK:K r none []):lK P id f args H K:=
 ⟨⟨r,none,[],Pure.F7 (by simpa using hf) (by simpa using h),hK⟩⟩
theorem qS.G2 {P:Program} {g:Bool} {id:Nat} {f:FuncId} {args:List AV} {H:Hp} {r:AV} {K:AV→List Nat→Prop} (h:g=true→Pure P f args (fun x=>x=r)) (hf:cL 0 args) (hK:K r []):qS P g id f args H K:=
 ⟨⟨r,[],fun hg=>Pure.F7 (by simpa using hf) (by simpa using h hg),hK⟩⟩
theorem lK.fresh {P:Program} {id:Nat} {f:FuncId} {args:List AV} {H:Hp} {r:AV} {u:Option (Nat×eP)} (S:List Nat) {K:AV→Option (Nat×eP)→List Nat→Prop}
 (h:∀H1,(∀b∈S,bj H1 b=bj H b)→ma P f args H1 id (fun r' H'=>r'=r∧H'=cw H1 u)) (hu:∀b q,u=some (b,q)→b=id) (hK:K r u S):lK P id f args H K:=
 ⟨⟨r,u,S,⟨by simpa using h,hu⟩,hK⟩⟩
section
variable (P:Program)
noncomputable def ur (nx:Nat) (R:Raw) (H:Hp) (op:dD) (K:AV→Hp→Nat→Prop):Prop:=
 match op with
 | .call f args=>cy none R f fun fv=>kE none R args fun as=>match fv with
  | .fn (.func g) first caps=>od (first++as++caps) fun as=>jF P g as H nx K
  | .fn (.method nm) [.ll t v] []=>od as fun as=>KS P t v nm as H nx K
  |_=>False
 |op=>oP none H R nx op fun r u=>K r (cw H u) (nx+1)
noncomputable def l4 (nx:Nat) (g:Bool) (R:Raw) (H:Hp) (op:dD) (K:AV→Prop):Prop:=
 match op with
 | .call f args=>cy (some g) R f fun fv=>kE (some g) R args fun as=>match fv with
  | .fn (.func q) first caps=>od (first++as++caps) fun as=>n0 P g q as H nx K
  |_=>False
 |op=>oP (some g) H R nx op fun r u=>match u with
  |none=>K r
  |some _=>False
abbrev yo:=Nat→Ov→Fr→Hp→(Ov→Hp→Nat→Prop)→Prop
def uw (nx:Nat) (ov:Ov) (_:Fr) (H:Hp) (K:Ov→Hp→Nat→Prop):Prop:=K ov H nx
noncomputable def oZ (g:hX) (_:List hX) (ih:yo) (nx:Nat) (ov:Ov) (fr:Fr) (H:Hp) (K:Ov→Hp→Nat→Prop):Prop:=match g.guard with
 |none=>ur P nx (fI ov fr) H g.op fun r H' nx'=>ih nx' (gn ov g.dst none r) fr H' K
 |some (d,want)=>match oh ov fr d with
  |(none, .sc (.bool t))=>da t want (ur P nx (fI ov fr) H g.op fun r H' nx'=>ih nx' (gn ov g.dst none r) fr H' K) (ih (nx+1) (gn ov g.dst none (.sc undef)) fr H K)
   (match want with
    |true=>l4 P nx t (fI ov fr) H g.op fun r=>ih (nx+1) (gn ov g.dst (some t) r) fr H K
    |false=>l4 P nx (!t) (fI ov fr) H g.op fun r=>ih (nx+1) (gn ov g.dst (some !t) r) fr H K)
  |(some q, .sc (.bool t))=>(match want with
   |true=>l4 P nx (q&&t) (fI ov fr) H g.op fun r=>ih (nx+1) (gn ov g.dst (some (q&&t)) r) fr H K
   |false=>l4 P nx (q&& !t) (fI ov fr) H g.op fun r=>ih (nx+1) (gn ov g.dst (some (q&& !t)) r) fr H K)
  |(none, .sc (.tuple _))=>ih (nx+1) (gn ov g.dst none (.sc undef)) fr H K
  |_=>False
noncomputable def zZ (nx:Nat) (gs:List hX) (ov:Ov) (fr:Fr) (H:Hp) (K:Ov→Hp→Nat→Prop):Prop:=List.rec (motive:=fun _=>yo) uw (oZ P) gs nx ov fr H K
def AI (R:Raw) (op:dD):List Nat:=if op.rd then op.eV.flatMap (fun x=>jD (R x).2) else[]
noncomputable def mu (id:Nat) (R:Raw) (H:Hp) (op:dD) (K:AV→Option (Nat×eP)→List Nat→Prop):Prop:=
 match op with
 | .call f args=>cy none R f fun fv=>kE none R args fun as=>match fv with
  | .fn (.func g) first caps=>od (first++as++caps) fun as=>lK P id g as H K
  |_=>False
 |op=>oP none H R id op fun r u=>K r u (AI R op)
noncomputable def iy (id:Nat) (g:Bool) (R:Raw) (H:Hp) (op:dD) (K:AV→List Nat→Prop):Prop:=
 match op with
 | .call f args=>cy (some g) R f fun fv=>kE (some g) R args fun as=>match fv with
  | .fn (.func q) first caps=>od (first++as++caps) fun as=>qS P g id q as H K
  |_=>False
 |op=>oP (some g) H R id op fun r u=>match u with
  |none=>K r (AI R op)
  |some _=>False
abbrev L8:=Nat→Ov→Fr→Hp→Tr→(Ov→Hp→Tr→Prop)→Prop
def BT (_:Nat) (ov:Ov) (_:Fr) (H:Hp) (tr:Tr) (K:Ov→Hp→Tr→Prop):Prop:=K ov H tr
noncomputable def n9 (g:hX) (_:List hX) (ih:L8) (id:Nat) (ov:Ov) (fr:Fr) (H:Hp) (tr:Tr) (K:Ov→Hp→Tr→Prop):Prop:=match g.guard with
 |none=>mu P id (fI ov fr) H g.op fun r u S=>ih (id+1) (gn ov g.dst none r) fr (cw H u) (tr++[(S,u.map (·.1))]) K
 |some (d,want)=>match oh ov fr d with
  |(none, .sc (.bool t))=>da t want (mu P id (fI ov fr) H g.op fun r u S=>ih (id+1) (gn ov g.dst none r) fr (cw H u) (tr++[(S,u.map (·.1))]) K) (ih (id+1) (gn ov g.dst none (.sc undef)) fr H (tr++[([],none)]) K)
   (match want with
    |true=>iy P id t (fI ov fr) H g.op fun r S=>ih (id+1) (gn ov g.dst (some t) r) fr H (tr++[(S,none)]) K
    |false=>iy P id (!t) (fI ov fr) H g.op fun r S=>ih (id+1) (gn ov g.dst (some !t) r) fr H (tr++[(S,none)]) K)
  |(some q, .sc (.bool t))=>(match want with
   |true=>iy P id (q&&t) (fI ov fr) H g.op fun r S=>ih (id+1) (gn ov g.dst (some (q&&t)) r) fr H (tr++[(S,none)]) K
   |false=>iy P id (q&& !t) (fI ov fr) H g.op fun r S=>ih (id+1) (gn ov g.dst (some (q&& !t)) r) fr H (tr++[(S,none)]) K)
  |(none, .sc (.tuple _))=>ih (id+1) (gn ov g.dst none (.sc undef)) fr H (tr++[([],none)]) K
  |_=>False
noncomputable def WD (id:Nat) (gs:List hX) (ov:Ov) (fr:Fr) (H:Hp) (tr:Tr) (K:Ov→Hp→Tr→Prop):Prop:=List.rec (motive:=fun _=>L8) BT (n9 P) gs id ov fr H tr K
noncomputable def J3 (S:List Nat):(List Nat→Prop)→Prop:=List.rec (motive:=fun _=>(List Nat→Prop)→Prop) (fun K=>K []) (fun b _ ih K=>ih fun S'=>K (b::S')) S
theorem yD:∀(S:List Nat) (K:List Nat→Prop),J3 S K=K S
 |[],_=>rfl
 |b::S,K=>yD S fun S'=>K (b::S')
def uW (u:Option (Nat×eP)) (K:Option Nat→Prop):Prop:=match u with
 |none=>K none
 |some (b,_)=>K (some b)
theorem LY (u:Option (Nat×eP)) (K:Option Nat→Prop):uW u K=K (u.map (·.1)):=by
 cases u<;>rfl
noncomputable def tv (g:hX) (_:List hX) (ih:L8) (id:Nat) (ov:Ov) (fr:Fr) (H:Hp) (tr:Tr) (K:Ov→Hp→Tr→Prop):Prop:=match g.guard with
 |none=>mu P id (fI ov fr) H g.op fun r u S=>J3 S fun S=>uW u fun x=>ih (id+1) (gn ov g.dst none r) fr (cw H u) ((S,x)::tr) K
 |some (d,want)=>match oh ov fr d with
  |(none, .sc (.bool t))=>da t want (mu P id (fI ov fr) H g.op fun r u S=>J3 S fun S=>uW u fun x=>ih (id+1) (gn ov g.dst none r) fr (cw H u) ((S,x)::tr) K) (ih (id+1) (gn ov g.dst none (.sc undef)) fr H (([],none)::tr) K)
   (match want with
    |true=>iy P id t (fI ov fr) H g.op fun r S=>J3 S fun S=>ih (id+1) (gn ov g.dst (some t) r) fr H ((S,none)::tr) K
    |false=>iy P id (!t) (fI ov fr) H g.op fun r S=>J3 S fun S=>ih (id+1) (gn ov g.dst (some !t) r) fr H ((S,none)::tr) K)
  |(some q, .sc (.bool t))=>(match want with
   |true=>iy P id (q&&t) (fI ov fr) H g.op fun r S=>J3 S fun S=>ih (id+1) (gn ov g.dst (some (q&&t)) r) fr H ((S,none)::tr) K
   |false=>iy P id (q&& !t) (fI ov fr) H g.op fun r S=>J3 S fun S=>ih (id+1) (gn ov g.dst (some (q&& !t)) r) fr H ((S,none)::tr) K)
  |(none, .sc (.tuple _))=>ih (id+1) (gn ov g.dst none (.sc undef)) fr H (([],none)::tr) K
  |_=>False
noncomputable def WE (id:Nat) (gs:List hX) (ov:Ov) (fr:Fr) (H:Hp) (tr:Tr) (K:Ov→Hp→Tr→Prop):Prop:=List.rec (motive:=fun _=>L8) BT (tv P) gs id ov fr H tr K
theorem uq:∀(gs:List hX) (id:Nat) (ov:Ov) (fr:Fr) (H:Hp) (tr:Tr) (K:Ov→Hp→Tr→Prop),WE P id gs ov fr H tr K=WD P id gs ov fr H tr.reverse fun ov H t=>K ov H t.reverse
 |[],id,ov,fr,H,tr,K=>by
  show K ov H tr=K ov H tr.reverse.reverse
  rw[List.reverse_reverse]
 |g::gs,id,ov,fr,H,tr,K=>by
  have ih:=uq gs
  show tv P g gs (fun id ov fr H tr K=>WE P id gs ov fr H tr K) id ov fr H tr K=n9 P g gs (fun id ov fr H tr K=>WD P id gs ov fr H tr K) id ov fr H tr.reverse fun ov H t=>K ov H t.reverse
  simp only[tv,n9,yD,LY,ih,List.reverse_cons]
noncomputable def G4 (s:tu) (_:List tu) (ih:yo) (nx:Nat) (ov:Ov) (fr:Fr) (H:Hp) (K:Ov→Hp→Nat→Prop):Prop:=match s.ops with
 |[g]=>zZ P nx [g] ov fr H fun ov' H' nx'=>ih nx' ov' fr H' K
 |gs=>WE P nx gs ov fr H [] fun ov' H' tr=>(match s.ps with
  |[]=>ih (nx+gs.length) ov' fr H' K
  |p::ps=>Ask (iM tr.reverse (p::ps))∧ih (nx+gs.length) ov' fr H' K)
noncomputable def WS (nx:Nat) (segs:List tu) (ov:Ov) (fr:Fr) (H:Hp) (K:Ov→Hp→Nat→Prop):Prop:=List.rec (motive:=fun _=>yo) uw (G4 P) segs nx ov fr H K
structure iX (n lo:Nat) (x:LC) (fr:Fr) (H:Hp) (nx:Nat) (Q:QT):Prop where
 ok:WL P n lo (.loop x) fr H nx Q
abbrev WT:=Fr→Hp→Nat→QT→Prop
def JF (fr:Fr) (H:Hp) (nx:Nat) (Q:QT):Prop:=Q .normal fr H nx
noncomputable def BU (gs:List hX) (fr:Fr) (H:Hp) (nx:Nat) (Q:QT):Prop:=zZ P nx gs [] fr H fun ov H' nx'=>Q .normal (hO ov fr) H' nx'
structure kg (segs:List tu) (fr:Fr) (H:Hp) (nx:Nat) (Q:QT):Prop where
 ok:∀n lo,WL P n lo (.drawn segs) fr H nx Q
def G6 (segs:List tu) (fr:Fr) (H:Hp) (nx:Nat) (Q:QT):Prop:=kg P segs fr H nx Q
def KU (_ _:LC) (ia ib:WT) (fr:Fr) (H:Hp) (nx:Nat) (Q:QT):Prop:=ia fr H nx (j9 (fun fr H nx=>ib fr H nx Q) Q)
def xO (c:eA) (_ _:LC) (ia ib:WT) (fr:Fr) (H:Hp) (nx:Nat) (Q:QT):Prop:=match ev fr c with
 | .sc (.bool t)=>fU t (ia fr H nx Q) (ib fr H nx Q)
 | .ab=>ia fr H nx Q∧ib fr H nx Q
 |_=>False
def G5 (id:Nat) (_:LC) (ia:WT) (fr:Fr) (H:Hp) (nx:Nat) (Q:QT):Prop:=ia fr H nx (uD id Q)
def JE (n lo:Nat) (a:LC) (_:WT) (fr:Fr) (H:Hp) (nx:Nat) (Q:QT):Prop:=iX P n lo a fr H nx Q
def JD (id:Nat) (fr:Fr) (H:Hp) (nx:Nat) (Q:QT):Prop:=Q (.exit id) fr H nx
def KT (fr:Fr) (H:Hp) (nx:Nat) (Q:QT):Prop:=Q .ret fr H nx
noncomputable def W (n lo:Nat) (lc:LC):WT:=LC.rec (motive:=fun _=>WT) JF (BU P) (G6 P) KU xO G5 (JE P n lo) JD KT lc
end
section
variable {P:Program}
theorem pL {nx:Nat} {ov:Ov} {f fr:Fr} {H:Hp} {op:dD} {K:AV→Hp→Nat→Prop} (hF:oY f ov fr) (h:ur P nx (fI ov fr) H op K):fB P nx f H op K:=by
 by_cases hc:∃g as,op= .call g as
 ·obtain⟨fo,as,rfl⟩:=hc
  simp only[ur] at h
  obtain⟨h1,h2⟩:=cK h
  obtain⟨h3,h4⟩:=fK h2
  simp only[fB]
  rw[hF.raw fo (h1 trivial),ko (R:=fI ov fr) fun x hx=>hF.raw x (h3 trivial x hx)]
  split at h4
  ·rename_i he
   rw[he]
   rw[jV] at h4
   exact h4.ok
  ·rename_i he
   rw[he]
   rw[jV] at h4
   exact h4.ok
  ·exact h4.elim
 ·have e1:ur P nx (fI ov fr) H op K=oP none H (fI ov fr) nx op fun r u=>K r (cw H u) (nx+1):=by cases op<;>first|rfl|exact absurd ⟨_,_,rfl⟩ hc
  have e2:fB P nx f H op K=je (cA nx f H op) fun p=>K p.1 (cw H p.2) (nx+1):=by cases op<;>first|rfl|exact absurd ⟨_,_,rfl⟩ hc
  rw[e1] at h
  obtain⟨r,u,h1,h2⟩:=jx h
  rw[e2,(h2 trivial).2 f fun x hx=>hF.raw x hx]
  exact h1
theorem tx {nx:Nat} {g:Bool} {ov:Ov} {fr:Fr} {H:Hp} {op:dD} {K:AV→Prop} (h:l4 P nx g (fI ov fr) H op K):
 ∃r,K r∧(g=true→∀f,oY f ov fr→∀K':AV→Hp→Nat→Prop,K' r H (nx+1)→fB P nx f H op K'):=by
 by_cases hc:∃g as,op= .call g as
 ·obtain⟨fo,as,rfl⟩:=hc
  simp only[l4] at h
  obtain⟨h1,h2⟩:=cK h
  obtain⟨h3,h4⟩:=fK h2
  split at h4
  ·rename_i he
   rw[jV] at h4
   obtain⟨r,h5,h6⟩:=h4.ok
   refine⟨r,h6,fun hg f hF K' hK'=> ?_⟩
   simp only[fB]
   rw[hF.raw fo (h1 hg),ko (R:=fI ov fr) fun x hx=>hF.raw x (h3 hg x hx),he]
   exact h5 hg K' hK'
  ·exact h4.elim
 ·have e1:l4 P nx g (fI ov fr) H op K=oP (some g) H (fI ov fr) nx op fun r u=>match u with|none=>K r|some _=>False:=by cases op<;>first|rfl|exact absurd ⟨_,_,rfl⟩ hc
  rw[e1] at h
  obtain⟨r,u,h1,h2⟩:=jx h
  cases u with
  |some p=>exact h1.elim
  |none=>
   refine⟨r,h1,fun hg f hF K' hK'=> ?_⟩
   have e2:fB P nx f H op K'=je (cA nx f H op) fun p=>K' p.1 (cw H p.2) (nx+1):=by cases op<;>first|rfl|exact absurd ⟨_,_,rfl⟩ hc
   rw[e2,(h2 hg).2 f fun x hx=>hF.raw x hx]
   exact hK'
theorem fe:∀{gs:List hX} {nx:Nat} {ov:Ov} {f fr:Fr} {H:Hp} {K:Ov→Hp→Nat→Prop},oY f ov fr→zZ P nx gs ov fr H K→eY P nx gs f H (fun f1 H1 nx1=>∃ov1,oY f1 ov1 fr∧K ov1 H1 nx1)
 |[],nx,ov,f,fr,H,K,hF,h=>⟨ov,hF,h⟩
 |g::gs,nx,ov,f,fr,H,K,hF,h=>by
  have join:∀{q t:Bool} {d:Nat} {want:Bool},g.guard=some (d,want)→(q=true→cZ f d= .sc (.bool t))→(q=false→cZ f d= .sc undef)→∀{gg:Bool},(gg=true↔(q=true∧t=want))→
   (l4 P nx gg (fI ov fr) H g.op fun r=>zZ P (nx+1) gs (gn ov g.dst (some gg) r) fr H K)→eY P nx (g::gs) f H (fun f1 H1 nx1=>∃ov1,oY f1 ov1 fr∧K ov1 H1 nx1):=by
   intro q t d want hg hq1 hq2 gg hgg hJ
   obtain⟨r,h1,h2⟩:=tx hJ
   simp only[eY,hg,ct]
   cases q with
   |true=>
    simp only[hq1 rfl]
    by_cases ht:t=want
    ·rw[if_pos ht]
     have hgt:=hgg.2 ⟨rfl,ht⟩
     exact h2 hgt f hF _ (fe (hF.ra g.dst (u:=r) (fun _=>rfl) fun h=>by rw[hgt] at h;cases h) h1)
    ·rw[if_neg ht]
     have hgf:gg=false:=by cases hgg':gg<;>simp_all
     exact fe (hF.ra g.dst (u:= .sc undef) (fun h=>by rw[hgf] at h;cases h) fun _=>rfl) h1
   |false=>
    simp only[hq2 rfl]
    have hgf:gg=false:=by cases hgg':gg<;>simp_all
    have:=fe (hF.ra g.dst (u:= .sc undef) (q:=gg) (fun h=>by rw[hgf] at h;cases h) fun _=>rfl) h1
    exact this
  have h:oZ P g gs (fun nx ov fr H K=>zZ P nx gs ov fr H K) nx ov fr H K:=h
  simp only[oZ] at h
  split at h
  ·rename_i hg
   simp only[eY,hg,ct]
   exact(pL hF h).mono fun r H' nx' hh=>fe (hF.put g.dst r) hh
  ·rename_i d want hg
   have hd:=hF d
   split at h
   ·rename_i t he
    rw[he] at hd
    simp only at hd
    rcases h.ok with⟨hA,hB⟩|hJ
    ·simp only[eY,hg,ct,hd]
     by_cases ht:t=want
     ·rw[if_pos ht]
      exact(pL hF (hA ht)).mono fun r H' nx' hh=>fe (hF.put g.dst r) hh
     ·rw[if_neg ht]
      exact fe (hF.put g.dst _) (hB ht)
    ·cases want with
     |true=>exact join (q:=true) hg (fun _=>hd) (fun h=>by cases h) (gg:=t) (by simp) hJ
     |false=>exact join (q:=true) hg (fun _=>hd) (fun h=>by cases h) (gg:= !t) (by simp) hJ
   ·rename_i q t he
    rw[he] at hd
    simp only at hd
    cases want with
    |true=>exact join hg hd.1 hd.2 (gg:=q&&t) (by simp) h
    |false=>exact join hg hd.1 hd.2 (gg:=q&& !t) (by simp) h
   ·rename_i v he
    rw[he] at hd
    simp only at hd
    simp only[eY,hg,ct,hd]
    exact fe (hF.put g.dst _) h
   ·exact h.elim
def zY:Tr→Tr→Prop
 |[],[]=>True
 |a::r,b::s=>(∀x∈a.1,x∈b.1)∧a.2=b.2∧zY r s
 |_,_=>False
theorem zY.snoc {a b:List Nat} {u:Option Nat} (h1:∀x∈a,x∈b):∀{r s:Tr},zY r s→zY (r++[(a,u)]) (s++[(b,u)])
 |[],[],_=>⟨h1,rfl,trivial⟩
 |x::r,y::s,h=>⟨h.1,h.2.1,zY.snoc h1 h.2.2⟩
 |[],_::_,h=>h.elim
 |_::_,[],h=>h.elim
theorem zY.get:∀{r s:Tr},zY r s→∀k,(∀x∈(r.getD k ([],none)).1,x∈(s.getD k ([],none)).1)∧(r.getD k ([],none)).2=(s.getD k ([],none)).2
 |[],[],_,k=>by simp
 |x::r,y::s,h,0=>⟨h.1,h.2.1⟩
 |x::r,y::s,h,k+1=>by simpa using zY.get h.2.2 k
 |[],_::_,h,_=>h.elim
 |_::_,[],h,_=>h.elim
theorem zY.zA {r s:Tr} (h:zY r s) {ps:List (Nat×Nat)} (hf:iM s ps):iM r ps:=by
 intro p hp
 obtain⟨h1,h2,h3⟩:=hf p hp
 obtain⟨a1,a2⟩:=h.get p.1
 obtain⟨b1,b2⟩:=h.get p.2
 exact⟨fun b hb hm=>h1 b (by rw[←a2];exact hb) (b1 b hm),fun b hb hm=>h2 b (by rw[←b2];exact hb) (a1 b hm),fun b hb=>h3 b ⟨by rw[←a2];exact hb.1,by rw[←b2];exact hb.2⟩⟩
theorem zE {ov:Ov} {f fr:Fr} {op:dD} (hF:oY f ov fr) (h:op.rd=true→∀y∈op.eV,BO (fI ov fr) y):∀x∈ef f op,x∈AI (fI ov fr) op:=by
 intro x hx
 unfold ef at hx
 unfold AI
 split at hx
 ·rename_i hr
  rw[if_pos hr]
  obtain⟨y,hy,hm⟩:=List.mem_flatMap.1 hx
  exact List.mem_flatMap.2 ⟨y,hy,by rw[←hF.raw y (h hr y hy)];exact hm⟩
 ·cases hx
theorem na {id:Nat} {ov:Ov} {fr:Fr} {H:Hp} {op:dD} {K:AV→Option (Nat×eP)→List Nat→Prop} (h:mu P id (fI ov fr) H op K) {f:Fr} (hF:oY f ov fr):
 jh P id f H op (fun r u S'=>∃S,(∀x∈S',x∈S)∧K r u S):=by
 by_cases hc:∃g as,op= .call g as
 ·obtain⟨fo,as,rfl⟩:=hc
  simp only[mu] at h
  obtain⟨h1,h2⟩:=cK h
  obtain⟨h3,h4⟩:=fK h2
  split at h4
  ·rename_i he
   rw[jV] at h4
   obtain⟨r,u,S,h5,h6⟩:=h4.ok
   refine⟨r,u,S, ?_,S,fun _ h=>h,h6⟩
   rw[hF.raw fo (h1 trivial),ko (R:=fI ov fr) fun x hx=>hF.raw x (h3 trivial x hx),he]
   simpa[mc] using h5
  ·exact h4.elim
 ·have e1:mu P id (fI ov fr) H op K=oP none H (fI ov fr) id op fun r u=>K r u (AI (fI ov fr) op):=by cases op<;>first|rfl|exact absurd ⟨_,_,rfl⟩ hc
  rw[e1] at h
  obtain⟨r,u,h1,h2⟩:=jx h
  obtain⟨h3,h4⟩:=h2 trivial
  have e2:∀K',jh P id f H op K'=je (cA id f H op) fun p=>K' p.1 p.2 (ef f op):=by intro K';cases op<;>first|rfl|exact absurd ⟨_,_,rfl⟩ hc
  rw[e2,h4 f fun x hx=>hF.raw x hx]
  exact⟨_,zE hF h3,h1⟩
theorem tw {id:Nat} {g:Bool} {ov:Ov} {fr:Fr} {H:Hp} {op:dD} {K:AV→List Nat→Prop} (h:iy P id g (fI ov fr) H op K):
 ∃r S,K r S∧(g=true→∀f,oY f ov fr→∀K':AV→Option (Nat×eP)→List Nat→Prop,(∀S',(∀x∈S',x∈S)→K' r none S')→jh P id f H op K'):=by
 by_cases hc:∃g as,op= .call g as
 ·obtain⟨fo,as,rfl⟩:=hc
  simp only[iy] at h
  obtain⟨h1,h2⟩:=cK h
  obtain⟨h3,h4⟩:=fK h2
  split at h4
  ·rename_i he
   rw[jV] at h4
   obtain⟨r,S,h5,h6⟩:=h4.ok
   refine⟨r,S,h6,fun hg f hF K' hK'=>⟨r,none,S, ?_,hK' S fun _ h=>h⟩⟩
   rw[hF.raw fo (h1 hg),ko (R:=fI ov fr) fun x hx=>hF.raw x (h3 hg x hx),he]
   simpa[mc] using h5 hg
  ·exact h4.elim
 ·have e1:iy P id g (fI ov fr) H op K=oP (some g) H (fI ov fr) id op fun r u=>match u with|none=>K r (AI (fI ov fr) op)|some _=>False:=by cases op<;>first|rfl|exact absurd ⟨_,_,rfl⟩ hc
  rw[e1] at h
  obtain⟨r,u,h1,h2⟩:=jx h
  cases u with
  |some p=>exact h1.elim
  |none=>
   refine⟨r,_,h1,fun hg f hF K' hK'=> ?_⟩
   obtain⟨h3,h4⟩:=h2 hg
   have e2:jh P id f H op K'=je (cA id f H op) fun p=>K' p.1 p.2 (ef f op):=by cases op<;>first|rfl|exact absurd ⟨_,_,rfl⟩ hc
   rw[e2,h4 f fun x hx=>hF.raw x hx]
   exact hK' _ (zE hF h3)
theorem gC:∀{gs:List hX} {id:Nat} {ov:Ov} {f fr:Fr} {H:Hp} {tr tr':Tr} {K:Ov→Hp→Tr→Prop},oY f ov fr→zY tr' tr→WD P id gs ov fr H tr K→iI P id gs f H tr' (fun f1 H1 tr1=>∃ov1 trj,oY f1 ov1 fr∧zY tr1 trj∧K ov1 H1 trj)
 |[],id,ov,f,fr,H,tr,tr',K,hF,hT,h=>⟨ov,tr,hF,hT,h⟩
 |g::gs,id,ov,f,fr,H,tr,tr',K,hF,hT,h=>by
  have join:∀{q t:Bool} {d:Nat} {want:Bool},g.guard=some (d,want)→(q=true→cZ f d= .sc (.bool t))→(q=false→cZ f d= .sc undef)→∀{gg:Bool},(gg=true↔(q=true∧t=want))→
   (iy P id gg (fI ov fr) H g.op fun r S=>WD P (id+1) gs (gn ov g.dst (some gg) r) fr H (tr++[(S,none)]) K)→iI P id (g::gs) f H tr' (fun f1 H1 tr1=>∃ov1 trj,oY f1 ov1 fr∧zY tr1 trj∧K ov1 H1 trj):=by
   intro q t d want hg hq1 hq2 gg hgg hJ
   obtain⟨r,S,h1,h2⟩:=tw hJ
   simp only[iI,hg,ct]
   cases q with
   |true=>
    simp only[hq1 rfl]
    by_cases ht:t=want
    ·rw[if_pos ht]
     have hgt:=hgg.2 ⟨rfl,ht⟩
     refine h2 hgt f hF _ fun S' hS=> ?_
     exact gC (hF.ra g.dst (u:=r) (fun _=>rfl) fun h=>by rw[hgt] at h;cases h) (hT.snoc hS) h1
    ·rw[if_neg ht]
     have hgf:gg=false:=by cases hgg':gg<;>simp_all
     exact gC (hF.ra g.dst (u:= .sc undef) (fun h=>by rw[hgf] at h;cases h) fun _=>rfl) (hT.snoc (a:=[]) (b:=S) (fun _ h=>by cases h)) h1
   |false=>
    simp only[hq2 rfl]
    have hgf:gg=false:=by cases hgg':gg<;>simp_all
    have:=gC (hF.ra g.dst (u:= .sc undef) (q:=gg) (fun h=>by rw[hgf] at h;cases h) fun _=>rfl) (hT.snoc (a:=[]) (b:=S) (fun _ h=>by cases h)) h1
    exact this
  have h:n9 P g gs (fun id ov fr H tr K=>WD P id gs ov fr H tr K) id ov fr H tr K:=h
  simp only[n9] at h
  split at h
  ·rename_i hg
   simp only[iI,hg,ct]
   refine(na h hF).mono ?_
   rintro r u S' ⟨S,hS,hh⟩
   exact gC (hF.put g.dst r) (hT.snoc hS) hh
  ·rename_i d want hg
   have hd:=hF d
   split at h
   ·rename_i t he
    rw[he] at hd
    simp only at hd
    rcases h.ok with⟨hA,hB⟩|hJ
    ·simp only[iI,hg,ct,hd]
     by_cases ht:t=want
     ·rw[if_pos ht]
      refine(na (hA ht) hF).mono ?_
      rintro r u S' ⟨S,hS,hh⟩
      exact gC (hF.put g.dst r) (hT.snoc hS) hh
     ·rw[if_neg ht]
      exact gC (hF.put g.dst _) (hT.snoc (a:=[]) (b:=[]) (fun _ h=>h)) (hB ht)
    ·cases want with
     |true=>exact join (q:=true) hg (fun _=>hd) (fun h=>by cases h) (gg:=t) (by simp) hJ
     |false=>exact join (q:=true) hg (fun _=>hd) (fun h=>by cases h) (gg:= !t) (by simp) hJ
   ·rename_i q t he
    rw[he] at hd
    simp only at hd
    cases want with
    |true=>exact join hg hd.1 hd.2 (gg:=q&&t) (by simp) h
    |false=>exact join hg hd.1 hd.2 (gg:=q&& !t) (by simp) h
   ·rename_i v he
    rw[he] at hd
    simp only at hd
    simp only[iI,hg,ct,hd]
    exact gC (hF.put g.dst _) (hT.snoc (a:=[]) (b:=[]) (fun _ h=>h)) h
   ·exact h.elim
theorem kM:∀{segs:List tu} {nx:Nat} {ov:Ov} {f fr:Fr} {H:Hp} {K:Ov→Hp→Nat→Prop},oY f ov fr→WS P nx segs ov fr H K→iJ P nx segs f H (fun f1 H1 nx1=>∃ov1,oY f1 ov1 fr∧K ov1 H1 nx1)
 |[],nx,ov,f,fr,H,K,hF,h=>⟨ov,hF,h⟩
 |⟨[g],ps⟩::rest,nx,ov,f,fr,H,K,hF,h=>by
  have h:zZ P nx [g] ov fr H fun ov' H' nx'=>WS P nx' rest ov' fr H' K:=h
  refine eY.mono (K':=fun a b c=>iJ P c rest a b _) (fe hF h) ?_
  rintro f1 H1 nx1 ⟨ov1,h1,h2⟩
  exact kM h1 h2
 |⟨[],[]⟩::rest,nx,ov,f,fr,H,K,hF,h=>by
  have h:WE P nx [] ov fr H [] fun ov' H' _=>WS P (nx+0) rest ov' fr H' K:=h
  rw[uq,List.reverse_nil] at h
  simp only[iJ]
  refine iI.mono (gC hF (tr':=[]) (tr:=[]) trivial h) ?_
  rintro f1 H1 tr1 ⟨ov1,trj,h1,h2,h3⟩
  exact⟨(fun p hp=>by cases hp),kM h1 h3⟩
 |⟨[],p::ps⟩::rest,nx,ov,f,fr,H,K,hF,h=>by
  have h:WE P nx [] ov fr H [] fun ov' H' tr=>Ask (iM tr.reverse (p::ps))∧WS P (nx+0) rest ov' fr H' K:=h
  rw[uq,List.reverse_nil] at h
  simp only[List.reverse_reverse] at h
  simp only[iJ]
  refine iI.mono (gC hF (tr':=[]) (tr:=[]) trivial h) ?_
  rintro f1 H1 tr1 ⟨ov1,trj,h1,h2,h3⟩
  exact⟨h2.zA h3.1.ok,kM h1 h3.2⟩
 |⟨g1::g2::gs,[]⟩::rest,nx,ov,f,fr,H,K,hF,h=>by
  have h:WE P nx (g1::g2::gs) ov fr H [] fun ov' H' _=>WS P (nx+(g1::g2::gs).length) rest ov' fr H' K:=h
  rw[uq,List.reverse_nil] at h
  simp only[iJ]
  refine iI.mono (gC hF (tr':=[]) (tr:=[]) trivial h) ?_
  rintro f1 H1 tr1 ⟨ov1,trj,h1,h2,h3⟩
  exact⟨(fun p hp=>by cases hp),kM h1 h3⟩
 |⟨g1::g2::gs,p::ps⟩::rest,nx,ov,f,fr,H,K,hF,h=>by
  have h:WE P nx (g1::g2::gs) ov fr H [] fun ov' H' tr=>Ask (iM tr.reverse (p::ps))∧WS P (nx+(g1::g2::gs).length) rest ov' fr H' K:=h
  rw[uq,List.reverse_nil] at h
  simp only[List.reverse_reverse] at h
  simp only[iJ]
  refine iI.mono (gC hF (tr':=[]) (tr:=[]) trivial h) ?_
  rintro f1 H1 tr1 ⟨ov1,trj,h1,h2,h3⟩
  exact⟨h2.zA h3.1.ok,kM h1 h3.2⟩
theorem eW.less {w0:World} {M0:Nat→Prop} {c0:Cx} {lo n:Nat} {fr fr':Fr} {H:Hp} {nx:Nat} {a:Act} {w:World} (h:eW w0 M0 c0 lo n fr H nx a w) (hf:∀t,cZ fr' t= .any∨cZ fr' t=cZ fr t):eW w0 M0 c0 lo n fr' H nx a w:=by
 obtain⟨h1,h2,ρ,U,hU,hS,hF,hT⟩:=h
 refine⟨h1,h2,ρ,U,hU,hS,fun t=> ?_,hT⟩
 rcases hf t with h|h
 ·rw[h,VR];trivial
 ·rw[h];exact hF t
theorem WL.less {n lo:Nat} {lc:LC} {fr:Fr} {H:Hp} {nx:Nat} {Q:QT} (h:WL P n lo lc fr H nx (fun e f H nx=>∃f',(∀t,cZ f' t= .any∨cZ f' t=cZ f t)∧Q e f' H nx)):WL P n lo lc fr H nx Q:=
 fun code hc w0 M0 c0 a w hh=>Code.wp_mono (fun _ _ _ ⟨x,f,H,nx,he,⟨f',h1,h2⟩,hhh⟩=>⟨x,f',H,nx,he,h2,hhh.less h1⟩) (h code hc w0 M0 c0 a w hh)
theorem oY.less {f:Fr} {ov:Ov} {fr:Fr} (h:oY f ov fr) (t:Nat):cZ (hO ov fr) t= .any∨cZ (hO ov fr) t=cZ f t:=by
 rcases nD (ov:=ov) (fr:=fr) (t:=t) with h1|⟨v,h1,h2⟩
 ·exact .inl h1
 ·have:=h t
  rw[h1] at this
  exact .inr (h2.trans this.symm)
theorem kg.of {segs:List tu} {fr:Fr} {H:Hp} {nx:Nat} {Q:QT} (h:WS P nx segs [] fr H fun ov H' nx'=>Q .normal (hO ov fr) H' nx'):kg P segs fr H nx Q:=
 ⟨fun _ _=>WL.less (WL.drawn (iJ.mono (kM (oY.refl fr) h) fun _ _ _ ⟨_,h1,h2⟩=>⟨_,h1.less,h2⟩))⟩
theorem gI {n lo:Nat}:∀{lc:LC} {fr:Fr} {H:Hp} {nx:Nat} {Q:QT},W P n lo lc fr H nx Q→WL P n lo lc fr H nx Q
 | .skip,_,_,_,_,h=>WL.skip h
 | .ret,_,_,_,_,h=>WL.ret h
 | .exit _,_,_,_,_,h=>WL.exit h
 | .region gs,fr,H,nx,Q,h=>WL.less (WL.region (eY.mono (fe (oY.refl fr) h) fun _ _ _ ⟨_,h1,h2⟩=>⟨_,h1.less,h2⟩))
 | .drawn segs,fr,H,nx,Q,h=>kg.ok (P:=P) h n lo
 | .seq a b,fr,H,nx,Q,h=>WL.seq ((gI (lc:=a) (Q:=j9 (fun fr H nx=>W P n lo b fr H nx Q) Q) h).mono fun e fr H nx hh=>by
  cases e with
  |normal=>exact gI (lc:=b) hh
  |exit id=>exact hh
  |ret=>exact hh)
 | .cond c a b,fr,H,nx,Q,h=>by
  have h:xO c a b (W P n lo a) (W P n lo b) fr H nx Q:=h
  simp only[xO] at h
  split at h
  ·rename_i t ht
   exact WL.cond ht (fun h1=>gI (lc:=a) (h.ok.1 h1)) (fun h1=>gI (lc:=b) (h.ok.2 h1))
  ·rename_i ht
   exact WL.JI ht (gI (lc:=a) h.1) (gI (lc:=b) h.2)
  ·exact h.elim
 | .block id a,fr,H,nx,Q,h=>WL.block (gI (lc:=a) h)
 | .loop a,fr,H,nx,Q,h=>h.ok
theorem iX.inv {n lo:Nat} {x:LC} {fr:Fr} {H:Hp} {nx:Nat} {Q:QT} {σ:Type} (I:σ→Fr→Hp→Nat→Prop) (μ:σ→Nat) (s0:σ) (h0:∃fr',(∀t,cZ fr' t= .any∨cZ fr' t=cZ fr t)∧I s0 fr' H nx)
 (round:∀s fr H nx,I s fr H nx→WL P n lo x fr H nx (j9 (fun fr' H' nx'=>∃s',μ s'<μ s∧∃fr2,(∀t,cZ fr2 t= .any∨cZ fr2 t=cZ fr' t)∧I s' fr2 H' nx') Q)):iX P n lo x fr H nx Q:=by
 refine⟨fun code hc w0 M0 c0 a w hh=> ?_⟩
 have:∃c1,code= .loop c1∧cc P n c1=some x:=by
  cases code<;>simp only[cc] at hc
  case loop c1=>
   simp only[Option.map_eq_some_iff,LC.loop.injEq] at hc
   obtain⟨x',h1,rfl⟩:=hc
   exact⟨c1,rfl,h1⟩
  all_goals (exfalso;repeat' (split at hc))<;>simp at hc
 obtain⟨c1,rfl,h1⟩:=this
 intro b k cs
 have key:∀m,∀s,μ s=m→∀fr H nx,I s fr H nx→∀a w,eW w0 M0 c0 lo n fr H nx a w→
  ∃e a' w',LQ w0 M0 c0 lo n Q e a' w'∧Arrives P (lone (b.at a (.code c1:: .inLoop c1::k)) cs w) b k cs e a' w':=by
  intro m
  induction m using Nat.strongRecOn with
  |_ m ih=>
   intro s hs fr H nx hI a w hh
   obtain⟨e,a1,w1,hq,harr⟩:=round s fr H nx hI c1 h1 w0 M0 c0 a w hh b (.inLoop c1::k) cs
   obtain⟨x',fr',H',nx',rfl,hQ,hh'⟩:=hq
   cases x' with
   |normal=>
    obtain⟨s',hlt,fr2,hless,hI'⟩:=hQ
    obtain⟨e2,a2,w2,hq2,harr2⟩:=ih (μ s') (by omega) s' rfl fr2 H' nx' hI' a1 w1 (hh'.less hless)
    exact⟨e2,a2,w2,hq2, .of_steps (Steps.trans harr (.one step_inLoop)) harr2⟩
   |exit id=>exact⟨_,a1,w1,⟨.exit id,fr',H',nx',rfl,hQ,hh'⟩, .pass (x:= .inLoop c1) rfl (fun _ _=> .inl (by simp[Ex.to])) harr⟩
   |ret=>exact⟨_,a1,w1,⟨.ret,fr',H',nx',rfl,hQ,hh'⟩, .pass (x:= .inLoop c1) rfl (fun _ _=> .inl (by simp[Ex.to])) harr⟩
 obtain⟨fr',hless,hI⟩:=h0
 obtain⟨e,a',w',hq,harr⟩:=key _ s0 rfl fr' H nx hI a w (hh.less hless)
 exact⟨e,a',w',hq, .of_steps (.one step_loop) harr⟩
def ln (fr:Fr):Fr→Prop
 |[]=>True
 |(t,v)::r=>cZ fr t=v∧ln fr r
theorem iP {fr:Fr}:∀{fr':Fr},ln fr fr'→∀t,cZ fr' t= .any∨cZ fr' t=cZ fr t
 |[],_,t=> .inl rfl
 |(d,v)::r,h,t=>by
  simp only[cZ]
  by_cases ht:t=d
  ·subst ht;rw[if_pos rfl];exact .inr h.1.symm
  ·rw[if_neg ht];exact iP h.2 t
theorem iX.fr {n lo:Nat} {x:LC} {fr:Fr} {H:Hp} {nx:Nat} {Q:QT} {σ:Type} (F:σ→Fr) (I:σ→Hp→Nat→Prop) (μ:σ→Nat) (s0:σ) (h0:ln fr (F s0)) (h1:I s0 H nx)
 (round:∀s H nx,I s H nx→W P n lo x (F s) H nx (j9 (fun fr' H' nx'=>∃s',μ s'<μ s∧ln fr' (F s')∧I s' H' nx') Q)):iX P n lo x fr H nx Q:=by
 refine iX.inv (fun s fr H nx=>fr=F s∧I s H nx) μ s0 ⟨F s0,iP h0,rfl,h1⟩ ?_
 rintro s fr H nx ⟨rfl,hI⟩
 refine(gI (round s H nx hI)).mono ?_
 intro e fr' H' nx' hh
 cases e with
 |normal=>
  obtain⟨s',h2,h3,h4⟩:=hh
  exact⟨s',h2,F s',iP h3,rfl,h4⟩
 |exit id=>exact hh
 |ret=>exact hh
end
end Go.ch
end
