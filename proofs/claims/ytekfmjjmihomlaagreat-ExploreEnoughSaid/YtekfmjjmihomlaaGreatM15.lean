import Derived.Test.YtekfmjjmihomlaaGreatM9
section
/- A run by reduction alone: the code is walked by the reducer; what is to be shown stands out as questions. -/
set_option linter.unusedSimpArgs false
set_option linter.unusedVariables false
namespace Go.cN
open Go.RowKit
structure Ask (p:Prop):Prop where
 ok:p
def dI:Option Bool→Prop→Prop
 |none,p=>Ask p
 |some g,p=>Ask (g=true→p)
def Gd:Option Bool→Prop
 |none=>True
 |some g=>g=true
theorem cG {g:Option Bool} {p:Prop}:dI g p↔(Gd g→p):=by
 cases g with
 |none=>exact⟨fun h _=>h.ok,fun h=>⟨h trivial⟩⟩
 |some g=>exact⟨fun h=>h.ok,fun h=>⟨h⟩⟩
abbrev Ov:=List (Nat×Option Bool×AV)
def mg:Ov→Fr→Nat→Option Bool×AV
 |[],fr,t=>(none,cJ fr t)
 |(d,c,v)::r,fr,t=>bif Nat.beq t d then(c,v) else mg r fr t
def fN (ov:Ov) (d:Option Nat) (c:Option Bool) (v:AV):Ov:=
 match d with
 |some d=>(d,c,v)::ov
 |none=>ov
def fU:Ov→Fr→Fr
 |[],fr=>fr
 |(d,none,v)::r,fr=>(d,v)::fU r fr
 |(d,some _,_)::r,fr=>(d, .any)::fU r fr
def eE (ov:Ov) (fr:Fr):dO→Option Bool×AV
 | .t n=>mg ov fr n
 | .c v=>(none, .sc v)
 | .f n=>(none, .fn (.func n) [] [])
 | .m nm n=>match mg ov fr n with
  |(g, .jj t v)=>(g, .fn (.method nm) [.jj t v] [])
  |(g,_)=>(g, .any)
theorem ng {t d:Nat} (h:¬t=d):Nat.beq t d=false:=by
 cases hb:Nat.beq t d with
 |false=>rfl
 |true=>exact absurd (Nat.eq_of_beq_eq_true hb) h
def mT (f:Fr) (ov:Ov) (fr:Fr):Prop:=
 ∀t,match mg ov fr t with
  |(none,v)=>cJ f t=v
  |(some q,v)=>(q=true→cJ f t=v)∧(q=false→cJ f t= .sc undef)
theorem mT.refl (fr:Fr):mT fr [] fr:=fun _=>rfl
theorem mT.put {f:Fr} {ov:Ov} {fr:Fr} (h:mT f ov fr) (d:Option Nat) (v:AV):mT (eN f d v) (fN ov d none v) fr:=by
 cases d with
 |none=>exact h
 |some d=>
  intro t
  simp only[fN,eN,mg,cJ]
  by_cases ht:t=d
  ·subst ht;simp
  ·have:Nat.beq t d=false:=ng ht
   rw[this,if_neg ht];exact h t
theorem mT.pI {f:Fr} {ov:Ov} {fr:Fr} (h:mT f ov fr) (d:Option Nat) {q:Bool} {u v:AV} (h1:q=true→u=v) (h2:q=false→u= .sc undef):mT (eN f d u) (fN ov d (some q) v) fr:=by
 cases d with
 |none=>exact h
 |some d=>
  intro t
  simp only[fN,eN,mg,cJ]
  by_cases ht:t=d
  ·subst ht;simpa using⟨h1,h2⟩
  ·have:Nat.beq t d=false:=ng ht
   rw[this,if_neg ht];exact h t
theorem mT.raw {f:Fr} {ov:Ov} {fr:Fr} (h:mT f ov fr) (x:dO) (hq:∀q,(eE ov fr x).1=some q→q=true):ev f x=(eE ov fr x).2:=by
 cases x with
 |t n=>
  have:=h n
  simp only[ev,eE] at hq ⊢
  split at this
  ·rename_i v he;rw[this,he]
  ·rename_i q v he;rw[he] at hq ⊢;exact this.1 (hq q rfl)
 |c v=>rfl
 |f n=>rfl
 |m nm n=>
  have:=h n
  simp only[ev,eE] at hq ⊢
  generalize mg ov fr n=x at this hq ⊢
  obtain⟨g,v⟩:=x
  have hv:cJ f n=v:=by
   cases g with
   |none=>exact this
   |some q=>
    refine this.1 (hq q ?_)
    cases v<;>rfl
  rw[hv]
  cases v<;>rfl
theorem kz {fr:Fr} {t:Nat}:∀{ov:Ov},cJ (fU ov fr) t= .any∨∃v,mg ov fr t=(none,v)∧cJ (fU ov fr) t=v
 |[]=> .inr ⟨_,rfl,rfl⟩
 |(d,none,v)::r=>by
  simp only[fU,cJ,mg]
  by_cases ht:t=d
  ·subst ht;simp
  ·have:Nat.beq t d=false:=ng ht
   rw[this,if_neg ht];exact kz
 |(d,some q,v)::r=>by
  simp only[fU,cJ,mg]
  by_cases ht:t=d
  ·subst ht;simp
  ·have:Nat.beq t d=false:=ng ht
   rw[this,if_neg ht];exact kz
abbrev Raw:=dO→Option Bool×AV
def cj (g:Option Bool) (R:Raw) (x:dO) (K:AV→Prop):Prop:=
 match R x with
 |(none,v)=>K v
 |(some q,v)=>dI g (q=true)∧K v
def zY (R:Raw) (x:dO):Prop:=∀q,(R x).1=some q→q=true
theorem bw {g:Option Bool} {R:Raw} {x:dO} {K:AV→Prop} (h:cj g R x K):(Gd g→zY R x)∧K (R x).2:=by
 unfold cj at h
 split at h
 ·rename_i v he;rw[he];exact⟨fun _ q hq=>(by rw[he] at hq;cases hq),h⟩
 ·rename_i q v he
  rw[he]
  exact⟨fun hg q' hq=>(by rw[he] at hq;cases hq;exact cG.1 h.1 hg),h.2⟩
def vi (K:List AV→Prop):Prop:=K []
def sq (g:Option Bool) (R:Raw) (x:dO) (_:List dO) (ih:(List AV→Prop)→Prop) (K:List AV→Prop):Prop:=cj g R x fun a=>ih fun as=>K (a::as)
noncomputable def iN (g:Option Bool) (R:Raw) (xs:List dO):(List AV→Prop)→Prop:=List.rec (motive:=fun _=>(List AV→Prop)→Prop) vi (sq g R) xs
theorem eG {g:Option Bool} {R:Raw}:∀{xs:List dO} {K:List AV→Prop},iN g R xs K→(Gd g→∀x∈xs,zY R x)∧K (xs.map fun x=>(R x).2)
 |[],K,h=>⟨fun _ _ h=>(by cases h),h⟩
 |x::r,K,h=>by
  obtain⟨h1,h2⟩:=bw h
  obtain⟨h3,h4⟩:=eG h2
  refine⟨fun hg y hy=> ?_,h4⟩
  rcases List.mem_cons.1 hy with rfl|hy
  ·exact h1 hg
  ·exact h3 hg y hy
theorem jL {f:Fr} {R:Raw}:∀{xs:List dO},(∀x∈xs,ev f x=(R x).2)→nH f xs=xs.map fun x=>(R x).2
 |[],_=>rfl
 |x::r,h=>by
  simp only[nH,List.map_cons]
  rw[h x (by simp),jL fun y hy=>h y (by simp[hy])]
def ep (v:AV) (K:AV→Prop):Prop:=
 match v with
 | .sc v=>K (.sc v)
 | .any=>K .any
 | .im a b c=>K (.im a b c)
 | .ip a b c d e=>K (.ip a b c d e)
 | .sl a b=>K (.sl a b)
 | .pt a b c d=>K (.pt a b c d)
 | .zc=>K .zc
 | .agg a=>K (.agg a)
 | .da a=>K (.da a)
 | .fn a b c=>K (.fn a b c)
 | .jj a b=>K (.jj a b)
 | .mp a=>K (.mp a)
 | .ab=>K .ab
 | .sv a b c d=>K (.sv a b c d)
theorem eD (v:AV) (K:AV→Prop):ep v K=K v:=by cases v<;>rfl
def vm (K:List AV→Prop):Prop:=K []
def sx (a:AV) (_:List AV) (ih:(List AV→Prop)→Prop) (K:List AV→Prop):Prop:=ih fun r'=>K (a::r')
noncomputable def mf (l:List AV):(List AV→Prop)→Prop:=List.rec (motive:=fun _=>(List AV→Prop)→Prop) vm sx l
theorem fk:∀(l:List AV) (K:List AV→Prop),mf l K=K l
 |[],_=>rfl
 |a::r,K=>fk r fun r'=>K (a::r')
structure fF (H:Hp) (b:Nat) (K:TypeId→Nat→AV→List AV→Prop):Prop where
 ok:∃e sz d es,bd H b=some (.row e sz d es)∧K e sz d es
theorem fF.of {H:Hp} {b:Nat} {K:TypeId→Nat→AV→List AV→Prop} {e:TypeId} {sz:Nat} {d:AV} {es:List AV} (h:bd H b=some (.row e sz d es)) (k:K e sz d es):fF H b K:=⟨⟨e,sz,d,es,h,k⟩⟩
structure mS (es:List AV) (i:Nat) (d:AV) (K:AV→Prop):Prop where
 ok:K (es.getD i d)
theorem mS.of {es:List AV} {i:Nat} {d:AV} {K:AV→Prop} {e:AV} (h:es.getD i d=e) (k:K e):mS es i d K:=⟨by rw[h];exact k⟩
structure hP {α:Type} (x:Option α) (K:α→Prop):Prop where
 ok:∃a,x=some a∧K a
theorem hP.of {α:Type} {x:Option α} {K:α→Prop} {a:α} (h:x=some a) (k:K a):hP x K:=⟨⟨a,h,k⟩⟩
structure gh {α:Type} (g:Option Bool) (x:Option α) (K:α→Prop):Prop where
 ok:∃a,(Gd g→x=some a)∧K a
theorem gh.of {α:Type} {g:Option Bool} {x:Option α} {K:α→Prop} {a:α} (h:Gd g→x=some a) (k:K a):gh g x K:=⟨⟨a,h,k⟩⟩
structure nC (H:Hp) (b:Nat) (K:TypeId→AV→List AV→Prop):Prop where
 ok:∃e d es,bd H b=some (.row e 0 d (mapA es))∧K e d es
theorem nC.of {H:Hp} {b:Nat} {K:TypeId→AV→List AV→Prop} {e:TypeId} {d:AV} {es:List AV} (h:bd H b=some (.row e 0 d (mapA es))) (k:K e d es):nC H b K:=⟨⟨e,d,es,h,k⟩⟩
def yS (H:Hp) (v:AV) (K:Nat→TypeId→AV→List AV→Prop):Prop:=
 match v with
 | .mp b=>nC H b (K b)
 |_=>False
theorem jE {H:Hp} {v:AV} {K:Nat→TypeId→AV→List AV→Prop} (h:yS H v K):∃b e d es,mapOf H v=some (b,e,d,es)∧K b e d es:=by
 cases v<;>simp only[yS] at h
 obtain⟨e,d,es,h1,h2⟩:=h.ok
 exact⟨_,e,d,es,by simp only[mapOf,h1,mapA],h2⟩
structure pW (g:Option Bool) (k:IntKind) (n:Int) (K:Int→Prop):Prop where
 ok:∃m,(Gd g→k.wrap n=m)∧K m
theorem pW.of {g:Option Bool} {k:IntKind} {n:Int} {K:Int→Prop} {m:Int} (h:Gd g→k.wrap n=m) (hK:K m):pW g k n K:=⟨⟨m,h,hK⟩⟩
section
variable (g:Option Bool) (H:Hp)
def MH (ag:Bool) (k:Nat) (e:AV) (sz off:Nat) (K:AV→Prop):Prop:=
 match ag with
 |true=>match e with
  | .agg cs=>bif Nat.beq off 0&&Nat.beq k sz then K (.agg cs) else dI g (off+k≤cs.length)∧K (.agg ((cs.drop off).take k))
  |_=>False
 |false=>match e with
  | .agg cs=>mS cs off .any fun v=>ep v K
  | .any=>K .any
  |e=>bif one e then ep e K else False
def lookW (v:AV) (K:Nat→AV→Nat→Prop):Prop:=
 match v with
 | .ip sz d es i off=>mS es i d fun e=>K sz e off
 | .pt b len i off=>fF H b fun _ sz d es=>dI g (es.length=len)∧mS es i d fun e=>K sz e off
 |_=>False
def oW (k:Nat) (v:AV) (K:List AV→Prop):Prop:=
 match v with
 | .im sz _ es=>bif Nat.beq sz k then K es else False
 | .sl b len=>fF H b fun _ sz _ es=>dI g (es.length=len∧sz=k)∧K es
 | .sc (.slice none 0 0)=>K []
 | .zc=>K []
 | .sv b len lo n=>fF H b fun _ sz _ es=>dI g (es.length=len∧sz=k)∧K ((es.drop lo).take n)
 |_=>False
noncomputable def mM (R:Raw) (id:Nat) (op:cr) (K:AV→Option (Nat×dt)→Prop):Prop:=
 match op with
 | .mv x=>cj g R x fun a=>ep a fun a=>K a none
 | .pick c a b=>cj g R c fun v=>match v with
  | .sc (.bool t)=>
   let rest:=fun(_:Unit)=>ep (mE t (R a).2 (R b).2) fun v=>K v none
   let r2:=fun(_:Unit)=>match(R b).1 with
    |none=>rest ()
    |some q=>dI g (t=false→q=true)∧rest ()
   match(R a).1 with
   |none=>r2 ()
   |some q=>dI g (t=true→q=true)∧r2 ()
  |_=>False
 | .alloc e sz ag z=>dI g (z.length=sz)∧K (.pt id 1 0 0) (some (id, .row e sz (fO ag z) [fO ag z]))
 | .box e sz ag x=>cj g R x fun v=>dI g (fits ag sz v=true)∧K (.pt id 1 0 0) (some (id, .row e sz .any [v]))
 | .JW z parts=>iN g R (parts.map (·.2.2)) fun as=>hP (nI (z.map .sc) (List.zipWith (fun p a=>(p.1,p.2.1,a)) parts as)) fun cs=>K (.agg cs) none
 | .HM e sz ag z n parts=>iN g R (parts.map (·.2)) fun as=>
  dI g (z.length=sz∧(List.zipWith (fun p a=>(p.1,a)) parts as).all (fun p=>decide (p.1<n)&&fits ag sz p.2)=true)∧
  K (.sl id n) (some (id, .row e sz (fO ag z) ((List.zipWith (fun p a=>(p.1,a)) parts as).foldl (fun l p=>l.set p.1 p.2) (List.replicate n (fO ag z)))))
 | .ld ag k x=>cj g R x fun v=>lookW g H v fun sz e off=>MH g ag k e sz off fun r=>K r none
 | .st ag k x y=>cj g R x fun v=>cj g R y fun yv=>match v with
  | .pt b len i off=>fF H b fun e sz d es=>dI g (es.length=len)∧mS es i d fun fJ=>hP (JJ ag k fJ yv sz off) fun e'=>K .any (some (b, .row e sz d (es.set i e')))
  |_=>False
 | .I8 x=>cj g R x fun v=>match v with
  | .pt b len i off=>K (.pt b len i off) none
  | .ip sz d es i off=>K (.ip sz d es i off) none
  | .fn (.func f) p q=>K (.fn (.func f) p q) none
  | .jj t v=>K (.jj t v) none
  |_=>False
 | .bin op x y=>cj g R x fun a=>cj g R y fun b=>match op,a,b with
  | .add, .sc (.int k a), .sc (.int k' b)=>dI g (k=k')∧pW g k (a+b) fun m=>K (.sc (.int k m)) none
  | .sub, .sc (.int k a), .sc (.int k' b)=>dI g (k=k')∧pW g k (a - b) fun m=>K (.sc (.int k m)) none
  | .mul, .sc (.int k a), .sc (.int k' b)=>dI g (k=k')∧pW g k (a * b) fun m=>K (.sc (.int k m)) none
  | .eql, .sc (.int k a), .sc (.int k' b)=>dI g (k=k')∧K (.sc (.bool (decide (a=b)))) none
  | .neq, .sc (.int k a), .sc (.int k' b)=>dI g (k=k')∧K (.sc (.bool (decide (a≠b)))) none
  | .lss, .sc (.int k a), .sc (.int k' b)=>dI g (k=k')∧K (.sc (.bool (decide (a<b)))) none
  | .leq, .sc (.int k a), .sc (.int k' b)=>dI g (k=k')∧K (.sc (.bool (decide (a≤b)))) none
  | .gtr, .sc (.int k a), .sc (.int k' b)=>dI g (k=k')∧K (.sc (.bool (decide (b<a)))) none
  | .geq, .sc (.int k a), .sc (.int k' b)=>dI g (k=k')∧K (.sc (.bool (decide (b≤a)))) none
  | .quo, .sc (.int k a), .sc (.int k' b)=>dI g (k=k'∧b≠0)∧K (.sc (.int k (k.wrap (a.tdiv b)))) none
  | .rem, .sc (.int k a), .sc (.int k' b)=>dI g (k=k'∧b≠0)∧K (.sc (.int k (a.tmod b))) none
  | .and, .sc (.int k a), .sc (.int k' b)=>dI g (k=k')∧K (.sc (.int k (k.wrap (BitVec.ofInt k.bits a&&& BitVec.ofInt k.bits b).toNat))) none
  | .or, .sc (.int k a), .sc (.int k' b)=>dI g (k=k')∧K (.sc (.int k (k.wrap (BitVec.ofInt k.bits a|||BitVec.ofInt k.bits b).toNat))) none
  | .xor, .sc (.int k a), .sc (.int k' b)=>dI g (k=k')∧K (.sc (.int k (k.wrap (BitVec.ofInt k.bits a^^^BitVec.ofInt k.bits b).toNat))) none
  | .andNot, .sc (.int k a), .sc (.int k' b)=>dI g (k=k')∧K (.sc (.int k (k.wrap (BitVec.ofInt k.bits a&&& ~~~(BitVec.ofInt k.bits b)).toNat))) none
  | .shl, .sc (.int k a), .sc (.int _ b)=>dI g (0≤b)∧K (.sc (.int k (k.wrap (a * 2^(min b.toNat k.bits))))) none
  | .shr, .sc (.int k a), .sc (.int _ b)=>dI g (0≤b)∧K (.sc (.int k (a.fdiv (2^(min b.toNat k.bits))))) none
  |_,_,_=>False
 | .JX neg x y=>cj g R x fun a=>cj g R y fun b=>match a,b with
  | .sc (.bool p), .sc (.bool q)=>(match neg with
   |true=>K (.sc (.bool (p != q))) none
   |false=>K (.sc (.bool (p==q))) none)
  |_,_=>False
 | .qJ neg x y=>cj g R x fun a=>cj g R y fun b=>match a,b with
  | .sc (.string p), .sc (.string q)=>(match neg with
   |true=>K (.sc (.bool (p != q))) none
   |false=>K (.sc (.bool (p==q))) none)
  |_,_=>False
 | .y7 op x y=>cj g R x fun a=>cj g R y fun b=>match a,b with
  | .sc (.string p), .sc (.string q)=>(match op with
   | .add=>dI g (p.size+q.size≤9223372036854775807)∧K (.sc (.string (p++q))) none
   | .lss=>K (.sc (.bool (Op.bytesLess p.toList q.toList))) none
   |_=>False)
  |_,_=>False
 | .EK sz ag z x=>cj g R x fun v=>match v with
  | .sv b len lo n=>fF H b fun e s d es=>dI g (es.length=len∧s=sz∧lo+n≤len)∧K (.da []) (some (b, .row e s d (es.take lo++List.replicate n (fO ag z)++es.drop (lo+n))))
  |_=>False
 | .IL x=>cj g R x fun v=>oW g H 1 v fun xs=>gh g (jI xs) fun ns=>K (.sc (.string (G5 ns))) none
 | .un op x=>cj g R x fun a=>match op,a with
  | .not, .sc (.bool b)=>K (.sc (.bool !b)) none
  | .neg, .sc (.int k n)=>pW g k (0 - n) fun m=>K (.sc (.int k m)) none
  |_,_=>False
 | .KE k x=>cj g R x fun a=>match a with
  | .sc (.int _ n)=>pW g k n fun m=>K (.sc (.int k m)) none
  |_=>False
 | .fa off x=>cj g R x fun a=>match a with
  | .ip sz d es i o=>dI g (o+off<sz)∧K (.ip sz d es i (o+off)) none
  | .pt b len i o=>fF H b fun _ sz _ es=>dI g (es.length=len∧o+off<sz)∧K (.pt b len i (o+off)) none
  |_=>False
 | .ia k n x i=>cj g R x fun v=>cj g R i fun iv=>match iv with
  | .sc (.int _ j)=>
   (match n with
    |none=>match v with
     | .im sz d es=>dI g (k=sz)∧dI g (0≤j∧j<es.length)∧K (.ip sz d es j.toNat 0) none
     | .sl b len=>fF H b fun _ sz _ es=>dI g (es.length=len∧k=sz)∧dI g (0≤j∧j<len)∧K (.pt b len j.toNat 0) none
     | .sv b len lo m=>fF H b fun _ sz _ es=>dI g (es.length=len∧k=sz)∧dI g (0≤j∧j<m)∧K (.pt b len (lo+j.toNat) 0) none
     |_=>False
    |some m=>match v with
     | .ip sz d es i off=>dI g (off+m * k≤sz)∧dI g (0≤j∧j<m)∧K (.ip sz d es i (off+j.toNat * k)) none
     | .pt b len i off=>fF H b fun _ sz _ es=>dI g (es.length=len∧off+m * k≤sz)∧dI g (0≤j∧j<m)∧K (.pt b len i (off+j.toNat * k)) none
     |_=>False)
  |_=>False
 | .KK off k ag x=>cj g R x fun v=>match v with
  | .agg cs=>(match ag with
   |true=>dI g (off+k≤cs.length)∧K (.agg ((cs.drop off).take k)) none
   |false=>dI g (off+k≤cs.length∧k=1)∧mS cs off .any fun v=>ep v fun v=>K v none)
  |_=>False
 | .ix k ag n x i=>cj g R x fun v=>cj g R i fun iv=>match v,iv with
  | .agg cs, .sc (.int _ j)=>dI g (n * k=cs.length)∧dI g (0≤j∧j<n)∧(match ag with
   |true=>K (.agg ((cs.drop (j.toNat * k)).take k)) none
   |false=>dI g (k=1)∧mS cs (j.toNat * k) .any fun v=>ep v fun v=>K v none)
  |_,_=>False
 | .KR x i=>cj g R x fun v=>cj g R i fun iv=>match v,iv with
  | .sc (.string s), .sc (.int _ j)=>dI g (0≤j∧j<s.size)∧K (.sc (.int .u8 (s.data.toList.getD j.toNat 0).toNat)) none
  |_,_=>False
 | .lens x=>cj g R x fun v=>match v with
  | .sc (.string s)=>K (.sc (.int .i64 s.size)) none
  |_=>False
 | .I6 e sz bytes ag z l c=>cj g R l fun lv=>cj g R c fun cv=>match lv,cv with
  | .sc (.int _ n), .sc (.int _ m)=>dI g (z.length=sz∧n=m)∧dI g (0≤n∧n * bytes≤281474976710656∧n≤9223372036854775807)∧
   K (.sl id n.toNat) (some (id, .row e sz (fO ag z) (List.replicate n.toNat (fO ag z))))
  |_,_=>False
 | .ext i x=>cj g R x fun v=>match v with
  | .da vs=>dI g (i<vs.length)∧mS vs i .any fun v=>ep v fun v=>K v none
  |_=>False
 | .J1 f first caps=>iN g R first fun a=>iN g R caps fun b=>K (.fn f a b) none
 | .KX t x=>cj g R x fun v=>K (.jj t v) none
 | .len x=>cj g R x fun v=>match v with
  | .im _ _ es=>K (.sc (.int .i64 (es.length:Int))) none
  | .sl b len=>fF H b fun _ _ _ es=>dI g (es.length=len)∧K (.sc (.int .i64 (len:Int))) none
  | .sc (.slice none 0 0)=>K (.sc (.int .i64 0)) none
  | .zc=>K (.sc (.int .i64 0)) none
  | .sv _ _ _ n=>K (.sc (.int .i64 (n:Int))) none
  |_=>False
 | .app e sz bytes ag z s x=>cj g R s fun sv=>cj g R x fun xv=>oW g H sz xv fun xs=>dI g (z.length=sz)∧match sv with
  | .sc (.slice none 0 0)=>dI g (xs.length * bytes≤gD)∧K (.sl id xs.length) (some (id, .row e sz (fO ag z) xs))
  | .sl b len=>fF H b fun e' sz' d es=>dI g (es.length=len∧e'=e∧sz'=sz)∧dI g ((len+xs.length) * bytes≤gD)∧K (.sl b (len+xs.length)) (some (b, .row e sz d (es++xs)))
  |_=>False
 | .AM e bytes z s x=>cj g R s fun sv=>cj g R x fun xv=>match xv with
  | .sc (.string q)=>(match sv with
   | .sc (.slice none 0 0)=>dI g ((bu q).length * bytes≤gD)∧K (.sl id (bu q).length) (some (id, .row e 1 z (bu q)))
   | .sl b len=>fF H b fun e' sz' d es=>dI g (es.length=len∧e'=e∧sz'=1)∧dI g ((len+(bu q).length) * bytes≤gD)∧K (.sl b (len+(bu q).length)) (some (b, .row e 1 d (es++bu q)))
   |_=>False)
  |_=>False
 | .zW neg x=>cj g R x fun v=>match v with
  | .pt _ _ _ _=>K (.sc (.bool neg)) none
  | .ip _ _ _ _ _=>K (.sc (.bool neg)) none
  | .sc (.pointer none)=>K (.sc (.bool !neg)) none
  |_=>False
 | .u0 neg x=>cj g R x fun v=>hP (pE H v) fun t=>ep (nS neg t) fun v=>K v none
 | .eqs neg ks x y=>cj g R x fun a=>cj g R y fun b=>match a,b with
  | .agg as, .agg bs=>hP (A5 ks as bs) fun t=>(match neg with
   |true=>K (.sc (.bool !t)) none
   |false=>K (.sc (.bool t)) none)
  |_,_=>False
 | .JE sz x lo hi=>cj g R x fun v=>iN g R (lo.toList++hi.toList) fun bs=>
  hP (pN H sz (match lo with|some _=>bs[0]?|none=>none) (match hi with|some _=>(match lo with|some _=>bs[1]?|none=>bs[0]?)|none=>none) v) fun r=>ep r fun r=>K r none
 | .ES sz x y=>cj g R x fun xv=>cj g R y fun yv=>match xv with
  | .sl b len=>oW g H sz yv fun xs=>fF H b fun e s d es=>dI g (es.length=len∧s=sz)∧
   K (.sc (.int .i64 (Nat.min xs.length len:Nat))) (some (b, .row e s d (xs.take (Nat.min xs.length len)++es.drop (Nat.min xs.length len))))
  |_=>False
 | .call _ _=>False
 | .HZ kt=>K (.mp id) (some (id, .row kt 0 .any (mapA [])))
 | .F8 str ag z ok x k=>cj g R x fun v=>cj g R k fun kv=>match kv with
  | .sc kv=>yS H v fun _ _ _ es=>dI g (iu str kv=true)∧gh g (ru str kv es (fO ag z)) fun p=>match ok with
   |true=>K (.da [p.1, .sc (.bool p.2)]) none
   |false=>ep p.1 fun v=>K v none
  |_=>False
 | .zx str x k y=>cj g R x fun v=>cj g R k fun kv=>cj g R y fun yv=>match kv with
  | .sc kv=>yS H v fun b e d es=>dI g (iu str kv=true)∧gh g (uX str kv es yv) fun es'=>K .any (some (b, .row e 0 d (mapA es')))
  |_=>False
 | .vy x=>cj g R x fun v=>yS H v fun _ _ _ es=>K (.sc (.int .i64 (es.length:Nat))) none
 | .del str x k=>cj g R x fun v=>cj g R k fun kv=>match kv with
  | .sc kv=>yS H v fun b e d es=>dI g (iu str kv=true)∧gh g (KW str kv es) fun es'=>K (.da []) (some (b, .row e 0 d (mapA es')))
  |_=>False
 | .y6 sz v=>K (.agg (List.replicate sz (.sc v))) none
 | .sY e sz v=>K (.pt id 1 0 0) (some (id, .row e sz (.agg (List.replicate sz (.sc v))) [.agg (List.replicate sz (.sc v))]))
 | .K6 t ok ag z x=>cj g R x fun v=>match v with
  | .jj t' v=>(bif Nat.beq t' t then(match ok with
   |true=>K (.da [v, .sc (.bool true)]) none
   |false=>ep v fun v=>K v none) else(match ok with
   |true=>K (.da [fO ag z, .sc (.bool false)]) none
   |false=>False))
  |_=>False
end
theorem xJ {f:Fr} {R:Raw}:∀{ps:List (Nat×Nat×dO)},(∀x∈ps.map (·.2.2),ev f x=(R x).2)→HT f ps=List.zipWith (fun p a=>(p.1,p.2.1,a)) ps ((ps.map (·.2.2)).map fun x=>(R x).2)
 |[],_=>rfl
 |(i,j,x)::ps,h=>by
  simp only[HT,List.map_cons,List.zipWith_cons_cons]
  rw[h x (by simp),xJ fun y hy=>h y (by simp only[List.map_cons,List.mem_cons];exact .inr hy)]
theorem xL {f:Fr} {R:Raw}:∀{ps:List (Nat×dO)},(∀x∈ps.map (·.2),ev f x=(R x).2)→xK f ps=List.zipWith (fun p a=>(p.1,a)) ps ((ps.map (·.2)).map fun x=>(R x).2)
 |[],_=>rfl
 |(i,x)::ps,h=>by
  simp only[xK,List.map_cons,List.zipWith_cons_cons]
  rw[h x (by simp),xL fun y hy=>h y (by simp only[List.map_cons,List.mem_cons];exact .inr hy)]
theorem zH {g:Option Bool} {ag:Bool} {k:Nat} {e:AV} {sz off:Nat} {K:AV→Prop} (h:MH g ag k e sz off K):∃r,K r∧(Gd g→tQ ag k e sz off=some r):=by
 unfold MH at h
 cases ag with
 |true=>
  simp only at h
  cases e
  case agg cs=>
   simp only at h
   by_cases hb:off=0∧k=sz
   ·have hb':(Nat.beq off 0&&Nat.beq k sz)=true:=by
     obtain⟨rfl,rfl⟩:=hb;simp
    rw[hb'] at h
    exact⟨_,h,fun _=>by simp[tQ,hb.1,hb.2]⟩
   ·have hb':(Nat.beq off 0&&Nat.beq k sz)=false:=by
     cases hc:(Nat.beq off 0&&Nat.beq k sz) with
     |false=>rfl
     |true=>
      rw[Bool.and_eq_true] at hc
      exact absurd ⟨Nat.eq_of_beq_eq_true hc.1,Nat.eq_of_beq_eq_true hc.2⟩ hb
    rw[hb'] at h
    simp only[cond_false] at h
    refine⟨_,h.2,fun hg=> ?_⟩
    have h1:=cG.1 h.1 hg
    simp only[tQ,if_true]
    rw[if_neg hb,if_pos h1]
  all_goals exact h.elim
 |false=>
  have gen:∀e:AV,(bif one e then ep e K else False)→(tQ false k e sz off=if one e then some e else none)→∃r,K r∧(Gd g→tQ false k e sz off=some r):=by
   intro e h1 h2
   cases ho:one e with
   |true=>rw[ho,cond_true,eD] at h1;exact⟨_,h1,fun _=>by rw[h2,ho];rfl⟩
   |false=>rw[ho] at h1;exact h1.elim
  cases e
  case agg cs=>
   simp only at h
   have:=h.ok
   rw[eD] at this
   exact⟨_,this,fun _=>by simp[tQ]⟩
  case any=>exact⟨_,h,fun _=>by simp[tQ]⟩
  all_goals exact gen _ h rfl
theorem uP {g:Option Bool} {H:Hp} {v:AV} {K:Nat→AV→Nat→Prop} (h:lookW g H v K):∃sz e off,K sz e off∧(Gd g→iF H v=some (sz,e,off)):=by
 unfold lookW at h
 split at h
 ·exact⟨_,_,_,h.ok,fun _=>rfl⟩
 ·obtain⟨e,sz,d,es,h1,h2,h3⟩:=h.ok
  refine⟨_,_,_,h3.ok,fun hg=> ?_⟩
  simp only[iF,h1]
  rw[if_pos (cG.1 h2 hg)]
 ·exact h.elim
theorem jK {g:Option Bool} {H:Hp} {k:Nat} {v:AV} {K:List AV→Prop} (h:oW g H k v K):∃es,K es∧(Gd g→fQ H v=some es∧uu H k v=true):=by
 unfold oW at h
 split at h
 ·rename_i sz d es
  cases hb:Nat.beq sz k with
  |true=>rw[hb] at h;exact⟨_,h,fun _=>⟨rfl,by simpa[uu] using hb⟩⟩
  |false=>rw[hb] at h;exact h.elim
 ·obtain⟨e,sz,d,es,h1,h2,h3⟩:=h.ok
  refine⟨_,h3,fun hg=> ?_⟩
  obtain⟨g1,g2⟩:=cG.1 h2 hg
  simp[fQ,uu,h1,g1,g2]
 ·exact⟨_,h,fun _=>⟨rfl,rfl⟩⟩
 ·exact⟨_,h,fun _=>⟨rfl,rfl⟩⟩
 ·obtain⟨e,sz,d,es,h1,h2,h3⟩:=h.ok
  refine⟨_,h3,fun hg=> ?_⟩
  obtain⟨g1,g2⟩:=cG.1 h2 hg
  simp[fQ,uu,h1,g1,g2]
 ·exact h.elim
set_option maxHeartbeats 4000000 in
theorem iJ {g:Option Bool} {H:Hp} {R:Raw} {id:Nat} {op:cr} {K:AV→Option (Nat×dt)→Prop} (h:mM g H R id op K):
 ∃r u,K r u∧(Gd g→(op.rd=true→∀x∈op.dV,zY R x)∧∀f,(∀x,zY R x→ev f x=(R x).2)→bk id f H op=some (r,u)):=by
 cases op
 case mv x=>
  obtain⟨h1,h2⟩:=bw h
  rw[eD] at h2
  exact⟨_,_,h2,fun hg=>⟨fun hr=>by simp[cr.rd] at hr,fun f hf=>by simp only[bk,hf x (h1 hg)]⟩⟩
 case pick c a b=>
  obtain⟨h1,h2⟩:=bw h
  split at h2
  ·rename_i t ht
   simp only[eD] at h2
   have key:∀{q:Option Bool} {p:Prop} {A:Prop},(match q with|none=>A|some q=>dI g (p→q=true)∧A)→A∧(Gd g→p→∀q',q=some q'→q'=true):=by
    intro q p A h
    cases q with
    |none=>exact⟨h,fun _ _ _ hq=>by cases hq⟩
    |some q=>exact⟨h.2,fun hg hp q' hq=>by cases hq;exact cG.1 h.1 hg hp⟩
   obtain⟨h3,ha⟩:=key h2
   obtain⟨h4,hb⟩:=key h3
   refine⟨_,_,h4,fun hg=>⟨fun hr=>by simp[cr.rd] at hr,fun f hf=> ?_⟩⟩
   simp only[bk,hf c (h1 hg),ht]
   congr 2
   cases t with
   |true=>rw[pH,pH,hf a (ha hg rfl)]
   |false=>rw[nP,nP,hf b (hb hg rfl)]
  ·exact h2.elim
 case alloc e sz ag z=>
  refine⟨_,_,h.2,fun hg=>⟨fun hr=>by simp[cr.rd] at hr,fun f hf=> ?_⟩⟩
  simp only[bk];rw[if_pos (cG.1 h.1 hg)]
 case box e sz ag x=>
  obtain⟨h1,h2⟩:=bw h
  refine⟨_,_,h2.2,fun hg=>⟨fun hr=>by simp[cr.rd] at hr,fun f hf=> ?_⟩⟩
  simp only[bk,hf x (h1 hg)];rw[if_pos (cG.1 h2.1 hg)]
 case JW z ps=>
  obtain⟨h1,h2⟩:=eG h
  obtain⟨cs,h3,h4⟩:=h2.ok
  refine⟨_,_,h4,fun hg=>⟨fun hr=>by simp[cr.rd] at hr,fun f hf=> ?_⟩⟩
  simp only[bk]
  rw[xJ (R:=R) fun x hx=>hf x (h1 hg x hx),h3]
 case HM e sz ag z n ps=>
  obtain⟨h1,h2⟩:=eG h
  refine⟨_,_,h2.2,fun hg=>⟨fun hr=>by simp[cr.rd] at hr,fun f hf=> ?_⟩⟩
  have h3:=cG.1 h2.1 hg
  simp only[bk]
  rw[xL (R:=R) fun x hx=>hf x (h1 hg x hx),if_pos h3]
 case ld ag k x=>
  obtain⟨h1,h2⟩:=bw h
  obtain⟨sz,e,off,h3,h4⟩:=uP h2
  obtain⟨r,h5,h6⟩:=zH h3
  refine⟨_,_,h5,fun hg=>⟨fun _ y hy=>by simp[cr.dV] at hy;subst hy;exact h1 hg,fun f hf=> ?_⟩⟩
  simp only[bk,hf x (h1 hg),h4 hg,h6 hg,Option.map_some]
 case st ag k x y=>
  obtain⟨h1,h2⟩:=bw h
  obtain⟨h3,h4⟩:=bw h2
  split at h4
  ·rename_i b len i off hx
   obtain⟨e,sz,d,es,g1,g2,g3⟩:=h4.ok
   obtain⟨e',g4,g5⟩:=g3.ok.ok
   refine⟨_,_,g5,fun hg=>⟨fun _ z hz=>by simp[cr.dV] at hz;rcases hz with rfl|rfl;exact h1 hg;exact h3 hg,fun f hf=> ?_⟩⟩
   simp only[bk,hf x (h1 hg),hf y (h3 hg),hx,g1,g4]
   rw[if_pos (cG.1 g2 hg)]
  ·exact h4.elim
 case I8 x=>
  obtain⟨h1,h2⟩:=bw h
  split at h2
  all_goals first
   |exact h2.elim
   |(rename_i hx;exact⟨_,_,h2,fun hg=>⟨fun hr=>by simp[cr.rd] at hr,fun f hf=>by simp only[bk,hf x (h1 hg),hx]⟩⟩)
 case bin op x y=>
  obtain⟨h1,h2⟩:=bw h
  obtain⟨h3,h4⟩:=bw h2
  split at h4
  all_goals first
   |exact h4.elim
   |(rename_i hx hy;obtain⟨q1,q2⟩:=h4;obtain⟨m,q3,q4⟩:=q2.ok;refine⟨_,_,q4,fun hg=>⟨fun hr=>by simp[cr.rd] at hr,fun f hf=> ?_⟩⟩;simp only[bk,hf x (h1 hg),hf y (h3 hg),hx,hy,y0];rw[if_pos (cG.1 q1 hg),q3 hg];rfl)
   |(rename_i hx hy;refine⟨_,_,h4.2,fun hg=>⟨fun hr=>by simp[cr.rd] at hr,fun f hf=> ?_⟩⟩;simp only[bk,hf x (h1 hg),hf y (h3 hg),hx,hy,y0];rw[if_pos (cG.1 h4.1 hg)];rfl)
 case JX neg x y=>
  obtain⟨h1,h2⟩:=bw h
  obtain⟨h3,h4⟩:=bw h2
  split at h4
  ·rename_i p q hx hy
   cases neg
   all_goals exact⟨_,_,h4,fun hg=>⟨fun hr=>by simp[cr.rd] at hr,fun f hf=>by simp[bk,hf x (h1 hg),hf y (h3 hg),hx,hy]⟩⟩
  ·exact h4.elim
 case qJ neg x y=>
  obtain⟨h1,h2⟩:=bw h
  obtain⟨h3,h4⟩:=bw h2
  split at h4
  ·rename_i p q hx hy
   cases neg
   all_goals exact⟨_,_,h4,fun hg=>⟨fun hr=>by simp[cr.rd] at hr,fun f hf=>by simp[bk,hf x (h1 hg),hf y (h3 hg),hx,hy]⟩⟩
  ·exact h4.elim
 case y7 op x y=>
  obtain⟨h1,h2⟩:=bw h
  obtain⟨h3,h4⟩:=bw h2
  split at h4
  ·rename_i p q hx hy
   cases op
   case add=>exact⟨_,_,h4.2,fun hg=>⟨fun hr=>by simp[cr.rd] at hr,fun f hf=>by simp only[bk,hf x (h1 hg),hf y (h3 hg),hx,hy,DS];rw[if_pos (cG.1 h4.1 hg)];rfl⟩⟩
   case lss=>exact⟨_,_,h4,fun hg=>⟨fun hr=>by simp[cr.rd] at hr,fun f hf=>by simp only[bk,hf x (h1 hg),hf y (h3 hg),hx,hy,DS];rfl⟩⟩
   all_goals exact h4.elim
  ·exact h4.elim
 case EK sz ag z x=>
  obtain⟨h1,h2⟩:=bw h
  split at h2
  ·rename_i b len lo n hx
   obtain⟨e,s,d,es,q1,q2,q3⟩:=h2.ok
   exact⟨_,_,q3,fun hg=>⟨fun hr y hy=>by simp[cr.dV] at hy;subst hy;exact h1 hg,fun f hf=>by
    simp only[bk,hf x (h1 hg),hx,q1];rw[if_pos (cG.1 q2 hg)]⟩⟩
  ·exact h2.elim
 case IL x=>
  obtain⟨h1,h2⟩:=bw h
  obtain⟨xs,h3,h4⟩:=jK h2
  obtain⟨ns,h5,h6⟩:=h3.ok
  exact⟨_,_,h6,fun hg=>⟨fun hr y hy=>by simp[cr.dV] at hy;subst hy;exact h1 hg,fun f hf=>by
   obtain⟨q1,q2⟩:=h4 hg
   simp only[bk,hf x (h1 hg),q1,q2,if_true,h5 hg,Option.map_some]⟩⟩
 case un op x=>
  obtain⟨h1,h2⟩:=bw h
  split at h2
  all_goals first
   |exact h2.elim
   |(rename_i hx;obtain⟨m,q3,q4⟩:=h2.ok;exact⟨_,_,q4,fun hg=>⟨fun hr=>by simp[cr.rd] at hr,fun f hf=>by simp only[bk,hf x (h1 hg),hx,K8,Option.map_some,q3 hg]⟩⟩)
   |(rename_i hx;exact⟨_,_,h2,fun hg=>⟨fun hr=>by simp[cr.rd] at hr,fun f hf=>by simp only[bk,hf x (h1 hg),hx,K8,Option.map_some]⟩⟩)
 case KE k x=>
  obtain⟨h1,h2⟩:=bw h
  split at h2
  all_goals first
   |exact h2.elim
   |(rename_i hx;obtain⟨m,q3,q4⟩:=h2.ok;exact⟨_,_,q4,fun hg=>⟨fun hr=>by simp[cr.rd] at hr,fun f hf=>by simp only[bk,hf x (h1 hg),hx,q3 hg]⟩⟩)
 case fa off x=>
  obtain⟨h1,h2⟩:=bw h
  have hr:Gd g→((cr.fa off x).rd=true→∀y∈(cr.fa off x).dV,zY R y):=fun hg _ y hy=>by simp[cr.dV] at hy;subst hy;exact h1 hg
  split at h2
  ·rename_i hx
   refine⟨_,_,h2.2,fun hg=>⟨hr hg,fun f hf=> ?_⟩⟩
   simp only[bk,hf x (h1 hg),hx];rw[if_pos (cG.1 h2.1 hg)]
  ·rename_i hx
   obtain⟨e,sz,d,es,g1,g2,g3⟩:=h2.ok
   refine⟨_,_,g3,fun hg=>⟨hr hg,fun f hf=> ?_⟩⟩
   simp only[bk,hf x (h1 hg),hx,g1];rw[if_pos (cG.1 g2 hg)]
  ·exact h2.elim
 case ia k n x i=>
  obtain⟨h1,h2⟩:=bw h
  obtain⟨h3,h4⟩:=bw h2
  have hr:Gd g→((cr.ia k n x i).rd=true→∀y∈(cr.ia k n x i).dV,zY R y):=fun hg _ y hy=>by simp[cr.dV] at hy;rcases hy with rfl|rfl;exact h1 hg;exact h3 hg
  split at h4
  ·rename_i kk j hi
   cases n with
   |none=>
    simp only at h4
    split at h4
    ·rename_i hx
     refine⟨_,_,h4.2.2,fun hg=>⟨hr hg,fun f hf=> ?_⟩⟩
     simp only[bk,hf x (h1 hg),hf i (h3 hg),hx,hi,zw]
     rw[if_pos ⟨cG.1 h4.1 hg,cG.1 h4.2.1 hg⟩];rfl
    ·rename_i hx
     obtain⟨e,sz,d,es,g1,g2,g3,g4⟩:=h4.ok
     refine⟨_,_,g4,fun hg=>⟨hr hg,fun f hf=> ?_⟩⟩
     obtain⟨q1,q2⟩:=cG.1 g2 hg
     simp only[bk,hf x (h1 hg),hf i (h3 hg),hx,hi,zw,g1]
     rw[if_pos ⟨q1,q2,cG.1 g3 hg⟩];rfl
    ·rename_i hx
     obtain⟨e,sz,d,es,g1,g2,g3,g4⟩:=h4.ok
     refine⟨_,_,g4,fun hg=>⟨hr hg,fun f hf=> ?_⟩⟩
     obtain⟨q1,q2⟩:=cG.1 g2 hg
     simp only[bk,hf x (h1 hg),hf i (h3 hg),hx,hi,zw,g1]
     rw[if_pos ⟨q1,q2,cG.1 g3 hg⟩];rfl
    ·exact h4.elim
   |some m=>
    simp only at h4
    split at h4
    ·rename_i hx
     refine⟨_,_,h4.2.2,fun hg=>⟨hr hg,fun f hf=> ?_⟩⟩
     simp only[bk,hf x (h1 hg),hf i (h3 hg),hx,hi,zw]
     rw[if_pos ⟨cG.1 h4.1 hg,cG.1 h4.2.1 hg⟩];rfl
    ·rename_i hx
     obtain⟨e,sz,d,es,g1,g2,g3,g4⟩:=h4.ok
     refine⟨_,_,g4,fun hg=>⟨hr hg,fun f hf=> ?_⟩⟩
     obtain⟨q1,q2⟩:=cG.1 g2 hg
     simp only[bk,hf x (h1 hg),hf i (h3 hg),hx,hi,zw,g1]
     rw[if_pos ⟨q1,q2,cG.1 g3 hg⟩];rfl
    ·exact h4.elim
  ·exact h4.elim
 case KK off k ag x=>
  obtain⟨h1,h2⟩:=bw h
  split at h2
  ·rename_i cs hx
   cases ag with
   |true=>
    refine⟨_,_,h2.2,fun hg=>⟨fun hr=>by simp[cr.rd] at hr,fun f hf=> ?_⟩⟩
    simp only[bk,hf x (h1 hg),hx,if_true];rw[if_pos (cG.1 h2.1 hg)]
   |false=>
    have h3:=h2.2.ok
    rw[eD] at h3
    refine⟨_,_,h3,fun hg=>⟨fun hr=>by simp[cr.rd] at hr,fun f hf=> ?_⟩⟩
    obtain⟨q1,q2⟩:=cG.1 h2.1 hg
    simp only[bk,hf x (h1 hg),hx,Bool.false_eq_true,if_false];rw[if_pos q1,if_pos q2]
  ·exact h2.elim
 case ix k ag n x i=>
  obtain⟨h1,h2⟩:=bw h
  obtain⟨h3,h4⟩:=bw h2
  split at h4
  ·rename_i cs kk j hx hi
   obtain⟨p1,p2,p3⟩:=h4
   cases ag with
   |true=>
    refine⟨_,_,p3,fun hg=>⟨fun hr=>by simp[cr.rd] at hr,fun f hf=> ?_⟩⟩
    have q2:=cG.1 p2 hg
    simp only[bk,hf x (h1 hg),hf i (h3 hg),hx,hi,if_true];rw[if_pos ⟨q2.1,q2.2,cG.1 p1 hg⟩]
   |false=>
    have h5:=p3.2.ok
    rw[eD] at h5
    refine⟨_,_,h5,fun hg=>⟨fun hr=>by simp[cr.rd] at hr,fun f hf=> ?_⟩⟩
    have q2:=cG.1 p2 hg
    simp only[bk,hf x (h1 hg),hf i (h3 hg),hx,hi,Bool.false_eq_true,if_false];rw[if_pos ⟨q2.1,q2.2,cG.1 p1 hg⟩,if_pos (cG.1 p3.1 hg)]
  ·exact h4.elim
 case KR x i=>
  obtain⟨h1,h2⟩:=bw h
  obtain⟨h3,h4⟩:=bw h2
  split at h4
  ·rename_i hx hi
   refine⟨_,_,h4.2,fun hg=>⟨fun hr=>by simp[cr.rd] at hr,fun f hf=> ?_⟩⟩
   simp only[bk,hf x (h1 hg),hf i (h3 hg),hx,hi];rw[if_pos (cG.1 h4.1 hg)]
  ·exact h4.elim
 case lens x=>
  obtain⟨h1,h2⟩:=bw h
  split at h2
  all_goals first
   |exact h2.elim
   |(rename_i hx;exact⟨_,_,h2,fun hg=>⟨fun hr=>by simp[cr.rd] at hr,fun f hf=>by simp only[bk,hf x (h1 hg),hx]⟩⟩)
 case I6 e sz bytes ag z l c=>
  obtain⟨h1,h2⟩:=bw h
  obtain⟨h3,h4⟩:=bw h2
  split at h4
  ·rename_i hx hi
   refine⟨_,_,h4.2.2,fun hg=>⟨fun hr=>by simp[cr.rd] at hr,fun f hf=> ?_⟩⟩
   obtain⟨q1,q2⟩:=cG.1 h4.1 hg
   obtain⟨q3,q4,q5⟩:=cG.1 h4.2.1 hg
   simp only[bk,hf l (h1 hg),hf c (h3 hg),hx,hi];rw[if_pos ⟨q1,q3,q2,q4,q5⟩]
  ·exact h4.elim
 case ext i x=>
  obtain⟨h1,h2⟩:=bw h
  split at h2
  ·rename_i hx
   have h3:=h2.2.ok
   rw[eD] at h3
   refine⟨_,_,h3,fun hg=>⟨fun hr=>by simp[cr.rd] at hr,fun f hf=> ?_⟩⟩
   simp only[bk,hf x (h1 hg),hx];rw[if_pos (cG.1 h2.1 hg)]
  ·exact h2.elim
 case J1 fn first caps=>
  obtain⟨h1,h2⟩:=eG h
  obtain⟨h3,h4⟩:=eG h2
  refine⟨_,_,h4,fun hg=>⟨fun hr=>by simp[cr.rd] at hr,fun f hf=> ?_⟩⟩
  simp only[bk]
  rw[jL (R:=R) fun x hx=>hf x (h1 hg x hx),jL (R:=R) fun x hx=>hf x (h3 hg x hx)]
 case KX t x=>
  obtain⟨h1,h2⟩:=bw h
  exact⟨_,_,h2,fun hg=>⟨fun hr=>by simp[cr.rd] at hr,fun f hf=>by simp only[bk,hf x (h1 hg)]⟩⟩
 case len x=>
  obtain⟨h1,h2⟩:=bw h
  have hr:Gd g→((cr.len x).rd=true→∀y∈(cr.len x).dV,zY R y):=fun hg _ y hy=>by simp[cr.dV] at hy;subst hy;exact h1 hg
  split at h2
  ·rename_i hx;exact⟨_,_,h2,fun hg=>⟨hr hg,fun f hf=>by simp only[bk,hf x (h1 hg),hx,oy]⟩⟩
  ·rename_i hx
   obtain⟨e,sz,d,es,g1,g2,g3⟩:=h2.ok
   refine⟨_,_,g3,fun hg=>⟨hr hg,fun f hf=> ?_⟩⟩
   simp only[bk,hf x (h1 hg),hx,oy,g1];rw[if_pos (cG.1 g2 hg)]
  ·rename_i hx;exact⟨_,_,h2,fun hg=>⟨hr hg,fun f hf=>by simp[bk,hf x (h1 hg),hx,oy]⟩⟩
  ·rename_i hx;exact⟨_,_,h2,fun hg=>⟨hr hg,fun f hf=>by simp[bk,hf x (h1 hg),hx,oy]⟩⟩
  ·rename_i hx;exact⟨_,_,h2,fun hg=>⟨hr hg,fun f hf=>by simp only[bk,hf x (h1 hg),hx,oy]⟩⟩
  ·exact h2.elim
 case app e sz bytes ag z s x=>
  obtain⟨h1,h2⟩:=bw h
  obtain⟨h3,h4⟩:=bw h2
  obtain⟨xs,⟨h5,h5'⟩,h6⟩:=jK h4
  have hr:Gd g→((cr.app e sz bytes ag z s x).rd=true→∀y∈(cr.app e sz bytes ag z s x).dV,zY R y):=fun hg _ y hy=>by simp[cr.dV] at hy;rcases hy with rfl|rfl;exact h1 hg;exact h3 hg
  split at h5'
  ·rename_i hx
   refine⟨_,_,h5'.2,fun hg=>⟨hr hg,fun f hf=> ?_⟩⟩
   obtain⟨q1,q2⟩:=h6 hg
   simp only[bk,hf s (h1 hg),hf x (h3 hg),hx,q1];rw[if_pos ⟨q2,cG.1 h5 hg⟩,if_pos (cG.1 h5'.1 hg)]
  ·rename_i hx
   obtain⟨e',sz',d,es,g1,g2,g3,g4⟩:=h5'.ok
   refine⟨_,_,g4,fun hg=>⟨hr hg,fun f hf=> ?_⟩⟩
   obtain⟨q1,q2⟩:=h6 hg
   obtain⟨q3,q4,q5⟩:=cG.1 g2 hg
   simp only[bk,hf s (h1 hg),hf x (h3 hg),hx,q1,g1];rw[if_pos ⟨q2,cG.1 h5 hg⟩,if_pos ⟨q3,q4,q5,cG.1 g3 hg⟩]
  ·exact h5'.elim
 case AM e bytes z s x=>
  obtain⟨h1,h2⟩:=bw h
  obtain⟨h3,h4⟩:=bw h2
  have hr:Gd g→((cr.AM e bytes z s x).rd=true→∀y∈(cr.AM e bytes z s x).dV,zY R y):=fun hg _ y hy=>by simp[cr.dV] at hy;rcases hy with rfl|rfl;exact h1 hg;exact h3 hg
  split at h4
  ·rename_i q hq
   split at h4
   ·rename_i hx
    refine⟨_,_,h4.2,fun hg=>⟨hr hg,fun f hf=> ?_⟩⟩
    simp only[bk,hf s (h1 hg),hf x (h3 hg),hx,hq];rw[if_pos (cG.1 h4.1 hg)]
   ·rename_i hx
    obtain⟨e',sz',d,es,g1,g2,g3,g4⟩:=h4.ok
    refine⟨_,_,g4,fun hg=>⟨hr hg,fun f hf=> ?_⟩⟩
    obtain⟨q3,q4,q5⟩:=cG.1 g2 hg
    simp only[bk,hf s (h1 hg),hf x (h3 hg),hx,hq,g1];rw[if_pos ⟨q3,q4,q5,cG.1 g3 hg⟩]
   ·exact h4.elim
  ·exact h4.elim
 case zW neg x=>
  obtain⟨h1,h2⟩:=bw h
  split at h2
  all_goals first
   |exact h2.elim
   |(rename_i hx;exact⟨_,_,h2,fun hg=>⟨fun hr=>by simp[cr.rd] at hr,fun f hf=>by simp only[bk,hf x (h1 hg),hx]⟩⟩)
 case u0 neg x=>
  obtain⟨h1,h2⟩:=bw h
  obtain⟨t,h3,h4⟩:=h2.ok
  rw[eD] at h4
  refine⟨_,_,h4,fun hg=>⟨fun _ y hy=>by simp[cr.dV] at hy;subst hy;exact h1 hg,fun f hf=> ?_⟩⟩
  simp only[bk,hf x (h1 hg),h3]
 case eqs neg ks x y=>
  obtain⟨h1,h2⟩:=bw h
  obtain⟨h3,h4⟩:=bw h2
  split at h4
  ·rename_i hx hy
   obtain⟨t,g1,g2⟩:=h4.ok
   cases neg
   all_goals exact⟨_,_,g2,fun hg=>⟨fun hr=>by simp[cr.rd] at hr,fun f hf=>by simp[bk,hf x (h1 hg),hf y (h3 hg),hx,hy,g1]⟩⟩
  ·exact h4.elim
 case JE sz x lo hi=>
  obtain⟨h1,h2⟩:=bw h
  obtain⟨h3,h4⟩:=eG h2
  obtain⟨r,g1,g2⟩:=h4.ok
  rw[eD] at g2
  refine⟨_,_,g2,fun hg=>⟨fun _ y hy=> ?_,fun f hf=> ?_⟩⟩
  ·simp only[cr.dV,List.mem_append,List.mem_singleton] at hy
   rcases hy with(rfl|hy)|hy
   ·exact h1 hg
   ·exact h3 hg y (by simp only[List.mem_append];exact .inl hy)
   ·exact h3 hg y (by simp only[List.mem_append];exact .inr hy)
  ·simp only[bk,hf x (h1 hg)]
   have e1:∀y∈lo.toList++hi.toList,ev f y=(R y).2:=fun y hy=>hf y (h3 hg y hy)
   cases lo<;>cases hi<;>simp_all
 case ES sz x y=>
  obtain⟨h1,h2⟩:=bw h
  obtain⟨h3,h4⟩:=bw h2
  split at h4
  ·rename_i b len hx
   obtain⟨xs,h5,h6⟩:=jK h4
   obtain⟨e,s,d,es,g1,g2,g3⟩:=h5.ok
   refine⟨_,_,g3,fun hg=>⟨fun _ z hz=>by simp[cr.dV] at hz;rcases hz with rfl|rfl;exact h1 hg;exact h3 hg,fun f hf=> ?_⟩⟩
   obtain⟨q1,q2⟩:=h6 hg
   obtain⟨q3,q4⟩:=cG.1 g2 hg
   simp only[bk,hf x (h1 hg),hf y (h3 hg),hx,q1,g1];rw[if_pos ⟨q3,q4,q2⟩]
  ·exact h4.elim
 case call f as=>exact h.elim
 case HZ kt=>exact⟨_,_,h,fun hg=>⟨fun hr=>by simp[cr.rd] at hr,fun f hf=>rfl⟩⟩
 case y6 sz v=>exact⟨_,_,h,fun hg=>⟨fun hr=>by simp[cr.rd] at hr,fun f hf=>rfl⟩⟩
 case sY e sz v=>exact⟨_,_,h,fun hg=>⟨fun hr=>by simp[cr.rd] at hr,fun f hf=>rfl⟩⟩
 case vy x=>
  obtain⟨h1,h2⟩:=bw h
  obtain⟨b,e,d,es,h3,h4⟩:=jE h2
  exact⟨_,_,h4,fun hg=>⟨fun _ y hy=>by simp[cr.dV] at hy;subst hy;exact h1 hg,fun f hf=>by simp only[bk,hf x (h1 hg),h3]⟩⟩
 case F8 str ag z ok x k=>
  obtain⟨h1,h2⟩:=bw h
  obtain⟨h3,h4⟩:=bw h2
  have hr:Gd g→((cr.F8 str ag z ok x k).rd=true→∀y∈(cr.F8 str ag z ok x k).dV,zY R y):=fun hg _ y hy=>by simp[cr.dV] at hy;rcases hy with rfl|rfl;exact h1 hg;exact h3 hg
  split at h4
  ·rename_i kv hk
   obtain⟨b,e,d,es,h5,h6,h7⟩:=jE h4
   obtain⟨p,h8,h9⟩:=h7.ok
   cases ok with
   |true=>
    refine⟨_,_,h9,fun hg=>⟨hr hg,fun f hf=> ?_⟩⟩
    have h10:=h8 hg
    unfold ru at h10
    simp only[bk,hf x (h1 hg),hf k (h3 hg),h5,hk]
    rw[if_pos (cG.1 h6 hg)]
    split at h10<;>simp only[Option.some.injEq,reduceCtorEq] at h10
    ·subst h10;simp_all
    ·subst h10;simp_all
   |false=>
    simp only[eD] at h9
    refine⟨_,_,h9,fun hg=>⟨hr hg,fun f hf=> ?_⟩⟩
    have h10:=h8 hg
    unfold ru at h10
    simp only[bk,hf x (h1 hg),hf k (h3 hg),h5,hk]
    rw[if_pos (cG.1 h6 hg)]
    split at h10<;>simp only[Option.some.injEq,reduceCtorEq] at h10
    ·subst h10;simp_all
    ·subst h10;simp_all
  ·exact h4.elim
 case zx str x k y=>
  obtain⟨h1,h2⟩:=bw h
  obtain⟨h3,h4⟩:=bw h2
  obtain⟨h3',h4'⟩:=bw h4
  have hr:Gd g→((cr.zx str x k y).rd=true→∀w∈(cr.zx str x k y).dV,zY R w):=fun hg _ w hy=>by simp[cr.dV] at hy;rcases hy with rfl|rfl|rfl;exact h1 hg;exact h3 hg;exact h3' hg
  split at h4'
  ·rename_i kv hk
   obtain⟨b,e,d,es,h5,h6,h7⟩:=jE h4'
   obtain⟨p,h8,h9⟩:=h7.ok
   refine⟨_,_,h9,fun hg=>⟨hr hg,fun f hf=> ?_⟩⟩
   have h10:=h8 hg
   unfold uX at h10
   simp only[bk,hf x (h1 hg),hf k (h3 hg),hf y (h3' hg),h5,hk]
   rw[if_pos (cG.1 h6 hg)]
   split at h10<;>simp only[Option.some.injEq,reduceCtorEq] at h10
   ·subst h10;simp_all[vF]
   ·subst h10;simp_all[vF]
  ·exact h4'.elim
 case del str x k=>
  obtain⟨h1,h2⟩:=bw h
  obtain⟨h3,h4⟩:=bw h2
  have hr:Gd g→((cr.del str x k).rd=true→∀y∈(cr.del str x k).dV,zY R y):=fun hg _ y hy=>by simp[cr.dV] at hy;rcases hy with rfl|rfl;exact h1 hg;exact h3 hg
  split at h4
  ·rename_i kv hk
   obtain⟨b,e,d,es,h5,h6,h7⟩:=jE h4
   obtain⟨p,h8,h9⟩:=h7.ok
   refine⟨_,_,h9,fun hg=>⟨hr hg,fun f hf=> ?_⟩⟩
   have h10:=h8 hg
   unfold KW at h10
   simp only[bk,hf x (h1 hg),hf k (h3 hg),h5,hk]
   rw[if_pos (cG.1 h6 hg)]
   split at h10<;>simp only[Option.some.injEq,reduceCtorEq] at h10
   ·subst h10;simp_all
   ·subst h10;simp_all
  ·exact h4.elim
 case K6 t ok ag z x=>
  obtain⟨h1,h2⟩:=bw h
  split at h2
  ·rename_i t' v hx
   cases hb:Nat.beq t' t with
   |true=>
    rw[hb] at h2
    have e:=Nat.eq_of_beq_eq_true hb
    cases ok with
    |true=>
     simp only[cond_true] at h2
     exact⟨_,_,h2,fun hg=>⟨fun hr=>by simp[cr.rd] at hr,fun f hf=>by simp only[bk,hf x (h1 hg),hx];rw[if_pos e];rfl⟩⟩
    |false=>
     simp only[cond_true,eD] at h2
     exact⟨_,_,h2,fun hg=>⟨fun hr=>by simp[cr.rd] at hr,fun f hf=>by simp only[bk,hf x (h1 hg),hx];rw[if_pos e];rfl⟩⟩
   |false=>
    rw[hb] at h2
    have e:¬t'=t:=fun e=>by rw[e] at hb;simp at hb
    cases ok with
    |true=>
     simp only[cond_false] at h2
     exact⟨_,_,h2,fun hg=>⟨fun hr=>by simp[cr.rd] at hr,fun f hf=>by simp only[bk,hf x (h1 hg),hx];rw[if_neg e];rfl⟩⟩
    |false=>exact h2.elim
  ·exact h2.elim
end Go.cN
/- Code as a whole, run by reduction alone; it is so. -/
namespace Go.cN
open Go.RowKit
structure eJ (t:Bool) (A B:Prop):Prop where
 ok:(t=true→A)∧(t=false→B)
theorem eJ.lt {A B:Prop} (h:A):eJ true A B:=⟨⟨fun _=>h,fun h=>(by cases h)⟩⟩
theorem eJ.lf {A B:Prop} (h:B):eJ false A B:=⟨⟨fun h=>(by cases h),fun _=>h⟩⟩
theorem eJ.of {t:Bool} {A B:Prop} (h1:t=true→A) (h2:t=false→B):eJ t A B:=⟨⟨h1,h2⟩⟩
structure db (t want:Bool) (A B J:Prop):Prop where
 ok:((t=want→A)∧(t≠want→B))∨J
theorem db.tt {A B J:Prop} (h:A):db true true A B J:=⟨.inl ⟨fun _=>h,fun h=>absurd rfl h⟩⟩
theorem db.join {t want:Bool} {A B J:Prop} (h:J):db t want A B J:=⟨.inr h⟩
theorem db.split {t want:Bool} {A B J:Prop} (h1:t=want→A) (h2:t= !want→B):db t want A B J:=⟨.inl ⟨h1,fun h=>h2 (by cases t<;>cases want<;>simp_all)⟩⟩
structure ft (P:Program) (f:FuncId) (args:List AV) (H:Hp) (nx:Nat) (K:AV→Hp→Nat→Prop):Prop where
 ok:cC P f args H nx K
structure lQ (P:Program) (g:Bool) (f:FuncId) (args:List AV) (H:Hp) (nx:Nat) (K:AV→Prop):Prop where
 ok:∃r,(g=true→∀(K':AV→Hp→Nat→Prop),K' r H (nx+1)→cC P f args H nx K')∧K r
structure jX (P:Program) (id:Nat) (f:FuncId) (args:List AV) (H:Hp) (K:AV→Option (Nat×dt)→List Nat→Prop):Prop where
 ok:∃r u S,kX P id (.fn (.func f) [] []) args H r u S∧K r u S
structure J5 (P:Program) (t:TypeId) (v:AV) (nm:String) (args:List AV) (H:Hp) (nx:Nat) (K:AV→Hp→Nat→Prop):Prop where
 ok:pj P t v nm args H nx K
structure ph (P:Program) (g:Bool) (id:Nat) (f:FuncId) (args:List AV) (H:Hp) (K:AV→List Nat→Prop):Prop where
 ok:∃r S,(g=true→kX P id (.fn (.func f) [] []) args H r none S)∧K r S
theorem Pure.IN {P:Program} {f:FuncId} {args:List AV} {R:AV→Prop} {H:Hp} {nx:Nat} {K:AV→Hp→Nat→Prop} (h:Pure P f args R) (hf:cM 0 args) (hK:∀r,R r→K r H (nx+1)):cC P f args H nx K:=by
 have:=h.cw (H:=H) (nx:=nx) (K:=fun r H' n=>∃n',n≤n'∧K r H' n') hf fun r hr=>⟨_,Nat.le_succ _,hK r hr⟩
 refine⟨this.1,fun w0 c vs a1 a2 a3 a4=>(this.2 w0 c vs a1 a2 a3 a4).mono ?_⟩
 rintro e w' ⟨v,r,H',nx',ρ,U,he,⟨n',hn,hR⟩,hU,hrest⟩
 exact⟨v,r,H',n',ρ,U,he,hR,fun b hb=>Nat.lt_of_lt_of_le (hU b hb) hn,hrest⟩
theorem ft.pure {P:Program} {f:FuncId} {args:List AV} {R:AV→Prop} {H:Hp} {nx:Nat} {K:AV→Hp→Nat→Prop} (h:Pure P f args R) (hf:cM 0 args) (hK:∀r,R r→K r H nx):ft P f args H nx K:=⟨h.cw hf hK⟩
theorem ft.D6 {P:Program} {f:FuncId} {args:List AV} {r:AV} {H:Hp} {nx:Nat} {K:AV→Hp→Nat→Prop} (h:Pure P f args (fun x=>x=r)) (hf:cM 0 args) (hK:K r H nx):ft P f args H nx K:=⟨h.cw hf fun x hx=>by rw[hx];exact hK⟩
theorem ft.of {P:Program} {f:FuncId} {args:List AV} {H:Hp} {nx:Nat} {R K:AV→Hp→Nat→Prop} (h:cC P f args H nx R) (hK:∀r H' nx',R r H' nx'→K r H' nx'):ft P f args H nx K:=⟨h.mono hK⟩
theorem lQ.D6 {P:Program} {g:Bool} {f:FuncId} {args:List AV} {r:AV} {H:Hp} {nx:Nat} {K:AV→Prop} (h:g=true→Pure P f args (fun x=>x=r)) (hf:cM 0 args) (hK:K r):lQ P g f args H nx K:=
 ⟨⟨r,fun hg K' hK'=>(h hg).IN hf fun x hx=>by rw[hx];exact hK',hK⟩⟩
theorem jX.D6 {P:Program} {id:Nat} {f:FuncId} {args:List AV} {H:Hp} {r:AV} {K:AV→Option (Nat×dt)→List Nat→Prop} (h:Pure P f args (fun x=>x=r)) (hf:cM 0 args) (hK:K r none []):jX P id f args H K:=
 ⟨⟨r,none,[],Pure.DF (by simpa using hf) (by simpa using h),hK⟩⟩
theorem ph.D6 {P:Program} {g:Bool} {id:Nat} {f:FuncId} {args:List AV} {H:Hp} {r:AV} {K:AV→List Nat→Prop} (h:g=true→Pure P f args (fun x=>x=r)) (hf:cM 0 args) (hK:K r []):ph P g id f args H K:=
 ⟨⟨r,[],fun hg=>Pure.DF (by simpa using hf) (by simpa using h hg),hK⟩⟩
theorem jX.fresh {P:Program} {id:Nat} {f:FuncId} {args:List AV} {H:Hp} {r:AV} {u:Option (Nat×dt)} (S:List Nat) {K:AV→Option (Nat×dt)→List Nat→Prop}
 (h:∀H1,(∀b∈S,bd H1 b=bd H b)→lP P f args H1 id (fun r' H'=>r'=r∧H'=cp H1 u)) (hu:∀b q,u=some (b,q)→b=id) (hK:K r u S):jX P id f args H K:=
 ⟨⟨r,u,S,⟨by simpa using h,hu⟩,hK⟩⟩
section
variable (P:Program)
noncomputable def sS (nx:Nat) (R:Raw) (H:Hp) (op:cr) (K:AV→Hp→Nat→Prop):Prop:=
 match op with
 | .call f args=>cj none R f fun fv=>iN none R args fun as=>match fv with
  | .fn (.func g) first caps=>mf (first++as++caps) fun as=>ft P g as H nx K
  | .fn (.method nm) [.jj t v] []=>mf as fun as=>J5 P t v nm as H nx K
  |_=>False
 |op=>mM none H R nx op fun r u=>K r (cp H u) (nx+1)
noncomputable def j8 (nx:Nat) (g:Bool) (R:Raw) (H:Hp) (op:cr) (K:AV→Prop):Prop:=
 match op with
 | .call f args=>cj (some g) R f fun fv=>iN (some g) R args fun as=>match fv with
  | .fn (.func q) first caps=>mf (first++as++caps) fun as=>lQ P g q as H nx K
  |_=>False
 |op=>mM (some g) H R nx op fun r u=>match u with
  |none=>K r
  |some _=>False
abbrev xA:=Nat→Ov→Fr→Hp→(Ov→Hp→Nat→Prop)→Prop
def sV (nx:Nat) (ov:Ov) (_:Fr) (H:Hp) (K:Ov→Hp→Nat→Prop):Prop:=K ov H nx
noncomputable def mV (g:fC) (_:List fC) (ih:xA) (nx:Nat) (ov:Ov) (fr:Fr) (H:Hp) (K:Ov→Hp→Nat→Prop):Prop:=match g.guard with
 |none=>sS P nx (eE ov fr) H g.op fun r H' nx'=>ih nx' (fN ov g.dst none r) fr H' K
 |some (d,want)=>match mg ov fr d with
  |(none, .sc (.bool t))=>db t want (sS P nx (eE ov fr) H g.op fun r H' nx'=>ih nx' (fN ov g.dst none r) fr H' K) (ih (nx+1) (fN ov g.dst none (.sc undef)) fr H K)
   (match want with
    |true=>j8 P nx t (eE ov fr) H g.op fun r=>ih (nx+1) (fN ov g.dst (some t) r) fr H K
    |false=>j8 P nx (!t) (eE ov fr) H g.op fun r=>ih (nx+1) (fN ov g.dst (some !t) r) fr H K)
  |(some q, .sc (.bool t))=>(match want with
   |true=>j8 P nx (q&&t) (eE ov fr) H g.op fun r=>ih (nx+1) (fN ov g.dst (some (q&&t)) r) fr H K
   |false=>j8 P nx (q&& !t) (eE ov fr) H g.op fun r=>ih (nx+1) (fN ov g.dst (some (q&& !t)) r) fr H K)
  |(none, .sc (.tuple _))=>ih (nx+1) (fN ov g.dst none (.sc undef)) fr H K
  |_=>False
noncomputable def yV (nx:Nat) (gs:List fC) (ov:Ov) (fr:Fr) (H:Hp) (K:Ov→Hp→Nat→Prop):Prop:=List.rec (motive:=fun _=>xA) sV (mV P) gs nx ov fr H K
def zF (R:Raw) (op:cr):List Nat:=if op.rd then op.dV.flatMap (fun x=>fm (R x).2) else[]
noncomputable def kn (id:Nat) (R:Raw) (H:Hp) (op:cr) (K:AV→Option (Nat×dt)→List Nat→Prop):Prop:=
 match op with
 | .call f args=>cj none R f fun fv=>iN none R args fun as=>match fv with
  | .fn (.func g) first caps=>mf (first++as++caps) fun as=>jX P id g as H K
  |_=>False
 |op=>mM none H R id op fun r u=>K r u (zF R op)
noncomputable def gB (id:Nat) (g:Bool) (R:Raw) (H:Hp) (op:cr) (K:AV→List Nat→Prop):Prop:=
 match op with
 | .call f args=>cj (some g) R f fun fv=>iN (some g) R args fun as=>match fv with
  | .fn (.func q) first caps=>mf (first++as++caps) fun as=>ph P g id q as H K
  |_=>False
 |op=>mM (some g) H R id op fun r u=>match u with
  |none=>K r (zF R op)
  |some _=>False
abbrev LL:=Nat→Ov→Fr→Hp→Tr→(Ov→Hp→Tr→Prop)→Prop
def AD (_:Nat) (ov:Ov) (_:Fr) (H:Hp) (tr:Tr) (K:Ov→Hp→Tr→Prop):Prop:=K ov H tr
noncomputable def lU (g:fC) (_:List fC) (ih:LL) (id:Nat) (ov:Ov) (fr:Fr) (H:Hp) (tr:Tr) (K:Ov→Hp→Tr→Prop):Prop:=match g.guard with
 |none=>kn P id (eE ov fr) H g.op fun r u S=>ih (id+1) (fN ov g.dst none r) fr (cp H u) (tr++[(S,u.map (·.1))]) K
 |some (d,want)=>match mg ov fr d with
  |(none, .sc (.bool t))=>db t want (kn P id (eE ov fr) H g.op fun r u S=>ih (id+1) (fN ov g.dst none r) fr (cp H u) (tr++[(S,u.map (·.1))]) K) (ih (id+1) (fN ov g.dst none (.sc undef)) fr H (tr++[([],none)]) K)
   (match want with
    |true=>gB P id t (eE ov fr) H g.op fun r S=>ih (id+1) (fN ov g.dst (some t) r) fr H (tr++[(S,none)]) K
    |false=>gB P id (!t) (eE ov fr) H g.op fun r S=>ih (id+1) (fN ov g.dst (some !t) r) fr H (tr++[(S,none)]) K)
  |(some q, .sc (.bool t))=>(match want with
   |true=>gB P id (q&&t) (eE ov fr) H g.op fun r S=>ih (id+1) (fN ov g.dst (some (q&&t)) r) fr H (tr++[(S,none)]) K
   |false=>gB P id (q&& !t) (eE ov fr) H g.op fun r S=>ih (id+1) (fN ov g.dst (some (q&& !t)) r) fr H (tr++[(S,none)]) K)
  |(none, .sc (.tuple _))=>ih (id+1) (fN ov g.dst none (.sc undef)) fr H (tr++[([],none)]) K
  |_=>False
noncomputable def WD (id:Nat) (gs:List fC) (ov:Ov) (fr:Fr) (H:Hp) (tr:Tr) (K:Ov→Hp→Tr→Prop):Prop:=List.rec (motive:=fun _=>LL) AD (lU P) gs id ov fr H tr K
noncomputable def I9 (S:List Nat):(List Nat→Prop)→Prop:=List.rec (motive:=fun _=>(List Nat→Prop)→Prop) (fun K=>K []) (fun b _ ih K=>ih fun S'=>K (b::S')) S
theorem pF:∀(S:List Nat) (K:List Nat→Prop),I9 S K=K S
 |[],_=>rfl
 |b::S,K=>pF S fun S'=>K (b::S')
def uW (u:Option (Nat×dt)) (K:Option Nat→Prop):Prop:=match u with
 |none=>K none
 |some (b,_)=>K (some b)
theorem K7 (u:Option (Nat×dt)) (K:Option Nat→Prop):uW u K=K (u.map (·.1)):=by
 cases u<;>rfl
noncomputable def qw (g:fC) (_:List fC) (ih:LL) (id:Nat) (ov:Ov) (fr:Fr) (H:Hp) (tr:Tr) (K:Ov→Hp→Tr→Prop):Prop:=match g.guard with
 |none=>kn P id (eE ov fr) H g.op fun r u S=>I9 S fun S=>uW u fun x=>ih (id+1) (fN ov g.dst none r) fr (cp H u) ((S,x)::tr) K
 |some (d,want)=>match mg ov fr d with
  |(none, .sc (.bool t))=>db t want (kn P id (eE ov fr) H g.op fun r u S=>I9 S fun S=>uW u fun x=>ih (id+1) (fN ov g.dst none r) fr (cp H u) ((S,x)::tr) K) (ih (id+1) (fN ov g.dst none (.sc undef)) fr H (([],none)::tr) K)
   (match want with
    |true=>gB P id t (eE ov fr) H g.op fun r S=>I9 S fun S=>ih (id+1) (fN ov g.dst (some t) r) fr H ((S,none)::tr) K
    |false=>gB P id (!t) (eE ov fr) H g.op fun r S=>I9 S fun S=>ih (id+1) (fN ov g.dst (some !t) r) fr H ((S,none)::tr) K)
  |(some q, .sc (.bool t))=>(match want with
   |true=>gB P id (q&&t) (eE ov fr) H g.op fun r S=>I9 S fun S=>ih (id+1) (fN ov g.dst (some (q&&t)) r) fr H ((S,none)::tr) K
   |false=>gB P id (q&& !t) (eE ov fr) H g.op fun r S=>I9 S fun S=>ih (id+1) (fN ov g.dst (some (q&& !t)) r) fr H ((S,none)::tr) K)
  |(none, .sc (.tuple _))=>ih (id+1) (fN ov g.dst none (.sc undef)) fr H (([],none)::tr) K
  |_=>False
noncomputable def WE (id:Nat) (gs:List fC) (ov:Ov) (fr:Fr) (H:Hp) (tr:Tr) (K:Ov→Hp→Tr→Prop):Prop:=List.rec (motive:=fun _=>LL) AD (qw P) gs id ov fr H tr K
theorem sR:∀(gs:List fC) (id:Nat) (ov:Ov) (fr:Fr) (H:Hp) (tr:Tr) (K:Ov→Hp→Tr→Prop),WE P id gs ov fr H tr K=WD P id gs ov fr H tr.reverse fun ov H t=>K ov H t.reverse
 |[],id,ov,fr,H,tr,K=>by
  show K ov H tr=K ov H tr.reverse.reverse
  rw[List.reverse_reverse]
 |g::gs,id,ov,fr,H,tr,K=>by
  have ih:=sR gs
  show qw P g gs (fun id ov fr H tr K=>WE P id gs ov fr H tr K) id ov fr H tr K=lU P g gs (fun id ov fr H tr K=>WD P id gs ov fr H tr K) id ov fr H tr.reverse fun ov H t=>K ov H t.reverse
  simp only[qw,lU,pF,K7,ih,List.reverse_cons]
noncomputable def EB (s:nz) (_:List nz) (ih:xA) (nx:Nat) (ov:Ov) (fr:Fr) (H:Hp) (K:Ov→Hp→Nat→Prop):Prop:=match s.ops with
 |[g]=>yV P nx [g] ov fr H fun ov' H' nx'=>ih nx' ov' fr H' K
 |gs=>WE P nx gs ov fr H [] fun ov' H' tr=>(match s.ps with
  |[]=>ih (nx+gs.length) ov' fr H' K
  |p::ps=>Ask (fj tr.reverse (p::ps))∧ih (nx+gs.length) ov' fr H' K)
noncomputable def WS (nx:Nat) (segs:List nz) (ov:Ov) (fr:Fr) (H:Hp) (K:Ov→Hp→Nat→Prop):Prop:=List.rec (motive:=fun _=>xA) sV (EB P) segs nx ov fr H K
structure fu (n lo:Nat) (x:LC) (fr:Fr) (H:Hp) (nx:Nat) (Q:QT):Prop where
 ok:WL P n lo (.loop x) fr H nx Q
abbrev WT:=Fr→Hp→Nat→QT→Prop
def IH (fr:Fr) (H:Hp) (nx:Nat) (Q:QT):Prop:=Q .normal fr H nx
noncomputable def AE (gs:List fC) (fr:Fr) (H:Hp) (nx:Nat) (Q:QT):Prop:=yV P nx gs [] fr H fun ov H' nx'=>Q .normal (fU ov fr) H' nx'
structure fc (segs:List nz) (fr:Fr) (H:Hp) (nx:Nat) (Q:QT):Prop where
 ok:∀n lo,WL P n lo (.drawn segs) fr H nx Q
def ED (segs:List nz) (fr:Fr) (H:Hp) (nx:Nat) (Q:QT):Prop:=fc P segs fr H nx Q
def J7 (_ _:LC) (ia ib:WT) (fr:Fr) (H:Hp) (nx:Nat) (Q:QT):Prop:=ia fr H nx (gv (fun fr H nx=>ib fr H nx Q) Q)
def vM (c:dO) (_ _:LC) (ia ib:WT) (fr:Fr) (H:Hp) (nx:Nat) (Q:QT):Prop:=match ev fr c with
 | .sc (.bool t)=>eJ t (ia fr H nx Q) (ib fr H nx Q)
 | .ab=>ia fr H nx Q∧ib fr H nx Q
 |_=>False
def EC (id:Nat) (_:LC) (ia:WT) (fr:Fr) (H:Hp) (nx:Nat) (Q:QT):Prop:=ia fr H nx (rN id Q)
def IG (n lo:Nat) (a:LC) (_:WT) (fr:Fr) (H:Hp) (nx:Nat) (Q:QT):Prop:=fu P n lo a fr H nx Q
def IF (id:Nat) (fr:Fr) (H:Hp) (nx:Nat) (Q:QT):Prop:=Q (.exit id) fr H nx
def J6 (fr:Fr) (H:Hp) (nx:Nat) (Q:QT):Prop:=Q .ret fr H nx
noncomputable def W (n lo:Nat) (lc:LC):WT:=LC.rec (motive:=fun _=>WT) IH (AE P) (ED P) J7 vM EC (IG P n lo) IF J6 lc
end
section
variable {P:Program}
theorem nF {nx:Nat} {ov:Ov} {f fr:Fr} {H:Hp} {op:cr} {K:AV→Hp→Nat→Prop} (hF:mT f ov fr) (h:sS P nx (eE ov fr) H op K):dD P nx f H op K:=by
 by_cases hc:∃g as,op= .call g as
 ·obtain⟨fo,as,rfl⟩:=hc
  simp only[sS] at h
  obtain⟨h1,h2⟩:=bw h
  obtain⟨h3,h4⟩:=eG h2
  simp only[dD]
  rw[hF.raw fo (h1 trivial),jL (R:=eE ov fr) fun x hx=>hF.raw x (h3 trivial x hx)]
  split at h4
  ·rename_i he
   rw[he]
   rw[fk] at h4
   exact h4.ok
  ·rename_i he
   rw[he]
   rw[fk] at h4
   exact h4.ok
  ·exact h4.elim
 ·have e1:sS P nx (eE ov fr) H op K=mM none H (eE ov fr) nx op fun r u=>K r (cp H u) (nx+1):=by cases op<;>first|rfl|exact absurd ⟨_,_,rfl⟩ hc
  have e2:dD P nx f H op K=hC (bk nx f H op) fun p=>K p.1 (cp H p.2) (nx+1):=by cases op<;>first|rfl|exact absurd ⟨_,_,rfl⟩ hc
  rw[e1] at h
  obtain⟨r,u,h1,h2⟩:=iJ h
  rw[e2,(h2 trivial).2 f fun x hx=>hF.raw x hx]
  exact h1
theorem qy {nx:Nat} {g:Bool} {ov:Ov} {fr:Fr} {H:Hp} {op:cr} {K:AV→Prop} (h:j8 P nx g (eE ov fr) H op K):
 ∃r,K r∧(g=true→∀f,mT f ov fr→∀K':AV→Hp→Nat→Prop,K' r H (nx+1)→dD P nx f H op K'):=by
 by_cases hc:∃g as,op= .call g as
 ·obtain⟨fo,as,rfl⟩:=hc
  simp only[j8] at h
  obtain⟨h1,h2⟩:=bw h
  obtain⟨h3,h4⟩:=eG h2
  split at h4
  ·rename_i he
   rw[fk] at h4
   obtain⟨r,h5,h6⟩:=h4.ok
   refine⟨r,h6,fun hg f hF K' hK'=> ?_⟩
   simp only[dD]
   rw[hF.raw fo (h1 hg),jL (R:=eE ov fr) fun x hx=>hF.raw x (h3 hg x hx),he]
   exact h5 hg K' hK'
  ·exact h4.elim
 ·have e1:j8 P nx g (eE ov fr) H op K=mM (some g) H (eE ov fr) nx op fun r u=>match u with|none=>K r|some _=>False:=by cases op<;>first|rfl|exact absurd ⟨_,_,rfl⟩ hc
  rw[e1] at h
  obtain⟨r,u,h1,h2⟩:=iJ h
  cases u with
  |some p=>exact h1.elim
  |none=>
   refine⟨r,h1,fun hg f hF K' hK'=> ?_⟩
   have e2:dD P nx f H op K'=hC (bk nx f H op) fun p=>K' p.1 (cp H p.2) (nx+1):=by cases op<;>first|rfl|exact absurd ⟨_,_,rfl⟩ hc
   rw[e2,(h2 hg).2 f fun x hx=>hF.raw x hx]
   exact hK'
theorem eR:∀{gs:List fC} {nx:Nat} {ov:Ov} {f fr:Fr} {H:Hp} {K:Ov→Hp→Nat→Prop},mT f ov fr→yV P nx gs ov fr H K→du P nx gs f H (fun f1 H1 nx1=>∃ov1,mT f1 ov1 fr∧K ov1 H1 nx1)
 |[],nx,ov,f,fr,H,K,hF,h=>⟨ov,hF,h⟩
 |g::gs,nx,ov,f,fr,H,K,hF,h=>by
  have join:∀{q t:Bool} {d:Nat} {want:Bool},g.guard=some (d,want)→(q=true→cJ f d= .sc (.bool t))→(q=false→cJ f d= .sc undef)→∀{gg:Bool},(gg=true↔(q=true∧t=want))→
   (j8 P nx gg (eE ov fr) H g.op fun r=>yV P (nx+1) gs (fN ov g.dst (some gg) r) fr H K)→du P nx (g::gs) f H (fun f1 H1 nx1=>∃ov1,mT f1 ov1 fr∧K ov1 H1 nx1):=by
   intro q t d want hg hq1 hq2 gg hgg hJ
   obtain⟨r,h1,h2⟩:=qy hJ
   simp only[du,hg,cn]
   cases q with
   |true=>
    simp only[hq1 rfl]
    by_cases ht:t=want
    ·rw[if_pos ht]
     have hgt:=hgg.2 ⟨rfl,ht⟩
     exact h2 hgt f hF _ (eR (hF.pI g.dst (u:=r) (fun _=>rfl) fun h=>by rw[hgt] at h;cases h) h1)
    ·rw[if_neg ht]
     have hgf:gg=false:=by cases hgg':gg<;>simp_all
     exact eR (hF.pI g.dst (u:= .sc undef) (fun h=>by rw[hgf] at h;cases h) fun _=>rfl) h1
   |false=>
    simp only[hq2 rfl]
    have hgf:gg=false:=by cases hgg':gg<;>simp_all
    have:=eR (hF.pI g.dst (u:= .sc undef) (q:=gg) (fun h=>by rw[hgf] at h;cases h) fun _=>rfl) h1
    exact this
  have h:mV P g gs (fun nx ov fr H K=>yV P nx gs ov fr H K) nx ov fr H K:=h
  simp only[mV] at h
  split at h
  ·rename_i hg
   simp only[du,hg,cn]
   exact(nF hF h).mono fun r H' nx' hh=>eR (hF.put g.dst r) hh
  ·rename_i d want hg
   have hd:=hF d
   split at h
   ·rename_i t he
    rw[he] at hd
    simp only at hd
    rcases h.ok with⟨hA,hB⟩|hJ
    ·simp only[du,hg,cn,hd]
     by_cases ht:t=want
     ·rw[if_pos ht]
      exact(nF hF (hA ht)).mono fun r H' nx' hh=>eR (hF.put g.dst r) hh
     ·rw[if_neg ht]
      exact eR (hF.put g.dst _) (hB ht)
    ·cases want with
     |true=>exact join (q:=true) hg (fun _=>hd) (fun h=>by cases h) (gg:=t) (by simp) hJ
     |false=>exact join (q:=true) hg (fun _=>hd) (fun h=>by cases h) (gg:= !t) (by simp) hJ
   ·rename_i q t he
    rw[he] at hd
    simp only at hd
    cases want with
    |true=>exact join hg hd.1 hd.2 (gg:=q&&t) (by simp) h
    |false=>exact join hg hd.1 hd.2 (gg:=q&& !t) (by simp) h
   ·rename_i v he
    rw[he] at hd
    simp only at hd
    simp only[du,hg,cn,hd]
    exact eR (hF.put g.dst _) h
   ·exact h.elim
def yT:Tr→Tr→Prop
 |[],[]=>True
 |a::r,b::s=>(∀x∈a.1,x∈b.1)∧a.2=b.2∧yT r s
 |_,_=>False
theorem yT.snoc {a b:List Nat} {u:Option Nat} (h1:∀x∈a,x∈b):∀{r s:Tr},yT r s→yT (r++[(a,u)]) (s++[(b,u)])
 |[],[],_=>⟨h1,rfl,trivial⟩
 |x::r,y::s,h=>⟨h.1,h.2.1,yT.snoc h1 h.2.2⟩
 |[],_::_,h=>h.elim
 |_::_,[],h=>h.elim
theorem yT.get:∀{r s:Tr},yT r s→∀k,(∀x∈(r.getD k ([],none)).1,x∈(s.getD k ([],none)).1)∧(r.getD k ([],none)).2=(s.getD k ([],none)).2
 |[],[],_,k=>by simp
 |x::r,y::s,h,0=>⟨h.1,h.2.1⟩
 |x::r,y::s,h,k+1=>by simpa using yT.get h.2.2 k
 |[],_::_,h,_=>h.elim
 |_::_,[],h,_=>h.elim
theorem yT.yg {r s:Tr} (h:yT r s) {ps:List (Nat×Nat)} (hf:fj s ps):fj r ps:=by
 intro p hp
 obtain⟨h1,h2,h3⟩:=hf p hp
 obtain⟨a1,a2⟩:=h.get p.1
 obtain⟨b1,b2⟩:=h.get p.2
 exact⟨fun b hb hm=>h1 b (by rw[←a2];exact hb) (b1 b hm),fun b hb hm=>h2 b (by rw[←b2];exact hb) (a1 b hm),fun b hb=>h3 b ⟨by rw[←a2];exact hb.1,by rw[←b2];exact hb.2⟩⟩
theorem xR {ov:Ov} {f fr:Fr} {op:cr} (hF:mT f ov fr) (h:op.rd=true→∀y∈op.dV,zY (eE ov fr) y):∀x∈de f op,x∈zF (eE ov fr) op:=by
 intro x hx
 unfold de at hx
 unfold zF
 split at hx
 ·rename_i hr
  rw[if_pos hr]
  obtain⟨y,hy,hm⟩:=List.mem_flatMap.1 hx
  exact List.mem_flatMap.2 ⟨y,hy,by rw[←hF.raw y (h hr y hy)];exact hm⟩
 ·cases hx
theorem lV {id:Nat} {ov:Ov} {fr:Fr} {H:Hp} {op:cr} {K:AV→Option (Nat×dt)→List Nat→Prop} (h:kn P id (eE ov fr) H op K) {f:Fr} (hF:mT f ov fr):
 hX P id f H op (fun r u S'=>∃S,(∀x∈S',x∈S)∧K r u S):=by
 by_cases hc:∃g as,op= .call g as
 ·obtain⟨fo,as,rfl⟩:=hc
  simp only[kn] at h
  obtain⟨h1,h2⟩:=bw h
  obtain⟨h3,h4⟩:=eG h2
  split at h4
  ·rename_i he
   rw[fk] at h4
   obtain⟨r,u,S,h5,h6⟩:=h4.ok
   refine⟨r,u,S, ?_,S,fun _ h=>h,h6⟩
   rw[hF.raw fo (h1 trivial),jL (R:=eE ov fr) fun x hx=>hF.raw x (h3 trivial x hx),he]
   simpa[kX] using h5
  ·exact h4.elim
 ·have e1:kn P id (eE ov fr) H op K=mM none H (eE ov fr) id op fun r u=>K r u (zF (eE ov fr) op):=by cases op<;>first|rfl|exact absurd ⟨_,_,rfl⟩ hc
  rw[e1] at h
  obtain⟨r,u,h1,h2⟩:=iJ h
  obtain⟨h3,h4⟩:=h2 trivial
  have e2:∀K',hX P id f H op K'=hC (bk id f H op) fun p=>K' p.1 p.2 (de f op):=by intro K';cases op<;>first|rfl|exact absurd ⟨_,_,rfl⟩ hc
  rw[e2,h4 f fun x hx=>hF.raw x hx]
  exact⟨_,xR hF h3,h1⟩
theorem qx {id:Nat} {g:Bool} {ov:Ov} {fr:Fr} {H:Hp} {op:cr} {K:AV→List Nat→Prop} (h:gB P id g (eE ov fr) H op K):
 ∃r S,K r S∧(g=true→∀f,mT f ov fr→∀K':AV→Option (Nat×dt)→List Nat→Prop,(∀S',(∀x∈S',x∈S)→K' r none S')→hX P id f H op K'):=by
 by_cases hc:∃g as,op= .call g as
 ·obtain⟨fo,as,rfl⟩:=hc
  simp only[gB] at h
  obtain⟨h1,h2⟩:=bw h
  obtain⟨h3,h4⟩:=eG h2
  split at h4
  ·rename_i he
   rw[fk] at h4
   obtain⟨r,S,h5,h6⟩:=h4.ok
   refine⟨r,S,h6,fun hg f hF K' hK'=>⟨r,none,S, ?_,hK' S fun _ h=>h⟩⟩
   rw[hF.raw fo (h1 hg),jL (R:=eE ov fr) fun x hx=>hF.raw x (h3 hg x hx),he]
   simpa[kX] using h5 hg
  ·exact h4.elim
 ·have e1:gB P id g (eE ov fr) H op K=mM (some g) H (eE ov fr) id op fun r u=>match u with|none=>K r (zF (eE ov fr) op)|some _=>False:=by cases op<;>first|rfl|exact absurd ⟨_,_,rfl⟩ hc
  rw[e1] at h
  obtain⟨r,u,h1,h2⟩:=iJ h
  cases u with
  |some p=>exact h1.elim
  |none=>
   refine⟨r,_,h1,fun hg f hF K' hK'=> ?_⟩
   obtain⟨h3,h4⟩:=h2 hg
   have e2:hX P id f H op K'=hC (bk id f H op) fun p=>K' p.1 p.2 (de f op):=by cases op<;>first|rfl|exact absurd ⟨_,_,rfl⟩ hc
   rw[e2,h4 f fun x hx=>hF.raw x hx]
   exact hK' _ (xR hF h3)
theorem eZ:∀{gs:List fC} {id:Nat} {ov:Ov} {f fr:Fr} {H:Hp} {tr tr':Tr} {K:Ov→Hp→Tr→Prop},mT f ov fr→yT tr' tr→WD P id gs ov fr H tr K→ff P id gs f H tr' (fun f1 H1 tr1=>∃ov1 trj,mT f1 ov1 fr∧yT tr1 trj∧K ov1 H1 trj)
 |[],id,ov,f,fr,H,tr,tr',K,hF,hT,h=>⟨ov,tr,hF,hT,h⟩
 |g::gs,id,ov,f,fr,H,tr,tr',K,hF,hT,h=>by
  have join:∀{q t:Bool} {d:Nat} {want:Bool},g.guard=some (d,want)→(q=true→cJ f d= .sc (.bool t))→(q=false→cJ f d= .sc undef)→∀{gg:Bool},(gg=true↔(q=true∧t=want))→
   (gB P id gg (eE ov fr) H g.op fun r S=>WD P (id+1) gs (fN ov g.dst (some gg) r) fr H (tr++[(S,none)]) K)→ff P id (g::gs) f H tr' (fun f1 H1 tr1=>∃ov1 trj,mT f1 ov1 fr∧yT tr1 trj∧K ov1 H1 trj):=by
   intro q t d want hg hq1 hq2 gg hgg hJ
   obtain⟨r,S,h1,h2⟩:=qx hJ
   simp only[ff,hg,cn]
   cases q with
   |true=>
    simp only[hq1 rfl]
    by_cases ht:t=want
    ·rw[if_pos ht]
     have hgt:=hgg.2 ⟨rfl,ht⟩
     refine h2 hgt f hF _ fun S' hS=> ?_
     exact eZ (hF.pI g.dst (u:=r) (fun _=>rfl) fun h=>by rw[hgt] at h;cases h) (hT.snoc hS) h1
    ·rw[if_neg ht]
     have hgf:gg=false:=by cases hgg':gg<;>simp_all
     exact eZ (hF.pI g.dst (u:= .sc undef) (fun h=>by rw[hgf] at h;cases h) fun _=>rfl) (hT.snoc (a:=[]) (b:=S) (fun _ h=>by cases h)) h1
   |false=>
    simp only[hq2 rfl]
    have hgf:gg=false:=by cases hgg':gg<;>simp_all
    have:=eZ (hF.pI g.dst (u:= .sc undef) (q:=gg) (fun h=>by rw[hgf] at h;cases h) fun _=>rfl) (hT.snoc (a:=[]) (b:=S) (fun _ h=>by cases h)) h1
    exact this
  have h:lU P g gs (fun id ov fr H tr K=>WD P id gs ov fr H tr K) id ov fr H tr K:=h
  simp only[lU] at h
  split at h
  ·rename_i hg
   simp only[ff,hg,cn]
   refine(lV h hF).mono ?_
   rintro r u S' ⟨S,hS,hh⟩
   exact eZ (hF.put g.dst r) (hT.snoc hS) hh
  ·rename_i d want hg
   have hd:=hF d
   split at h
   ·rename_i t he
    rw[he] at hd
    simp only at hd
    rcases h.ok with⟨hA,hB⟩|hJ
    ·simp only[ff,hg,cn,hd]
     by_cases ht:t=want
     ·rw[if_pos ht]
      refine(lV (hA ht) hF).mono ?_
      rintro r u S' ⟨S,hS,hh⟩
      exact eZ (hF.put g.dst r) (hT.snoc hS) hh
     ·rw[if_neg ht]
      exact eZ (hF.put g.dst _) (hT.snoc (a:=[]) (b:=[]) (fun _ h=>h)) (hB ht)
    ·cases want with
     |true=>exact join (q:=true) hg (fun _=>hd) (fun h=>by cases h) (gg:=t) (by simp) hJ
     |false=>exact join (q:=true) hg (fun _=>hd) (fun h=>by cases h) (gg:= !t) (by simp) hJ
   ·rename_i q t he
    rw[he] at hd
    simp only at hd
    cases want with
    |true=>exact join hg hd.1 hd.2 (gg:=q&&t) (by simp) h
    |false=>exact join hg hd.1 hd.2 (gg:=q&& !t) (by simp) h
   ·rename_i v he
    rw[he] at hd
    simp only at hd
    simp only[ff,hg,cn,hd]
    exact eZ (hF.put g.dst _) (hT.snoc (a:=[]) (b:=[]) (fun _ h=>h)) h
   ·exact h.elim
theorem iU:∀{segs:List nz} {nx:Nat} {ov:Ov} {f fr:Fr} {H:Hp} {K:Ov→Hp→Nat→Prop},mT f ov fr→WS P nx segs ov fr H K→fM P nx segs f H (fun f1 H1 nx1=>∃ov1,mT f1 ov1 fr∧K ov1 H1 nx1)
 |[],nx,ov,f,fr,H,K,hF,h=>⟨ov,hF,h⟩
 |⟨[g],ps⟩::rest,nx,ov,f,fr,H,K,hF,h=>by
  have h:yV P nx [g] ov fr H fun ov' H' nx'=>WS P nx' rest ov' fr H' K:=h
  refine du.mono (K':=fun a b c=>fM P c rest a b _) (eR hF h) ?_
  rintro f1 H1 nx1 ⟨ov1,h1,h2⟩
  exact iU h1 h2
 |⟨[],[]⟩::rest,nx,ov,f,fr,H,K,hF,h=>by
  have h:WE P nx [] ov fr H [] fun ov' H' _=>WS P (nx+0) rest ov' fr H' K:=h
  rw[sR,List.reverse_nil] at h
  simp only[fM]
  refine ff.mono (eZ hF (tr':=[]) (tr:=[]) trivial h) ?_
  rintro f1 H1 tr1 ⟨ov1,trj,h1,h2,h3⟩
  exact⟨(fun p hp=>by cases hp),iU h1 h3⟩
 |⟨[],p::ps⟩::rest,nx,ov,f,fr,H,K,hF,h=>by
  have h:WE P nx [] ov fr H [] fun ov' H' tr=>Ask (fj tr.reverse (p::ps))∧WS P (nx+0) rest ov' fr H' K:=h
  rw[sR,List.reverse_nil] at h
  simp only[List.reverse_reverse] at h
  simp only[fM]
  refine ff.mono (eZ hF (tr':=[]) (tr:=[]) trivial h) ?_
  rintro f1 H1 tr1 ⟨ov1,trj,h1,h2,h3⟩
  exact⟨h2.yg h3.1.ok,iU h1 h3.2⟩
 |⟨g1::g2::gs,[]⟩::rest,nx,ov,f,fr,H,K,hF,h=>by
  have h:WE P nx (g1::g2::gs) ov fr H [] fun ov' H' _=>WS P (nx+(g1::g2::gs).length) rest ov' fr H' K:=h
  rw[sR,List.reverse_nil] at h
  simp only[fM]
  refine ff.mono (eZ hF (tr':=[]) (tr:=[]) trivial h) ?_
  rintro f1 H1 tr1 ⟨ov1,trj,h1,h2,h3⟩
  exact⟨(fun p hp=>by cases hp),iU h1 h3⟩
 |⟨g1::g2::gs,p::ps⟩::rest,nx,ov,f,fr,H,K,hF,h=>by
  have h:WE P nx (g1::g2::gs) ov fr H [] fun ov' H' tr=>Ask (fj tr.reverse (p::ps))∧WS P (nx+(g1::g2::gs).length) rest ov' fr H' K:=h
  rw[sR,List.reverse_nil] at h
  simp only[List.reverse_reverse] at h
  simp only[fM]
  refine ff.mono (eZ hF (tr':=[]) (tr:=[]) trivial h) ?_
  rintro f1 H1 tr1 ⟨ov1,trj,h1,h2,h3⟩
  exact⟨h2.yg h3.1.ok,iU h1 h3.2⟩
theorem Holds.less {w0:World} {M0:Nat→Prop} {c0:Cx} {lo n:Nat} {fr fr':Fr} {H:Hp} {nx:Nat} {a:Act} {w:World} (h:Holds w0 M0 c0 lo n fr H nx a w) (hf:∀t,cJ fr' t= .any∨cJ fr' t=cJ fr t):Holds w0 M0 c0 lo n fr' H nx a w:=by
 obtain⟨h1,h2,ρ,U,hU,hS,hF,hT⟩:=h
 refine⟨h1,h2,ρ,U,hU,hS,fun t=> ?_,hT⟩
 rcases hf t with h|h
 ·rw[h,VR];trivial
 ·rw[h];exact hF t
theorem WL.less {n lo:Nat} {lc:LC} {fr:Fr} {H:Hp} {nx:Nat} {Q:QT} (h:WL P n lo lc fr H nx (fun e f H nx=>∃f',(∀t,cJ f' t= .any∨cJ f' t=cJ f t)∧Q e f' H nx)):WL P n lo lc fr H nx Q:=
 fun code hc w0 M0 c0 a w hh=>Code.wp_mono (fun _ _ _ ⟨x,f,H,nx,he,⟨f',h1,h2⟩,hhh⟩=>⟨x,f',H,nx,he,h2,hhh.less h1⟩) (h code hc w0 M0 c0 a w hh)
theorem mT.less {f:Fr} {ov:Ov} {fr:Fr} (h:mT f ov fr) (t:Nat):cJ (fU ov fr) t= .any∨cJ (fU ov fr) t=cJ f t:=by
 rcases kz (ov:=ov) (fr:=fr) (t:=t) with h1|⟨v,h1,h2⟩
 ·exact .inl h1
 ·have:=h t
  rw[h1] at this
  exact .inr (h2.trans this.symm)
theorem fc.of {segs:List nz} {fr:Fr} {H:Hp} {nx:Nat} {Q:QT} (h:WS P nx segs [] fr H fun ov H' nx'=>Q .normal (fU ov fr) H' nx'):fc P segs fr H nx Q:=
 ⟨fun _ _=>WL.less (WL.drawn (fM.mono (iU (mT.refl fr) h) fun _ _ _ ⟨_,h1,h2⟩=>⟨_,h1.less,h2⟩))⟩
theorem ee {n lo:Nat}:∀{lc:LC} {fr:Fr} {H:Hp} {nx:Nat} {Q:QT},W P n lo lc fr H nx Q→WL P n lo lc fr H nx Q
 | .skip,_,_,_,_,h=>WL.skip h
 | .ret,_,_,_,_,h=>WL.ret h
 | .exit _,_,_,_,_,h=>WL.exit h
 | .region gs,fr,H,nx,Q,h=>WL.less (WL.region (du.mono (eR (mT.refl fr) h) fun _ _ _ ⟨_,h1,h2⟩=>⟨_,h1.less,h2⟩))
 | .drawn segs,fr,H,nx,Q,h=>fc.ok (P:=P) h n lo
 | .seq a b,fr,H,nx,Q,h=>WL.seq ((ee (lc:=a) (Q:=gv (fun fr H nx=>W P n lo b fr H nx Q) Q) h).mono fun e fr H nx hh=>by
  cases e with
  |normal=>exact ee (lc:=b) hh
  |exit id=>exact hh
  |ret=>exact hh)
 | .cond c a b,fr,H,nx,Q,h=>by
  have h:vM c a b (W P n lo a) (W P n lo b) fr H nx Q:=h
  simp only[vM] at h
  split at h
  ·rename_i t ht
   exact WL.cond ht (fun h1=>ee (lc:=a) (h.ok.1 h1)) (fun h1=>ee (lc:=b) (h.ok.2 h1))
  ·rename_i ht
   exact WL.IQ ht (ee (lc:=a) h.1) (ee (lc:=b) h.2)
  ·exact h.elim
 | .block id a,fr,H,nx,Q,h=>WL.block (ee (lc:=a) h)
 | .loop a,fr,H,nx,Q,h=>h.ok
theorem fu.inv {n lo:Nat} {x:LC} {fr:Fr} {H:Hp} {nx:Nat} {Q:QT} {σ:Type} (I:σ→Fr→Hp→Nat→Prop) (μ:σ→Nat) (s0:σ) (h0:∃fr',(∀t,cJ fr' t= .any∨cJ fr' t=cJ fr t)∧I s0 fr' H nx)
 (round:∀s fr H nx,I s fr H nx→WL P n lo x fr H nx (gv (fun fr' H' nx'=>∃s',μ s'<μ s∧∃fr2,(∀t,cJ fr2 t= .any∨cJ fr2 t=cJ fr' t)∧I s' fr2 H' nx') Q)):fu P n lo x fr H nx Q:=by
 refine⟨fun code hc w0 M0 c0 a w hh=> ?_⟩
 have:∃c1,code= .loop c1∧cS P n c1=some x:=by
  cases code<;>simp only[cS] at hc
  case loop c1=>
   simp only[Option.map_eq_some_iff,LC.loop.injEq] at hc
   obtain⟨x',h1,rfl⟩:=hc
   exact⟨c1,rfl,h1⟩
  all_goals (exfalso;repeat' (split at hc))<;>simp at hc
 obtain⟨c1,rfl,h1⟩:=this
 intro b k cs
 have key:∀m,∀s,μ s=m→∀fr H nx,I s fr H nx→∀a w,Holds w0 M0 c0 lo n fr H nx a w→
  ∃e a' w',LQ w0 M0 c0 lo n Q e a' w'∧Arrives P (lone (b.at a (.code c1:: .inLoop c1::k)) cs w) b k cs e a' w':=by
  intro m
  induction m using Nat.strongRecOn with
  |_ m ih=>
   intro s hs fr H nx hI a w hh
   obtain⟨e,a1,w1,hq,harr⟩:=round s fr H nx hI c1 h1 w0 M0 c0 a w hh b (.inLoop c1::k) cs
   obtain⟨x',fr',H',nx',rfl,hQ,hh'⟩:=hq
   cases x' with
   |normal=>
    obtain⟨s',hlt,fr2,hless,hI'⟩:=hQ
    obtain⟨e2,a2,w2,hq2,harr2⟩:=ih (μ s') (by omega) s' rfl fr2 H' nx' hI' a1 w1 (hh'.less hless)
    exact⟨e2,a2,w2,hq2, .of_steps (Steps.trans harr (.one step_inLoop)) harr2⟩
   |exit id=>exact⟨_,a1,w1,⟨.exit id,fr',H',nx',rfl,hQ,hh'⟩, .pass (x:= .inLoop c1) rfl (fun _ _=> .inl (by simp[Ex.to])) harr⟩
   |ret=>exact⟨_,a1,w1,⟨.ret,fr',H',nx',rfl,hQ,hh'⟩, .pass (x:= .inLoop c1) rfl (fun _ _=> .inl (by simp[Ex.to])) harr⟩
 obtain⟨fr',hless,hI⟩:=h0
 obtain⟨e,a',w',hq,harr⟩:=key _ s0 rfl fr' H nx hI a w (hh.less hless)
 exact⟨e,a',w',hq, .of_steps (.one step_loop) harr⟩
def iE (fr:Fr):Fr→Prop
 |[]=>True
 |(t,v)::r=>cJ fr t=v∧iE fr r
theorem fE {fr:Fr}:∀{fr':Fr},iE fr fr'→∀t,cJ fr' t= .any∨cJ fr' t=cJ fr t
 |[],_,t=> .inl rfl
 |(d,v)::r,h,t=>by
  simp only[cJ]
  by_cases ht:t=d
  ·subst ht;rw[if_pos rfl];exact .inr h.1.symm
  ·rw[if_neg ht];exact fE h.2 t
theorem fu.fr {n lo:Nat} {x:LC} {fr:Fr} {H:Hp} {nx:Nat} {Q:QT} {σ:Type} (F:σ→Fr) (I:σ→Hp→Nat→Prop) (μ:σ→Nat) (s0:σ) (h0:iE fr (F s0)) (h1:I s0 H nx)
 (round:∀s H nx,I s H nx→W P n lo x (F s) H nx (gv (fun fr' H' nx'=>∃s',μ s'<μ s∧iE fr' (F s')∧I s' H' nx') Q)):fu P n lo x fr H nx Q:=by
 refine fu.inv (fun s fr H nx=>fr=F s∧I s H nx) μ s0 ⟨F s0,fE h0,rfl,h1⟩ ?_
 rintro s fr H nx ⟨rfl,hI⟩
 refine(ee (round s H nx hI)).mono ?_
 intro e fr' H' nx' hh
 cases e with
 |normal=>
  obtain⟨s',h2,h3,h4⟩:=hh
  exact⟨s',h2,F s',fE h3,rfl,h4⟩
 |exit id=>exact hh
 |ret=>exact hh
end
end Go.cN
end
