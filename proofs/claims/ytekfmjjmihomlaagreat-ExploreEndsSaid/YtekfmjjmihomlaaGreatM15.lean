import Derived.Test.YtekfmjjmihomlaaGreatM9
section
/- A run by reduction alone: the code is walked by the reducer; what is to be shown stands out as questions. -/
set_option linter.unusedSimpArgs false
set_option linter.unusedVariables false
namespace Go.cZ
open Go.RowKit
structure Ask (p:Prop):Prop where
 ok:p
def dw:Option Bool→Prop→Prop
 |none,p=>Ask p
 |some g,p=>Ask (g=true→p)
def Gd:Option Bool→Prop
 |none=>True
 |some g=>g=true
theorem cY {g:Option Bool} {p:Prop}:dw g p↔(Gd g→p):=by
 cases g with
 |none=>exact⟨fun h _=>h.ok,fun h=>⟨h trivial⟩⟩
 |some g=>exact⟨fun h=>h.ok,fun h=>⟨h⟩⟩
abbrev Ov:=List (Nat×Option Bool×AV)
def pC:Ov→Fr→Nat→Option Bool×AV
 |[],fr,t=>(none,ca fr t)
 |(d,c,v)::r,fr,t=>bif Nat.beq t d then(c,v) else pC r fr t
def gY (ov:Ov) (d:Option Nat) (c:Option Bool) (v:AV):Ov:=
 match d with
 |some d=>(d,c,v)::ov
 |none=>ov
def gq:Ov→Fr→Fr
 |[],fr=>fr
 |(d,none,v)::r,fr=>(d,v)::gq r fr
 |(d,some _,_)::r,fr=>(d, .any)::gq r fr
def fA (ov:Ov) (fr:Fr):eB→Option Bool×AV
 | .t n=>pC ov fr n
 | .c v=>(none, .sc v)
 | .f n=>(none, .fn (.func n) [] [])
 | .m nm n=>match pC ov fr n with
  |(g, .lY t v)=>(g, .fn (.method nm) [.lY t v] [])
  |(g,_)=>(g, .any)
theorem qG {t d:Nat} (h:¬t=d):Nat.beq t d=false:=by
 cases hb:Nat.beq t d with
 |false=>rfl
 |true=>exact absurd (Nat.eq_of_beq_eq_true hb) h
def oe (f:Fr) (ov:Ov) (fr:Fr):Prop:=
 ∀t,match pC ov fr t with
  |(none,v)=>ca f t=v
  |(some q,v)=>(q=true→ca f t=v)∧(q=false→ca f t= .sc undef)
theorem oe.refl (fr:Fr):oe fr [] fr:=fun _=>rfl
theorem oe.put {f:Fr} {ov:Ov} {fr:Fr} (h:oe f ov fr) (d:Option Nat) (v:AV):oe (fN f d v) (gY ov d none v) fr:=by
 cases d with
 |none=>exact h
 |some d=>
  intro t
  simp only[gY,fN,pC,ca]
  by_cases ht:t=d
  ·subst ht;simp
  ·have:Nat.beq t d=false:=qG ht
   rw[this,if_neg ht];exact h t
theorem oe.qA {f:Fr} {ov:Ov} {fr:Fr} (h:oe f ov fr) (d:Option Nat) {q:Bool} {u v:AV} (h1:q=true→u=v) (h2:q=false→u= .sc undef):oe (fN f d u) (gY ov d (some q) v) fr:=by
 cases d with
 |none=>exact h
 |some d=>
  intro t
  simp only[gY,fN,pC,ca]
  by_cases ht:t=d
  ·subst ht;simpa using⟨h1,h2⟩
  ·have:Nat.beq t d=false:=qG ht
   rw[this,if_neg ht];exact h t
theorem oe.raw {f:Fr} {ov:Ov} {fr:Fr} (h:oe f ov fr) (x:eB) (hq:∀q,(fA ov fr x).1=some q→q=true):ev f x=(fA ov fr x).2:=by
 cases x with
 |t n=>
  have:=h n
  simp only[ev,fA] at hq ⊢
  split at this
  ·rename_i v he;rw[this,he]
  ·rename_i q v he;rw[he] at hq ⊢;exact this.1 (hq q rfl)
 |c v=>rfl
 |f n=>rfl
 |m nm n=>
  have:=h n
  simp only[ev,fA] at hq ⊢
  generalize pC ov fr n=x at this hq ⊢
  obtain⟨g,v⟩:=x
  have hv:ca f n=v:=by
   cases g with
   |none=>exact this
   |some q=>
    refine this.1 (hq q ?_)
    cases v<;>rfl
  rw[hv]
  cases v<;>rfl
theorem nD {fr:Fr} {t:Nat}:∀{ov:Ov},ca (gq ov fr) t= .any∨∃v,pC ov fr t=(none,v)∧ca (gq ov fr) t=v
 |[]=> .inr ⟨_,rfl,rfl⟩
 |(d,none,v)::r=>by
  simp only[gq,ca,pC]
  by_cases ht:t=d
  ·subst ht;simp
  ·have:Nat.beq t d=false:=qG ht
   rw[this,if_neg ht];exact nD
 |(d,some q,v)::r=>by
  simp only[gq,ca,pC]
  by_cases ht:t=d
  ·subst ht;simp
  ·have:Nat.beq t d=false:=qG ht
   rw[this,if_neg ht];exact nD
abbrev Raw:=eB→Option Bool×AV
def dJ (g:Option Bool) (R:Raw) (x:eB) (K:AV→Prop):Prop:=
 match R x with
 |(none,v)=>K v
 |(some q,v)=>dw g (q=true)∧K v
def D6 (R:Raw) (x:eB):Prop:=∀q,(R x).1=some q→q=true
theorem cN {g:Option Bool} {R:Raw} {x:eB} {K:AV→Prop} (h:dJ g R x K):(Gd g→D6 R x)∧K (R x).2:=by
 unfold dJ at h
 split at h
 ·rename_i v he;rw[he];exact⟨fun _ q hq=>(by rw[he] at hq;cases hq),h⟩
 ·rename_i q v he
  rw[he]
  exact⟨fun hg q' hq=>(by rw[he] at hq;cases hq;exact cY.1 h.1 hg),h.2⟩
def yp (K:List AV→Prop):Prop:=K []
def vw (g:Option Bool) (R:Raw) (x:eB) (_:List eB) (ih:(List AV→Prop)→Prop) (K:List AV→Prop):Prop:=dJ g R x fun a=>ih fun as=>K (a::as)
noncomputable def ji (g:Option Bool) (R:Raw) (xs:List eB):(List AV→Prop)→Prop:=List.rec (motive:=fun _=>(List AV→Prop)→Prop) yp (vw g R) xs
theorem fE {g:Option Bool} {R:Raw}:∀{xs:List eB} {K:List AV→Prop},ji g R xs K→(Gd g→∀x∈xs,D6 R x)∧K (xs.map fun x=>(R x).2)
 |[],K,h=>⟨fun _ _ h=>(by cases h),h⟩
 |x::r,K,h=>by
  obtain⟨h1,h2⟩:=cN h
  obtain⟨h3,h4⟩:=fE h2
  refine⟨fun hg y hy=> ?_,h4⟩
  rcases List.mem_cons.1 hy with rfl|hy
  ·exact h1 hg
  ·exact h3 hg y hy
theorem kX {f:Fr} {R:Raw}:∀{xs:List eB},(∀x∈xs,ev f x=(R x).2)→pV f xs=xs.map fun x=>(R x).2
 |[],_=>rfl
 |x::r,h=>by
  simp only[pV,List.map_cons]
  rw[h x (by simp),kX fun y hy=>h y (by simp[hy])]
def fx (v:AV) (K:AV→Prop):Prop:=
 match v with
 | .sc v=>K (.sc v)
 | .any=>K .any
 | .im a b c=>K (.im a b c)
 | .ip a b c d e=>K (.ip a b c d e)
 | .sl a b=>K (.sl a b)
 | .pt a b c d=>K (.pt a b c d)
 | .zc=>K .zc
 | .agg a=>K (.agg a)
 | .dV a=>K (.dV a)
 | .fn a b c=>K (.fn a b c)
 | .lY a b=>K (.lY a b)
 | .mp a=>K (.mp a)
 | .ab=>K .ab
 | .sv a b c d=>K (.sv a b c d)
theorem ew (v:AV) (K:AV→Prop):fx v K=K v:=by cases v<;>rfl
def yy (K:List AV→Prop):Prop:=K []
def vz (a:AV) (_:List AV) (ih:(List AV→Prop)→Prop) (K:List AV→Prop):Prop:=ih fun r'=>K (a::r')
noncomputable def pB (l:List AV):(List AV→Prop)→Prop:=List.rec (motive:=fun _=>(List AV→Prop)→Prop) yy vz l
theorem iH:∀(l:List AV) (K:List AV→Prop),pB l K=K l
 |[],_=>rfl
 |a::r,K=>iH r fun r'=>K (a::r')
structure gP (H:Hp) (b:Nat) (K:TypeId→Nat→AV→List AV→Prop):Prop where
 ok:∃e sz d es,bn H b=some (.row e sz d es)∧K e sz d es
theorem gP.of {H:Hp} {b:Nat} {K:TypeId→Nat→AV→List AV→Prop} {e:TypeId} {sz:Nat} {d:AV} {es:List AV} (h:bn H b=some (.row e sz d es)) (k:K e sz d es):gP H b K:=⟨⟨e,sz,d,es,h,k⟩⟩
structure od (es:List AV) (i:Nat) (d:AV) (K:AV→Prop):Prop where
 ok:K (es.getD i d)
theorem od.of {es:List AV} {i:Nat} {d:AV} {K:AV→Prop} {e:AV} (h:es.getD i d=e) (k:K e):od es i d K:=⟨by rw[h];exact k⟩
structure jZ {α:Type} (x:Option α) (K:α→Prop):Prop where
 ok:∃a,x=some a∧K a
theorem jZ.of {α:Type} {x:Option α} {K:α→Prop} {a:α} (h:x=some a) (k:K a):jZ x K:=⟨⟨a,h,k⟩⟩
structure jK {α:Type} (g:Option Bool) (x:Option α) (K:α→Prop):Prop where
 ok:∃a,(Gd g→x=some a)∧K a
theorem jK.of {α:Type} {g:Option Bool} {x:Option α} {K:α→Prop} {a:α} (h:Gd g→x=some a) (k:K a):jK g x K:=⟨⟨a,h,k⟩⟩
structure pP (H:Hp) (b:Nat) (K:TypeId→AV→List AV→Prop):Prop where
 ok:∃e d es,bn H b=some (.row e 0 d (mapA es))∧K e d es
theorem pP.of {H:Hp} {b:Nat} {K:TypeId→AV→List AV→Prop} {e:TypeId} {d:AV} {es:List AV} (h:bn H b=some (.row e 0 d (mapA es))) (k:K e d es):pP H b K:=⟨⟨e,d,es,h,k⟩⟩
def CH (H:Hp) (v:AV) (K:Nat→TypeId→AV→List AV→Prop):Prop:=
 match v with
 | .mp b=>pP H b (K b)
 |_=>False
theorem kQ {H:Hp} {v:AV} {K:Nat→TypeId→AV→List AV→Prop} (h:CH H v K):∃b e d es,mapOf H v=some (b,e,d,es)∧K b e d es:=by
 cases v<;>simp only[CH] at h
 obtain⟨e,d,es,h1,h2⟩:=h.ok
 exact⟨_,e,d,es,by simp only[mapOf,h1,mapA],h2⟩
structure sM (g:Option Bool) (k:IntKind) (n:Int) (K:Int→Prop):Prop where
 ok:∃m,(Gd g→k.wrap n=m)∧K m
theorem sM.of {g:Option Bool} {k:IntKind} {n:Int} {K:Int→Prop} {m:Int} (h:Gd g→k.wrap n=m) (hK:K m):sM g k n K:=⟨⟨m,h,hK⟩⟩
section
variable (g:Option Bool) (H:Hp)
def SA (ag:Bool) (k:Nat) (e:AV) (sz off:Nat) (K:AV→Prop):Prop:=
 match ag with
 |true=>match e with
  | .agg cs=>bif Nat.beq off 0&&Nat.beq k sz then K (.agg cs) else dw g (off+k≤cs.length)∧K (.agg ((cs.drop off).take k))
  |_=>False
 |false=>match e with
  | .agg cs=>od cs off .any fun v=>fx v K
  | .any=>K .any
  |e=>bif one e then fx e K else False
def lookW (v:AV) (K:Nat→AV→Nat→Prop):Prop:=
 match v with
 | .ip sz d es i off=>od es i d fun e=>K sz e off
 | .pt b len i off=>gP H b fun _ sz d es=>dw g (es.length=len)∧od es i d fun e=>K sz e off
 |_=>False
def qt (k:Nat) (v:AV) (K:List AV→Prop):Prop:=
 match v with
 | .im sz _ es=>bif Nat.beq sz k then K es else False
 | .sl b len=>gP H b fun _ sz _ es=>dw g (es.length=len∧sz=k)∧K es
 | .sc (.slice none 0 0)=>K []
 | .zc=>K []
 | .sv b len lo n=>gP H b fun _ sz _ es=>dw g (es.length=len∧sz=k)∧K ((es.drop lo).take n)
 |_=>False
noncomputable def o6 (R:Raw) (id:Nat) (op:dQ) (K:AV→Option (Nat×eV)→Prop):Prop:=
 match op with
 | .mv x=>dJ g R x fun a=>fx a fun a=>K a none
 | .pick c a b=>dJ g R c fun v=>match v with
  | .sc (.bool t)=>
   let rest:=fun(_:Unit)=>fx (oT t (R a).2 (R b).2) fun v=>K v none
   let r2:=fun(_:Unit)=>match(R b).1 with
    |none=>rest ()
    |some q=>dw g (t=false→q=true)∧rest ()
   match(R a).1 with
   |none=>r2 ()
   |some q=>dw g (t=true→q=true)∧r2 ()
  |_=>False
 | .alloc e sz ag z=>dw g (z.length=sz)∧K (.pt id 1 0 0) (some (id, .row e sz (fZ ag z) [fZ ag z]))
 | .box e sz ag x=>dJ g R x fun v=>dw g (fits ag sz v=true)∧K (.pt id 1 0 0) (some (id, .row e sz .any [v]))
 | .PU z parts=>ji g R (parts.map (·.2.2)) fun as=>jZ (pW (z.map .sc) (List.zipWith (fun p a=>(p.1,p.2.1,a)) parts as)) fun cs=>K (.agg cs) none
 | .NJ e sz ag z n parts=>ji g R (parts.map (·.2)) fun as=>
  dw g (z.length=sz∧(List.zipWith (fun p a=>(p.1,a)) parts as).all (fun p=>decide (p.1<n)&&fits ag sz p.2)=true)∧
  K (.sl id n) (some (id, .row e sz (fZ ag z) ((List.zipWith (fun p a=>(p.1,a)) parts as).foldl (fun l p=>l.set p.1 p.2) (List.replicate n (fZ ag z)))))
 | .ld ag k x=>dJ g R x fun v=>lookW g H v fun sz e off=>SA g ag k e sz off fun r=>K r none
 | .st ag k x y=>dJ g R x fun v=>dJ g R y fun yv=>match v with
  | .pt b len i off=>gP H b fun e sz d es=>dw g (es.length=len)∧od es i d fun gU=>jZ (PD ag k gU yv sz off) fun e'=>K .any (some (b, .row e sz d (es.set i e')))
  |_=>False
 | .O1 x=>dJ g R x fun v=>match v with
  | .pt b len i off=>K (.pt b len i off) none
  | .ip sz d es i off=>K (.ip sz d es i off) none
  | .fn (.func f) p q=>K (.fn (.func f) p q) none
  | .lY t v=>K (.lY t v) none
  |_=>False
 | .bin op x y=>dJ g R x fun a=>dJ g R y fun b=>match op,a,b with
  | .add, .sc (.int k a), .sc (.int k' b)=>dw g (k=k')∧sM g k (a+b) fun m=>K (.sc (.int k m)) none
  | .sub, .sc (.int k a), .sc (.int k' b)=>dw g (k=k')∧sM g k (a - b) fun m=>K (.sc (.int k m)) none
  | .mul, .sc (.int k a), .sc (.int k' b)=>dw g (k=k')∧sM g k (a * b) fun m=>K (.sc (.int k m)) none
  | .eql, .sc (.int k a), .sc (.int k' b)=>dw g (k=k')∧K (.sc (.bool (decide (a=b)))) none
  | .neq, .sc (.int k a), .sc (.int k' b)=>dw g (k=k')∧K (.sc (.bool (decide (a≠b)))) none
  | .lss, .sc (.int k a), .sc (.int k' b)=>dw g (k=k')∧K (.sc (.bool (decide (a<b)))) none
  | .leq, .sc (.int k a), .sc (.int k' b)=>dw g (k=k')∧K (.sc (.bool (decide (a≤b)))) none
  | .gtr, .sc (.int k a), .sc (.int k' b)=>dw g (k=k')∧K (.sc (.bool (decide (b<a)))) none
  | .geq, .sc (.int k a), .sc (.int k' b)=>dw g (k=k')∧K (.sc (.bool (decide (b≤a)))) none
  | .quo, .sc (.int k a), .sc (.int k' b)=>dw g (k=k'∧b≠0)∧K (.sc (.int k (k.wrap (a.tdiv b)))) none
  | .rem, .sc (.int k a), .sc (.int k' b)=>dw g (k=k'∧b≠0)∧K (.sc (.int k (a.tmod b))) none
  | .and, .sc (.int k a), .sc (.int k' b)=>dw g (k=k')∧K (.sc (.int k (k.wrap (BitVec.ofInt k.bits a&&& BitVec.ofInt k.bits b).toNat))) none
  | .or, .sc (.int k a), .sc (.int k' b)=>dw g (k=k')∧K (.sc (.int k (k.wrap (BitVec.ofInt k.bits a|||BitVec.ofInt k.bits b).toNat))) none
  | .xor, .sc (.int k a), .sc (.int k' b)=>dw g (k=k')∧K (.sc (.int k (k.wrap (BitVec.ofInt k.bits a^^^BitVec.ofInt k.bits b).toNat))) none
  | .andNot, .sc (.int k a), .sc (.int k' b)=>dw g (k=k')∧K (.sc (.int k (k.wrap (BitVec.ofInt k.bits a&&& ~~~(BitVec.ofInt k.bits b)).toNat))) none
  | .shl, .sc (.int k a), .sc (.int _ b)=>dw g (0≤b)∧K (.sc (.int k (k.wrap (a * 2^(min b.toNat k.bits))))) none
  | .shr, .sc (.int k a), .sc (.int _ b)=>dw g (0≤b)∧K (.sc (.int k (a.fdiv (2^(min b.toNat k.bits))))) none
  |_,_,_=>False
 | .PV neg x y=>dJ g R x fun a=>dJ g R y fun b=>match a,b with
  | .sc (.bool p), .sc (.bool q)=>(match neg with
   |true=>K (.sc (.bool (p != q))) none
   |false=>K (.sc (.bool (p==q))) none)
  |_,_=>False
 | .tH neg x y=>dJ g R x fun a=>dJ g R y fun b=>match a,b with
  | .sc (.string p), .sc (.string q)=>(match neg with
   |true=>K (.sc (.bool (p != q))) none
   |false=>K (.sc (.bool (p==q))) none)
  |_,_=>False
 | .CS op x y=>dJ g R x fun a=>dJ g R y fun b=>match a,b with
  | .sc (.string p), .sc (.string q)=>(match op with
   | .add=>dw g (p.size+q.size≤9223372036854775807)∧K (.sc (.string (p++q))) none
   | .lss=>K (.sc (.bool (Op.bytesLess p.toList q.toList))) none
   |_=>False)
  |_,_=>False
 | .KR sz ag z x=>dJ g R x fun v=>match v with
  | .sv b len lo n=>gP H b fun e s d es=>dw g (es.length=len∧s=sz∧lo+n≤len)∧K (.dV []) (some (b, .row e s d (es.take lo++List.replicate n (fZ ag z)++es.drop (lo+n))))
  |_=>False
 | .OD x=>dJ g R x fun v=>qt g H 1 v fun xs=>jK g (kT xs) fun ns=>K (.sc (.string (ER ns))) none
 | .un op x=>dJ g R x fun a=>match op,a with
  | .not, .sc (.bool b)=>K (.sc (.bool !b)) none
  | .neg, .sc (.int k n)=>sM g k (0 - n) fun m=>K (.sc (.int k m)) none
  |_,_=>False
 | .QC k x=>dJ g R x fun a=>match a with
  | .sc (.int _ n)=>sM g k n fun m=>K (.sc (.int k m)) none
  |_=>False
 | .fa off x=>dJ g R x fun a=>match a with
  | .ip sz d es i o=>dw g (o+off<sz)∧K (.ip sz d es i (o+off)) none
  | .pt b len i o=>gP H b fun _ sz _ es=>dw g (es.length=len∧o+off<sz)∧K (.pt b len i (o+off)) none
  |_=>False
 | .ia k n x i=>dJ g R x fun v=>dJ g R i fun iv=>match iv with
  | .sc (.int _ j)=>
   (match n with
    |none=>match v with
     | .im sz d es=>dw g (k=sz)∧dw g (0≤j∧j<es.length)∧K (.ip sz d es j.toNat 0) none
     | .sl b len=>gP H b fun _ sz _ es=>dw g (es.length=len∧k=sz)∧dw g (0≤j∧j<len)∧K (.pt b len j.toNat 0) none
     | .sv b len lo m=>gP H b fun _ sz _ es=>dw g (es.length=len∧k=sz)∧dw g (0≤j∧j<m)∧K (.pt b len (lo+j.toNat) 0) none
     |_=>False
    |some m=>match v with
     | .ip sz d es i off=>dw g (off+m * k≤sz)∧dw g (0≤j∧j<m)∧K (.ip sz d es i (off+j.toNat * k)) none
     | .pt b len i off=>gP H b fun _ sz _ es=>dw g (es.length=len∧off+m * k≤sz)∧dw g (0≤j∧j<m)∧K (.pt b len i (off+j.toNat * k)) none
     |_=>False)
  |_=>False
 | .QJ off k ag x=>dJ g R x fun v=>match v with
  | .agg cs=>(match ag with
   |true=>dw g (off+k≤cs.length)∧K (.agg ((cs.drop off).take k)) none
   |false=>dw g (off+k≤cs.length∧k=1)∧od cs off .any fun v=>fx v fun v=>K v none)
  |_=>False
 | .ix k ag n x i=>dJ g R x fun v=>dJ g R i fun iv=>match v,iv with
  | .agg cs, .sc (.int _ j)=>dw g (n * k=cs.length)∧dw g (0≤j∧j<n)∧(match ag with
   |true=>K (.agg ((cs.drop (j.toNat * k)).take k)) none
   |false=>dw g (k=1)∧od cs (j.toNat * k) .any fun v=>fx v fun v=>K v none)
  |_,_=>False
 | .QQ x i=>dJ g R x fun v=>dJ g R i fun iv=>match v,iv with
  | .sc (.string s), .sc (.int _ j)=>dw g (0≤j∧j<s.size)∧K (.sc (.int .u8 (s.data.toList.getD j.toNat 0).toNat)) none
  |_,_=>False
 | .lens x=>dJ g R x fun v=>match v with
  | .sc (.string s)=>K (.sc (.int .i64 s.size)) none
  |_=>False
 | .OY e sz bytes ag z l c=>dJ g R l fun lv=>dJ g R c fun cv=>match lv,cv with
  | .sc (.int _ n), .sc (.int _ m)=>dw g (z.length=sz∧n=m)∧dw g (0≤n∧n * bytes≤281474976710656∧n≤9223372036854775807)∧
   K (.sl id n.toNat) (some (id, .row e sz (fZ ag z) (List.replicate n.toNat (fZ ag z))))
  |_,_=>False
 | .ext i x=>dJ g R x fun v=>match v with
  | .dV vs=>dw g (i<vs.length)∧od vs i .any fun v=>fx v fun v=>K v none
  |_=>False
 | .PZ f first caps=>ji g R first fun a=>ji g R caps fun b=>K (.fn f a b) none
 | .QW t x=>dJ g R x fun v=>K (.lY t v) none
 | .len x=>dJ g R x fun v=>match v with
  | .im _ _ es=>K (.sc (.int .i64 (es.length:Int))) none
  | .sl b len=>gP H b fun _ _ _ es=>dw g (es.length=len)∧K (.sc (.int .i64 (len:Int))) none
  | .sc (.slice none 0 0)=>K (.sc (.int .i64 0)) none
  | .zc=>K (.sc (.int .i64 0)) none
  | .sv _ _ _ n=>K (.sc (.int .i64 (n:Int))) none
  |_=>False
 | .app e sz bytes ag z s x=>dJ g R s fun sv=>dJ g R x fun xv=>qt g H sz xv fun xs=>dw g (z.length=sz)∧match sv with
  | .sc (.slice none 0 0)=>dw g (xs.length * bytes≤iV)∧K (.sl id xs.length) (some (id, .row e sz (fZ ag z) xs))
  | .sl b len=>gP H b fun e' sz' d es=>dw g (es.length=len∧e'=e∧sz'=sz)∧dw g ((len+xs.length) * bytes≤iV)∧K (.sl b (len+xs.length)) (some (b, .row e sz d (es++xs)))
  |_=>False
 | .FH e bytes z s x=>dJ g R s fun sv=>dJ g R x fun xv=>match xv with
  | .sc (.string q)=>(match sv with
   | .sc (.slice none 0 0)=>dw g ((cM q).length * bytes≤iV)∧K (.sl id (cM q).length) (some (id, .row e 1 z (cM q)))
   | .sl b len=>gP H b fun e' sz' d es=>dw g (es.length=len∧e'=e∧sz'=1)∧dw g ((len+(cM q).length) * bytes≤iV)∧K (.sl b (len+(cM q).length)) (some (b, .row e 1 d (es++cM q)))
   |_=>False)
  |_=>False
 | .D4 neg x=>dJ g R x fun v=>match v with
  | .pt _ _ _ _=>K (.sc (.bool neg)) none
  | .ip _ _ _ _ _=>K (.sc (.bool neg)) none
  | .sc (.pointer none)=>K (.sc (.bool !neg)) none
  |_=>False
 | .xf neg x=>dJ g R x fun v=>jZ (rZ H v) fun t=>fx (ph neg t) fun v=>K v none
 | .eqs neg ks x y=>dJ g R x fun a=>dJ g R y fun b=>match a,b with
  | .agg as, .agg bs=>jZ (F1 ks as bs) fun t=>(match neg with
   |true=>K (.sc (.bool !t)) none
   |false=>K (.sc (.bool t)) none)
  |_,_=>False
 | .O7 sz x lo hi=>dJ g R x fun v=>ji g R (lo.toList++hi.toList) fun bs=>
  jZ (sB H sz (match lo with|some _=>bs[0]?|none=>none) (match hi with|some _=>(match lo with|some _=>bs[1]?|none=>bs[0]?)|none=>none) v) fun r=>fx r fun r=>K r none
 | .KY sz x y=>dJ g R x fun xv=>dJ g R y fun yv=>match xv with
  | .sl b len=>qt g H sz yv fun xs=>gP H b fun e s d es=>dw g (es.length=len∧s=sz)∧
   K (.sc (.int .i64 (Nat.min xs.length len:Nat))) (some (b, .row e s d (xs.take (Nat.min xs.length len)++es.drop (Nat.min xs.length len))))
  |_=>False
 | .call _ _=>False
 | .NU kt=>K (.mp id) (some (id, .row kt 0 .any (mapA [])))
 | .LZ str ag z ok x k=>dJ g R x fun v=>dJ g R k fun kv=>match kv with
  | .sc kv=>CH H v fun _ _ _ es=>dw g (kG str kv=true)∧jK g (ur str kv es (fZ ag z)) fun p=>match ok with
   |true=>K (.dV [p.1, .sc (.bool p.2)]) none
   |false=>fx p.1 fun v=>K v none
  |_=>False
 | .E4 str x k y=>dJ g R x fun v=>dJ g R k fun kv=>dJ g R y fun yv=>match kv with
  | .sc kv=>CH H v fun b e d es=>dw g (kG str kv=true)∧jK g (xc str kv es yv) fun es'=>K .any (some (b, .row e 0 d (mapA es')))
  |_=>False
 | .zI x=>dJ g R x fun v=>CH H v fun _ _ _ es=>K (.sc (.int .i64 (es.length:Nat))) none
 | .del str x k=>dJ g R x fun v=>dJ g R k fun kv=>match kv with
  | .sc kv=>CH H v fun b e d es=>dw g (kG str kv=true)∧jK g (QV str kv es) fun es'=>K (.dV []) (some (b, .row e 0 d (mapA es')))
  |_=>False
 | .CR sz v=>K (.agg (List.replicate sz (.sc v))) none
 | .vc e sz v=>K (.pt id 1 0 0) (some (id, .row e sz (.agg (List.replicate sz (.sc v))) [.agg (List.replicate sz (.sc v))]))
 | .Q5 t ok ag z x=>dJ g R x fun v=>match v with
  | .lY t' v=>(bif Nat.beq t' t then(match ok with
   |true=>K (.dV [v, .sc (.bool true)]) none
   |false=>fx v fun v=>K v none) else(match ok with
   |true=>K (.dV [fZ ag z, .sc (.bool false)]) none
   |false=>False))
  |_=>False
end
theorem A5 {f:Fr} {R:Raw}:∀{ps:List (Nat×Nat×eB)},(∀x∈ps.map (·.2.2),ev f x=(R x).2)→NN f ps=List.zipWith (fun p a=>(p.1,p.2.1,a)) ps ((ps.map (·.2.2)).map fun x=>(R x).2)
 |[],_=>rfl
 |(i,j,x)::ps,h=>by
  simp only[NN,List.map_cons,List.zipWith_cons_cons]
  rw[h x (by simp),A5 fun y hy=>h y (by simp only[List.map_cons,List.mem_cons];exact .inr hy)]
theorem A7 {f:Fr} {R:Raw}:∀{ps:List (Nat×eB)},(∀x∈ps.map (·.2),ev f x=(R x).2)→A6 f ps=List.zipWith (fun p a=>(p.1,a)) ps ((ps.map (·.2)).map fun x=>(R x).2)
 |[],_=>rfl
 |(i,x)::ps,h=>by
  simp only[A6,List.map_cons,List.zipWith_cons_cons]
  rw[h x (by simp),A7 fun y hy=>h y (by simp only[List.map_cons,List.mem_cons];exact .inr hy)]
theorem DO {g:Option Bool} {ag:Bool} {k:Nat} {e:AV} {sz off:Nat} {K:AV→Prop} (h:SA g ag k e sz off K):∃r,K r∧(Gd g→wT ag k e sz off=some r):=by
 unfold SA at h
 cases ag with
 |true=>
  simp only at h
  cases e
  case agg cs=>
   simp only at h
   by_cases hb:off=0∧k=sz
   ·have hb':(Nat.beq off 0&&Nat.beq k sz)=true:=by
     obtain⟨rfl,rfl⟩:=hb;simp
    rw[hb'] at h
    exact⟨_,h,fun _=>by simp[wT,hb.1,hb.2]⟩
   ·have hb':(Nat.beq off 0&&Nat.beq k sz)=false:=by
     cases hc:(Nat.beq off 0&&Nat.beq k sz) with
     |false=>rfl
     |true=>
      rw[Bool.and_eq_true] at hc
      exact absurd ⟨Nat.eq_of_beq_eq_true hc.1,Nat.eq_of_beq_eq_true hc.2⟩ hb
    rw[hb'] at h
    simp only[cond_false] at h
    refine⟨_,h.2,fun hg=> ?_⟩
    have h1:=cY.1 h.1 hg
    simp only[wT,if_true]
    rw[if_neg hb,if_pos h1]
  all_goals exact h.elim
 |false=>
  have gen:∀e:AV,(bif one e then fx e K else False)→(wT false k e sz off=if one e then some e else none)→∃r,K r∧(Gd g→wT false k e sz off=some r):=by
   intro e h1 h2
   cases ho:one e with
   |true=>rw[ho,cond_true,ew] at h1;exact⟨_,h1,fun _=>by rw[h2,ho];rfl⟩
   |false=>rw[ho] at h1;exact h1.elim
  cases e
  case agg cs=>
   simp only at h
   have:=h.ok
   rw[ew] at this
   exact⟨_,this,fun _=>by simp[wT]⟩
  case any=>exact⟨_,h,fun _=>by simp[wT]⟩
  all_goals exact gen _ h rfl
theorem xY {g:Option Bool} {H:Hp} {v:AV} {K:Nat→AV→Nat→Prop} (h:lookW g H v K):∃sz e off,K sz e off∧(Gd g→j8 H v=some (sz,e,off)):=by
 unfold lookW at h
 split at h
 ·exact⟨_,_,_,h.ok,fun _=>rfl⟩
 ·obtain⟨e,sz,d,es,h1,h2,h3⟩:=h.ok
  refine⟨_,_,_,h3.ok,fun hg=> ?_⟩
  simp only[j8,h1]
  rw[if_pos (cY.1 h2 hg)]
 ·exact h.elim
theorem kW {g:Option Bool} {H:Hp} {k:Nat} {v:AV} {K:List AV→Prop} (h:qt g H k v K):∃es,K es∧(Gd g→gZ H v=some es∧yG H k v=true):=by
 unfold qt at h
 split at h
 ·rename_i sz d es
  cases hb:Nat.beq sz k with
  |true=>rw[hb] at h;exact⟨_,h,fun _=>⟨rfl,by simpa[yG] using hb⟩⟩
  |false=>rw[hb] at h;exact h.elim
 ·obtain⟨e,sz,d,es,h1,h2,h3⟩:=h.ok
  refine⟨_,h3,fun hg=> ?_⟩
  obtain⟨g1,g2⟩:=cY.1 h2 hg
  simp[gZ,yG,h1,g1,g2]
 ·exact⟨_,h,fun _=>⟨rfl,rfl⟩⟩
 ·exact⟨_,h,fun _=>⟨rfl,rfl⟩⟩
 ·obtain⟨e,sz,d,es,h1,h2,h3⟩:=h.ok
  refine⟨_,h3,fun hg=> ?_⟩
  obtain⟨g1,g2⟩:=cY.1 h2 hg
  simp[gZ,yG,h1,g1,g2]
 ·exact h.elim
set_option maxHeartbeats 4000000 in
theorem jc {g:Option Bool} {H:Hp} {R:Raw} {id:Nat} {op:dQ} {K:AV→Option (Nat×eV)→Prop} (h:o6 g H R id op K):
 ∃r u,K r u∧(Gd g→(op.rd=true→∀x∈op.eI,D6 R x)∧∀f,(∀x,D6 R x→ev f x=(R x).2)→cD id f H op=some (r,u)):=by
 cases op
 case mv x=>
  obtain⟨h1,h2⟩:=cN h
  rw[ew] at h2
  exact⟨_,_,h2,fun hg=>⟨fun hr=>by simp[dQ.rd] at hr,fun f hf=>by simp only[cD,hf x (h1 hg)]⟩⟩
 case pick c a b=>
  obtain⟨h1,h2⟩:=cN h
  split at h2
  ·rename_i t ht
   simp only[ew] at h2
   have key:∀{q:Option Bool} {p:Prop} {A:Prop},(match q with|none=>A|some q=>dw g (p→q=true)∧A)→A∧(Gd g→p→∀q',q=some q'→q'=true):=by
    intro q p A h
    cases q with
    |none=>exact⟨h,fun _ _ _ hq=>by cases hq⟩
    |some q=>exact⟨h.2,fun hg hp q' hq=>by cases hq;exact cY.1 h.1 hg hp⟩
   obtain⟨h3,ha⟩:=key h2
   obtain⟨h4,hb⟩:=key h3
   refine⟨_,_,h4,fun hg=>⟨fun hr=>by simp[dQ.rd] at hr,fun f hf=> ?_⟩⟩
   simp only[cD,hf c (h1 hg),ht]
   congr 2
   cases t with
   |true=>rw[rk,rk,hf a (ha hg rfl)]
   |false=>rw[pc,pc,hf b (hb hg rfl)]
  ·exact h2.elim
 case alloc e sz ag z=>
  refine⟨_,_,h.2,fun hg=>⟨fun hr=>by simp[dQ.rd] at hr,fun f hf=> ?_⟩⟩
  simp only[cD];rw[if_pos (cY.1 h.1 hg)]
 case box e sz ag x=>
  obtain⟨h1,h2⟩:=cN h
  refine⟨_,_,h2.2,fun hg=>⟨fun hr=>by simp[dQ.rd] at hr,fun f hf=> ?_⟩⟩
  simp only[cD,hf x (h1 hg)];rw[if_pos (cY.1 h2.1 hg)]
 case PU z ps=>
  obtain⟨h1,h2⟩:=fE h
  obtain⟨cs,h3,h4⟩:=h2.ok
  refine⟨_,_,h4,fun hg=>⟨fun hr=>by simp[dQ.rd] at hr,fun f hf=> ?_⟩⟩
  simp only[cD]
  rw[A5 (R:=R) fun x hx=>hf x (h1 hg x hx),h3]
 case NJ e sz ag z n ps=>
  obtain⟨h1,h2⟩:=fE h
  refine⟨_,_,h2.2,fun hg=>⟨fun hr=>by simp[dQ.rd] at hr,fun f hf=> ?_⟩⟩
  have h3:=cY.1 h2.1 hg
  simp only[cD]
  rw[A7 (R:=R) fun x hx=>hf x (h1 hg x hx),if_pos h3]
 case ld ag k x=>
  obtain⟨h1,h2⟩:=cN h
  obtain⟨sz,e,off,h3,h4⟩:=xY h2
  obtain⟨r,h5,h6⟩:=DO h3
  refine⟨_,_,h5,fun hg=>⟨fun _ y hy=>by simp[dQ.eI] at hy;subst hy;exact h1 hg,fun f hf=> ?_⟩⟩
  simp only[cD,hf x (h1 hg),h4 hg,h6 hg,Option.map_some]
 case st ag k x y=>
  obtain⟨h1,h2⟩:=cN h
  obtain⟨h3,h4⟩:=cN h2
  split at h4
  ·rename_i b len i off hx
   obtain⟨e,sz,d,es,g1,g2,g3⟩:=h4.ok
   obtain⟨e',g4,g5⟩:=g3.ok.ok
   refine⟨_,_,g5,fun hg=>⟨fun _ z hz=>by simp[dQ.eI] at hz;rcases hz with rfl|rfl;exact h1 hg;exact h3 hg,fun f hf=> ?_⟩⟩
   simp only[cD,hf x (h1 hg),hf y (h3 hg),hx,g1,g4]
   rw[if_pos (cY.1 g2 hg)]
  ·exact h4.elim
 case O1 x=>
  obtain⟨h1,h2⟩:=cN h
  split at h2
  all_goals first
   |exact h2.elim
   |(rename_i hx;exact⟨_,_,h2,fun hg=>⟨fun hr=>by simp[dQ.rd] at hr,fun f hf=>by simp only[cD,hf x (h1 hg),hx]⟩⟩)
 case bin op x y=>
  obtain⟨h1,h2⟩:=cN h
  obtain⟨h3,h4⟩:=cN h2
  split at h4
  all_goals first
   |exact h4.elim
   |(rename_i hx hy;obtain⟨q1,q2⟩:=h4;obtain⟨m,q3,q4⟩:=q2.ok;refine⟨_,_,q4,fun hg=>⟨fun hr=>by simp[dQ.rd] at hr,fun f hf=> ?_⟩⟩;simp only[cD,hf x (h1 hg),hf y (h3 hg),hx,hy,CQ];rw[if_pos (cY.1 q1 hg),q3 hg];rfl)
   |(rename_i hx hy;refine⟨_,_,h4.2,fun hg=>⟨fun hr=>by simp[dQ.rd] at hr,fun f hf=> ?_⟩⟩;simp only[cD,hf x (h1 hg),hf y (h3 hg),hx,hy,CQ];rw[if_pos (cY.1 h4.1 hg)];rfl)
 case PV neg x y=>
  obtain⟨h1,h2⟩:=cN h
  obtain⟨h3,h4⟩:=cN h2
  split at h4
  ·rename_i p q hx hy
   cases neg
   all_goals exact⟨_,_,h4,fun hg=>⟨fun hr=>by simp[dQ.rd] at hr,fun f hf=>by simp[cD,hf x (h1 hg),hf y (h3 hg),hx,hy]⟩⟩
  ·exact h4.elim
 case tH neg x y=>
  obtain⟨h1,h2⟩:=cN h
  obtain⟨h3,h4⟩:=cN h2
  split at h4
  ·rename_i p q hx hy
   cases neg
   all_goals exact⟨_,_,h4,fun hg=>⟨fun hr=>by simp[dQ.rd] at hr,fun f hf=>by simp[cD,hf x (h1 hg),hf y (h3 hg),hx,hy]⟩⟩
  ·exact h4.elim
 case CS op x y=>
  obtain⟨h1,h2⟩:=cN h
  obtain⟨h3,h4⟩:=cN h2
  split at h4
  ·rename_i p q hx hy
   cases op
   case add=>exact⟨_,_,h4.2,fun hg=>⟨fun hr=>by simp[dQ.rd] at hr,fun f hf=>by simp only[cD,hf x (h1 hg),hf y (h3 hg),hx,hy,JW];rw[if_pos (cY.1 h4.1 hg)];rfl⟩⟩
   case lss=>exact⟨_,_,h4,fun hg=>⟨fun hr=>by simp[dQ.rd] at hr,fun f hf=>by simp only[cD,hf x (h1 hg),hf y (h3 hg),hx,hy,JW];rfl⟩⟩
   all_goals exact h4.elim
  ·exact h4.elim
 case KR sz ag z x=>
  obtain⟨h1,h2⟩:=cN h
  split at h2
  ·rename_i b len lo n hx
   obtain⟨e,s,d,es,q1,q2,q3⟩:=h2.ok
   exact⟨_,_,q3,fun hg=>⟨fun hr y hy=>by simp[dQ.eI] at hy;subst hy;exact h1 hg,fun f hf=>by
    simp only[cD,hf x (h1 hg),hx,q1];rw[if_pos (cY.1 q2 hg)]⟩⟩
  ·exact h2.elim
 case OD x=>
  obtain⟨h1,h2⟩:=cN h
  obtain⟨xs,h3,h4⟩:=kW h2
  obtain⟨ns,h5,h6⟩:=h3.ok
  exact⟨_,_,h6,fun hg=>⟨fun hr y hy=>by simp[dQ.eI] at hy;subst hy;exact h1 hg,fun f hf=>by
   obtain⟨q1,q2⟩:=h4 hg
   simp only[cD,hf x (h1 hg),q1,q2,if_true,h5 hg,Option.map_some]⟩⟩
 case un op x=>
  obtain⟨h1,h2⟩:=cN h
  split at h2
  all_goals first
   |exact h2.elim
   |(rename_i hx;obtain⟨m,q3,q4⟩:=h2.ok;exact⟨_,_,q4,fun hg=>⟨fun hr=>by simp[dQ.rd] at hr,fun f hf=>by simp only[cD,hf x (h1 hg),hx,Q7,Option.map_some,q3 hg]⟩⟩)
   |(rename_i hx;exact⟨_,_,h2,fun hg=>⟨fun hr=>by simp[dQ.rd] at hr,fun f hf=>by simp only[cD,hf x (h1 hg),hx,Q7,Option.map_some]⟩⟩)
 case QC k x=>
  obtain⟨h1,h2⟩:=cN h
  split at h2
  all_goals first
   |exact h2.elim
   |(rename_i hx;obtain⟨m,q3,q4⟩:=h2.ok;exact⟨_,_,q4,fun hg=>⟨fun hr=>by simp[dQ.rd] at hr,fun f hf=>by simp only[cD,hf x (h1 hg),hx,q3 hg]⟩⟩)
 case fa off x=>
  obtain⟨h1,h2⟩:=cN h
  have hr:Gd g→((dQ.fa off x).rd=true→∀y∈(dQ.fa off x).eI,D6 R y):=fun hg _ y hy=>by simp[dQ.eI] at hy;subst hy;exact h1 hg
  split at h2
  ·rename_i hx
   refine⟨_,_,h2.2,fun hg=>⟨hr hg,fun f hf=> ?_⟩⟩
   simp only[cD,hf x (h1 hg),hx];rw[if_pos (cY.1 h2.1 hg)]
  ·rename_i hx
   obtain⟨e,sz,d,es,g1,g2,g3⟩:=h2.ok
   refine⟨_,_,g3,fun hg=>⟨hr hg,fun f hf=> ?_⟩⟩
   simp only[cD,hf x (h1 hg),hx,g1];rw[if_pos (cY.1 g2 hg)]
  ·exact h2.elim
 case ia k n x i=>
  obtain⟨h1,h2⟩:=cN h
  obtain⟨h3,h4⟩:=cN h2
  have hr:Gd g→((dQ.ia k n x i).rd=true→∀y∈(dQ.ia k n x i).eI,D6 R y):=fun hg _ y hy=>by simp[dQ.eI] at hy;rcases hy with rfl|rfl;exact h1 hg;exact h3 hg
  split at h4
  ·rename_i kk j hi
   cases n with
   |none=>
    simp only at h4
    split at h4
    ·rename_i hx
     refine⟨_,_,h4.2.2,fun hg=>⟨hr hg,fun f hf=> ?_⟩⟩
     simp only[cD,hf x (h1 hg),hf i (h3 hg),hx,hi,E3]
     rw[if_pos ⟨cY.1 h4.1 hg,cY.1 h4.2.1 hg⟩];rfl
    ·rename_i hx
     obtain⟨e,sz,d,es,g1,g2,g3,g4⟩:=h4.ok
     refine⟨_,_,g4,fun hg=>⟨hr hg,fun f hf=> ?_⟩⟩
     obtain⟨q1,q2⟩:=cY.1 g2 hg
     simp only[cD,hf x (h1 hg),hf i (h3 hg),hx,hi,E3,g1]
     rw[if_pos ⟨q1,q2,cY.1 g3 hg⟩];rfl
    ·rename_i hx
     obtain⟨e,sz,d,es,g1,g2,g3,g4⟩:=h4.ok
     refine⟨_,_,g4,fun hg=>⟨hr hg,fun f hf=> ?_⟩⟩
     obtain⟨q1,q2⟩:=cY.1 g2 hg
     simp only[cD,hf x (h1 hg),hf i (h3 hg),hx,hi,E3,g1]
     rw[if_pos ⟨q1,q2,cY.1 g3 hg⟩];rfl
    ·exact h4.elim
   |some m=>
    simp only at h4
    split at h4
    ·rename_i hx
     refine⟨_,_,h4.2.2,fun hg=>⟨hr hg,fun f hf=> ?_⟩⟩
     simp only[cD,hf x (h1 hg),hf i (h3 hg),hx,hi,E3]
     rw[if_pos ⟨cY.1 h4.1 hg,cY.1 h4.2.1 hg⟩];rfl
    ·rename_i hx
     obtain⟨e,sz,d,es,g1,g2,g3,g4⟩:=h4.ok
     refine⟨_,_,g4,fun hg=>⟨hr hg,fun f hf=> ?_⟩⟩
     obtain⟨q1,q2⟩:=cY.1 g2 hg
     simp only[cD,hf x (h1 hg),hf i (h3 hg),hx,hi,E3,g1]
     rw[if_pos ⟨q1,q2,cY.1 g3 hg⟩];rfl
    ·exact h4.elim
  ·exact h4.elim
 case QJ off k ag x=>
  obtain⟨h1,h2⟩:=cN h
  split at h2
  ·rename_i cs hx
   cases ag with
   |true=>
    refine⟨_,_,h2.2,fun hg=>⟨fun hr=>by simp[dQ.rd] at hr,fun f hf=> ?_⟩⟩
    simp only[cD,hf x (h1 hg),hx,if_true];rw[if_pos (cY.1 h2.1 hg)]
   |false=>
    have h3:=h2.2.ok
    rw[ew] at h3
    refine⟨_,_,h3,fun hg=>⟨fun hr=>by simp[dQ.rd] at hr,fun f hf=> ?_⟩⟩
    obtain⟨q1,q2⟩:=cY.1 h2.1 hg
    simp only[cD,hf x (h1 hg),hx,Bool.false_eq_true,if_false];rw[if_pos q1,if_pos q2]
  ·exact h2.elim
 case ix k ag n x i=>
  obtain⟨h1,h2⟩:=cN h
  obtain⟨h3,h4⟩:=cN h2
  split at h4
  ·rename_i cs kk j hx hi
   obtain⟨p1,p2,p3⟩:=h4
   cases ag with
   |true=>
    refine⟨_,_,p3,fun hg=>⟨fun hr=>by simp[dQ.rd] at hr,fun f hf=> ?_⟩⟩
    have q2:=cY.1 p2 hg
    simp only[cD,hf x (h1 hg),hf i (h3 hg),hx,hi,if_true];rw[if_pos ⟨q2.1,q2.2,cY.1 p1 hg⟩]
   |false=>
    have h5:=p3.2.ok
    rw[ew] at h5
    refine⟨_,_,h5,fun hg=>⟨fun hr=>by simp[dQ.rd] at hr,fun f hf=> ?_⟩⟩
    have q2:=cY.1 p2 hg
    simp only[cD,hf x (h1 hg),hf i (h3 hg),hx,hi,Bool.false_eq_true,if_false];rw[if_pos ⟨q2.1,q2.2,cY.1 p1 hg⟩,if_pos (cY.1 p3.1 hg)]
  ·exact h4.elim
 case QQ x i=>
  obtain⟨h1,h2⟩:=cN h
  obtain⟨h3,h4⟩:=cN h2
  split at h4
  ·rename_i hx hi
   refine⟨_,_,h4.2,fun hg=>⟨fun hr=>by simp[dQ.rd] at hr,fun f hf=> ?_⟩⟩
   simp only[cD,hf x (h1 hg),hf i (h3 hg),hx,hi];rw[if_pos (cY.1 h4.1 hg)]
  ·exact h4.elim
 case lens x=>
  obtain⟨h1,h2⟩:=cN h
  split at h2
  all_goals first
   |exact h2.elim
   |(rename_i hx;exact⟨_,_,h2,fun hg=>⟨fun hr=>by simp[dQ.rd] at hr,fun f hf=>by simp only[cD,hf x (h1 hg),hx]⟩⟩)
 case OY e sz bytes ag z l c=>
  obtain⟨h1,h2⟩:=cN h
  obtain⟨h3,h4⟩:=cN h2
  split at h4
  ·rename_i hx hi
   refine⟨_,_,h4.2.2,fun hg=>⟨fun hr=>by simp[dQ.rd] at hr,fun f hf=> ?_⟩⟩
   obtain⟨q1,q2⟩:=cY.1 h4.1 hg
   obtain⟨q3,q4,q5⟩:=cY.1 h4.2.1 hg
   simp only[cD,hf l (h1 hg),hf c (h3 hg),hx,hi];rw[if_pos ⟨q1,q3,q2,q4,q5⟩]
  ·exact h4.elim
 case ext i x=>
  obtain⟨h1,h2⟩:=cN h
  split at h2
  ·rename_i hx
   have h3:=h2.2.ok
   rw[ew] at h3
   refine⟨_,_,h3,fun hg=>⟨fun hr=>by simp[dQ.rd] at hr,fun f hf=> ?_⟩⟩
   simp only[cD,hf x (h1 hg),hx];rw[if_pos (cY.1 h2.1 hg)]
  ·exact h2.elim
 case PZ fn first caps=>
  obtain⟨h1,h2⟩:=fE h
  obtain⟨h3,h4⟩:=fE h2
  refine⟨_,_,h4,fun hg=>⟨fun hr=>by simp[dQ.rd] at hr,fun f hf=> ?_⟩⟩
  simp only[cD]
  rw[kX (R:=R) fun x hx=>hf x (h1 hg x hx),kX (R:=R) fun x hx=>hf x (h3 hg x hx)]
 case QW t x=>
  obtain⟨h1,h2⟩:=cN h
  exact⟨_,_,h2,fun hg=>⟨fun hr=>by simp[dQ.rd] at hr,fun f hf=>by simp only[cD,hf x (h1 hg)]⟩⟩
 case len x=>
  obtain⟨h1,h2⟩:=cN h
  have hr:Gd g→((dQ.len x).rd=true→∀y∈(dQ.len x).eI,D6 R y):=fun hg _ y hy=>by simp[dQ.eI] at hy;subst hy;exact h1 hg
  split at h2
  ·rename_i hx;exact⟨_,_,h2,fun hg=>⟨hr hg,fun f hf=>by simp only[cD,hf x (h1 hg),hx,rO]⟩⟩
  ·rename_i hx
   obtain⟨e,sz,d,es,g1,g2,g3⟩:=h2.ok
   refine⟨_,_,g3,fun hg=>⟨hr hg,fun f hf=> ?_⟩⟩
   simp only[cD,hf x (h1 hg),hx,rO,g1];rw[if_pos (cY.1 g2 hg)]
  ·rename_i hx;exact⟨_,_,h2,fun hg=>⟨hr hg,fun f hf=>by simp[cD,hf x (h1 hg),hx,rO]⟩⟩
  ·rename_i hx;exact⟨_,_,h2,fun hg=>⟨hr hg,fun f hf=>by simp[cD,hf x (h1 hg),hx,rO]⟩⟩
  ·rename_i hx;exact⟨_,_,h2,fun hg=>⟨hr hg,fun f hf=>by simp only[cD,hf x (h1 hg),hx,rO]⟩⟩
  ·exact h2.elim
 case app e sz bytes ag z s x=>
  obtain⟨h1,h2⟩:=cN h
  obtain⟨h3,h4⟩:=cN h2
  obtain⟨xs,⟨h5,h5'⟩,h6⟩:=kW h4
  have hr:Gd g→((dQ.app e sz bytes ag z s x).rd=true→∀y∈(dQ.app e sz bytes ag z s x).eI,D6 R y):=fun hg _ y hy=>by simp[dQ.eI] at hy;rcases hy with rfl|rfl;exact h1 hg;exact h3 hg
  split at h5'
  ·rename_i hx
   refine⟨_,_,h5'.2,fun hg=>⟨hr hg,fun f hf=> ?_⟩⟩
   obtain⟨q1,q2⟩:=h6 hg
   simp only[cD,hf s (h1 hg),hf x (h3 hg),hx,q1];rw[if_pos ⟨q2,cY.1 h5 hg⟩,if_pos (cY.1 h5'.1 hg)]
  ·rename_i hx
   obtain⟨e',sz',d,es,g1,g2,g3,g4⟩:=h5'.ok
   refine⟨_,_,g4,fun hg=>⟨hr hg,fun f hf=> ?_⟩⟩
   obtain⟨q1,q2⟩:=h6 hg
   obtain⟨q3,q4,q5⟩:=cY.1 g2 hg
   simp only[cD,hf s (h1 hg),hf x (h3 hg),hx,q1,g1];rw[if_pos ⟨q2,cY.1 h5 hg⟩,if_pos ⟨q3,q4,q5,cY.1 g3 hg⟩]
  ·exact h5'.elim
 case FH e bytes z s x=>
  obtain⟨h1,h2⟩:=cN h
  obtain⟨h3,h4⟩:=cN h2
  have hr:Gd g→((dQ.FH e bytes z s x).rd=true→∀y∈(dQ.FH e bytes z s x).eI,D6 R y):=fun hg _ y hy=>by simp[dQ.eI] at hy;rcases hy with rfl|rfl;exact h1 hg;exact h3 hg
  split at h4
  ·rename_i q hq
   split at h4
   ·rename_i hx
    refine⟨_,_,h4.2,fun hg=>⟨hr hg,fun f hf=> ?_⟩⟩
    simp only[cD,hf s (h1 hg),hf x (h3 hg),hx,hq];rw[if_pos (cY.1 h4.1 hg)]
   ·rename_i hx
    obtain⟨e',sz',d,es,g1,g2,g3,g4⟩:=h4.ok
    refine⟨_,_,g4,fun hg=>⟨hr hg,fun f hf=> ?_⟩⟩
    obtain⟨q3,q4,q5⟩:=cY.1 g2 hg
    simp only[cD,hf s (h1 hg),hf x (h3 hg),hx,hq,g1];rw[if_pos ⟨q3,q4,q5,cY.1 g3 hg⟩]
   ·exact h4.elim
  ·exact h4.elim
 case D4 neg x=>
  obtain⟨h1,h2⟩:=cN h
  split at h2
  all_goals first
   |exact h2.elim
   |(rename_i hx;exact⟨_,_,h2,fun hg=>⟨fun hr=>by simp[dQ.rd] at hr,fun f hf=>by simp only[cD,hf x (h1 hg),hx]⟩⟩)
 case xf neg x=>
  obtain⟨h1,h2⟩:=cN h
  obtain⟨t,h3,h4⟩:=h2.ok
  rw[ew] at h4
  refine⟨_,_,h4,fun hg=>⟨fun _ y hy=>by simp[dQ.eI] at hy;subst hy;exact h1 hg,fun f hf=> ?_⟩⟩
  simp only[cD,hf x (h1 hg),h3]
 case eqs neg ks x y=>
  obtain⟨h1,h2⟩:=cN h
  obtain⟨h3,h4⟩:=cN h2
  split at h4
  ·rename_i hx hy
   obtain⟨t,g1,g2⟩:=h4.ok
   cases neg
   all_goals exact⟨_,_,g2,fun hg=>⟨fun hr=>by simp[dQ.rd] at hr,fun f hf=>by simp[cD,hf x (h1 hg),hf y (h3 hg),hx,hy,g1]⟩⟩
  ·exact h4.elim
 case O7 sz x lo hi=>
  obtain⟨h1,h2⟩:=cN h
  obtain⟨h3,h4⟩:=fE h2
  obtain⟨r,g1,g2⟩:=h4.ok
  rw[ew] at g2
  refine⟨_,_,g2,fun hg=>⟨fun _ y hy=> ?_,fun f hf=> ?_⟩⟩
  ·simp only[dQ.eI,List.mem_append,List.mem_singleton] at hy
   rcases hy with(rfl|hy)|hy
   ·exact h1 hg
   ·exact h3 hg y (by simp only[List.mem_append];exact .inl hy)
   ·exact h3 hg y (by simp only[List.mem_append];exact .inr hy)
  ·simp only[cD,hf x (h1 hg)]
   have e1:∀y∈lo.toList++hi.toList,ev f y=(R y).2:=fun y hy=>hf y (h3 hg y hy)
   cases lo<;>cases hi<;>simp_all
 case KY sz x y=>
  obtain⟨h1,h2⟩:=cN h
  obtain⟨h3,h4⟩:=cN h2
  split at h4
  ·rename_i b len hx
   obtain⟨xs,h5,h6⟩:=kW h4
   obtain⟨e,s,d,es,g1,g2,g3⟩:=h5.ok
   refine⟨_,_,g3,fun hg=>⟨fun _ z hz=>by simp[dQ.eI] at hz;rcases hz with rfl|rfl;exact h1 hg;exact h3 hg,fun f hf=> ?_⟩⟩
   obtain⟨q1,q2⟩:=h6 hg
   obtain⟨q3,q4⟩:=cY.1 g2 hg
   simp only[cD,hf x (h1 hg),hf y (h3 hg),hx,q1,g1];rw[if_pos ⟨q3,q4,q2⟩]
  ·exact h4.elim
 case call f as=>exact h.elim
 case NU kt=>exact⟨_,_,h,fun hg=>⟨fun hr=>by simp[dQ.rd] at hr,fun f hf=>rfl⟩⟩
 case CR sz v=>exact⟨_,_,h,fun hg=>⟨fun hr=>by simp[dQ.rd] at hr,fun f hf=>rfl⟩⟩
 case vc e sz v=>exact⟨_,_,h,fun hg=>⟨fun hr=>by simp[dQ.rd] at hr,fun f hf=>rfl⟩⟩
 case zI x=>
  obtain⟨h1,h2⟩:=cN h
  obtain⟨b,e,d,es,h3,h4⟩:=kQ h2
  exact⟨_,_,h4,fun hg=>⟨fun _ y hy=>by simp[dQ.eI] at hy;subst hy;exact h1 hg,fun f hf=>by simp only[cD,hf x (h1 hg),h3]⟩⟩
 case LZ str ag z ok x k=>
  obtain⟨h1,h2⟩:=cN h
  obtain⟨h3,h4⟩:=cN h2
  have hr:Gd g→((dQ.LZ str ag z ok x k).rd=true→∀y∈(dQ.LZ str ag z ok x k).eI,D6 R y):=fun hg _ y hy=>by simp[dQ.eI] at hy;rcases hy with rfl|rfl;exact h1 hg;exact h3 hg
  split at h4
  ·rename_i kv hk
   obtain⟨b,e,d,es,h5,h6,h7⟩:=kQ h4
   obtain⟨p,h8,h9⟩:=h7.ok
   cases ok with
   |true=>
    refine⟨_,_,h9,fun hg=>⟨hr hg,fun f hf=> ?_⟩⟩
    have h10:=h8 hg
    unfold ur at h10
    simp only[cD,hf x (h1 hg),hf k (h3 hg),h5,hk]
    rw[if_pos (cY.1 h6 hg)]
    split at h10<;>simp only[Option.some.injEq,reduceCtorEq] at h10
    ·subst h10;simp_all
    ·subst h10;simp_all
   |false=>
    simp only[ew] at h9
    refine⟨_,_,h9,fun hg=>⟨hr hg,fun f hf=> ?_⟩⟩
    have h10:=h8 hg
    unfold ur at h10
    simp only[cD,hf x (h1 hg),hf k (h3 hg),h5,hk]
    rw[if_pos (cY.1 h6 hg)]
    split at h10<;>simp only[Option.some.injEq,reduceCtorEq] at h10
    ·subst h10;simp_all
    ·subst h10;simp_all
  ·exact h4.elim
 case E4 str x k y=>
  obtain⟨h1,h2⟩:=cN h
  obtain⟨h3,h4⟩:=cN h2
  obtain⟨h3',h4'⟩:=cN h4
  have hr:Gd g→((dQ.E4 str x k y).rd=true→∀w∈(dQ.E4 str x k y).eI,D6 R w):=fun hg _ w hy=>by simp[dQ.eI] at hy;rcases hy with rfl|rfl|rfl;exact h1 hg;exact h3 hg;exact h3' hg
  split at h4'
  ·rename_i kv hk
   obtain⟨b,e,d,es,h5,h6,h7⟩:=kQ h4'
   obtain⟨p,h8,h9⟩:=h7.ok
   refine⟨_,_,h9,fun hg=>⟨hr hg,fun f hf=> ?_⟩⟩
   have h10:=h8 hg
   unfold xc at h10
   simp only[cD,hf x (h1 hg),hf k (h3 hg),hf y (h3' hg),h5,hk]
   rw[if_pos (cY.1 h6 hg)]
   split at h10<;>simp only[Option.some.injEq,reduceCtorEq] at h10
   ·subst h10;simp_all[yQ]
   ·subst h10;simp_all[yQ]
  ·exact h4'.elim
 case del str x k=>
  obtain⟨h1,h2⟩:=cN h
  obtain⟨h3,h4⟩:=cN h2
  have hr:Gd g→((dQ.del str x k).rd=true→∀y∈(dQ.del str x k).eI,D6 R y):=fun hg _ y hy=>by simp[dQ.eI] at hy;rcases hy with rfl|rfl;exact h1 hg;exact h3 hg
  split at h4
  ·rename_i kv hk
   obtain⟨b,e,d,es,h5,h6,h7⟩:=kQ h4
   obtain⟨p,h8,h9⟩:=h7.ok
   refine⟨_,_,h9,fun hg=>⟨hr hg,fun f hf=> ?_⟩⟩
   have h10:=h8 hg
   unfold QV at h10
   simp only[cD,hf x (h1 hg),hf k (h3 hg),h5,hk]
   rw[if_pos (cY.1 h6 hg)]
   split at h10<;>simp only[Option.some.injEq,reduceCtorEq] at h10
   ·subst h10;simp_all
   ·subst h10;simp_all
  ·exact h4.elim
 case Q5 t ok ag z x=>
  obtain⟨h1,h2⟩:=cN h
  split at h2
  ·rename_i t' v hx
   cases hb:Nat.beq t' t with
   |true=>
    rw[hb] at h2
    have e:=Nat.eq_of_beq_eq_true hb
    cases ok with
    |true=>
     simp only[cond_true] at h2
     exact⟨_,_,h2,fun hg=>⟨fun hr=>by simp[dQ.rd] at hr,fun f hf=>by simp only[cD,hf x (h1 hg),hx];rw[if_pos e];rfl⟩⟩
    |false=>
     simp only[cond_true,ew] at h2
     exact⟨_,_,h2,fun hg=>⟨fun hr=>by simp[dQ.rd] at hr,fun f hf=>by simp only[cD,hf x (h1 hg),hx];rw[if_pos e];rfl⟩⟩
   |false=>
    rw[hb] at h2
    have e:¬t'=t:=fun e=>by rw[e] at hb;simp at hb
    cases ok with
    |true=>
     simp only[cond_false] at h2
     exact⟨_,_,h2,fun hg=>⟨fun hr=>by simp[dQ.rd] at hr,fun f hf=>by simp only[cD,hf x (h1 hg),hx];rw[if_neg e];rfl⟩⟩
    |false=>exact h2.elim
  ·exact h2.elim
end Go.cZ
/- Code as a whole, run by reduction alone; it is so. -/
namespace Go.cZ
open Go.RowKit
structure fK (t:Bool) (A B:Prop):Prop where
 ok:(t=true→A)∧(t=false→B)
theorem fK.lt {A B:Prop} (h:A):fK true A B:=⟨⟨fun _=>h,fun h=>(by cases h)⟩⟩
theorem fK.lf {A B:Prop} (h:B):fK false A B:=⟨⟨fun h=>(by cases h),fun _=>h⟩⟩
theorem fK.of {t:Bool} {A B:Prop} (h1:t=true→A) (h2:t=false→B):fK t A B:=⟨⟨h1,h2⟩⟩
structure eN (t want:Bool) (A B J:Prop):Prop where
 ok:((t=want→A)∧(t≠want→B))∨J
theorem eN.tt {A B J:Prop} (h:A):eN true true A B J:=⟨.inl ⟨fun _=>h,fun h=>absurd rfl h⟩⟩
theorem eN.join {t want:Bool} {A B J:Prop} (h:J):eN t want A B J:=⟨.inr h⟩
theorem eN.split {t want:Bool} {A B J:Prop} (h1:t=want→A) (h2:t= !want→B):eN t want A B J:=⟨.inl ⟨h1,fun h=>h2 (by cases t<;>cases want<;>simp_all)⟩⟩
structure gQ (P:Program) (f:FuncId) (args:List AV) (H:Hp) (nx:Nat) (K:AV→Hp→Nat→Prop):Prop where
 ok:cP P f args H nx K
structure nZ (P:Program) (g:Bool) (f:FuncId) (args:List AV) (H:Hp) (nx:Nat) (K:AV→Prop):Prop where
 ok:∃r,(g=true→∀(K':AV→Hp→Nat→Prop),K' r H (nx+1)→cP P f args H nx K')∧K r
structure jY (P:Program) (id:Nat) (f:FuncId) (args:List AV) (H:Hp) (K:AV→Option (Nat×eV)→List Nat→Prop):Prop where
 ok:∃r u S,mW P id (.fn (.func f) [] []) args H r u S∧K r u S
structure P3 (P:Program) (t:TypeId) (v:AV) (nm:String) (args:List AV) (H:Hp) (nx:Nat) (K:AV→Hp→Nat→Prop):Prop where
 ok:sf P t v nm args H nx K
structure se (P:Program) (g:Bool) (id:Nat) (f:FuncId) (args:List AV) (H:Hp) (K:AV→List Nat→Prop):Prop where
 ok:∃r S,(g=true→mW P id (.fn (.func f) [] []) args H r none S)∧K r S
theorem Pure.OF {P:Program} {f:FuncId} {args:List AV} {R:AV→Prop} {H:Hp} {nx:Nat} {K:AV→Hp→Nat→Prop} (h:Pure P f args R) (hf:cT 0 args) (hK:∀r,R r→K r H (nx+1)):cP P f args H nx K:=by
 have:=h.dM (H:=H) (nx:=nx) (K:=fun r H' n=>∃n',n≤n'∧K r H' n') hf fun r hr=>⟨_,Nat.le_succ _,hK r hr⟩
 refine⟨this.1,fun w0 c vs a1 a2 a3 a4=>(this.2 w0 c vs a1 a2 a3 a4).mono ?_⟩
 rintro e w' ⟨v,r,H',nx',ρ,U,he,⟨n',hn,hR⟩,hU,hrest⟩
 exact⟨v,r,H',n',ρ,U,he,hR,fun b hb=>Nat.lt_of_lt_of_le (hU b hb) hn,hrest⟩
theorem gQ.pure {P:Program} {f:FuncId} {args:List AV} {R:AV→Prop} {H:Hp} {nx:Nat} {K:AV→Hp→Nat→Prop} (h:Pure P f args R) (hf:cT 0 args) (hK:∀r,R r→K r H nx):gQ P f args H nx K:=⟨h.dM hf hK⟩
theorem gQ.KB {P:Program} {f:FuncId} {args:List AV} {r:AV} {H:Hp} {nx:Nat} {K:AV→Hp→Nat→Prop} (h:Pure P f args (fun x=>x=r)) (hf:cT 0 args) (hK:K r H nx):gQ P f args H nx K:=⟨h.dM hf fun x hx=>by rw[hx];exact hK⟩
theorem gQ.of {P:Program} {f:FuncId} {args:List AV} {H:Hp} {nx:Nat} {R K:AV→Hp→Nat→Prop} (h:cP P f args H nx R) (hK:∀r H' nx',R r H' nx'→K r H' nx'):gQ P f args H nx K:=⟨h.mono hK⟩
theorem nZ.KB {P:Program} {g:Bool} {f:FuncId} {args:List AV} {r:AV} {H:Hp} {nx:Nat} {K:AV→Prop} (h:g=true→Pure P f args (fun x=>x=r)) (hf:cT 0 args) (hK:K r):nZ P g f args H nx K:=
 ⟨⟨r,fun hg K' hK'=>(h hg).OF hf fun x hx=>by rw[hx];exact hK',hK⟩⟩
theorem jY.KB {P:Program} {id:Nat} {f:FuncId} {args:List AV} {H:Hp} {r:AV} {K:AV→Option (Nat×eV)→List Nat→Prop} (h:Pure P f args (fun x=>x=r)) (hf:cT 0 args) (hK:K r none []):jY P id f args H K:=
 ⟨⟨r,none,[],Pure.JC (by simpa using hf) (by simpa using h),hK⟩⟩
theorem se.KB {P:Program} {g:Bool} {id:Nat} {f:FuncId} {args:List AV} {H:Hp} {r:AV} {K:AV→List Nat→Prop} (h:g=true→Pure P f args (fun x=>x=r)) (hf:cT 0 args) (hK:K r []):se P g id f args H K:=
 ⟨⟨r,[],fun hg=>Pure.JC (by simpa using hf) (by simpa using h hg),hK⟩⟩
theorem jY.fresh {P:Program} {id:Nat} {f:FuncId} {args:List AV} {H:Hp} {r:AV} {u:Option (Nat×eV)} (S:List Nat) {K:AV→Option (Nat×eV)→List Nat→Prop}
 (h:∀H1,(∀b∈S,bn H1 b=bn H b)→mU P f args H1 id (fun r' H'=>r'=r∧H'=dK H1 u)) (hu:∀b q,u=some (b,q)→b=id) (hK:K r u S):jY P id f args H K:=
 ⟨⟨r,u,S,⟨by simpa using h,hu⟩,hK⟩⟩
section
variable (P:Program)
noncomputable def vX (nx:Nat) (R:Raw) (H:Hp) (op:dQ) (K:AV→Hp→Nat→Prop):Prop:=
 match op with
 | .call f args=>dJ none R f fun fv=>ji none R args fun as=>match fv with
  | .fn (.func g) first caps=>pB (first++as++caps) fun as=>gQ P g as H nx K
  | .fn (.method nm) [.lY t v] []=>pB as fun as=>P3 P t v nm as H nx K
  |_=>False
 |op=>o6 none H R nx op fun r u=>K r (dK H u) (nx+1)
noncomputable def lK (nx:Nat) (g:Bool) (R:Raw) (H:Hp) (op:dQ) (K:AV→Prop):Prop:=
 match op with
 | .call f args=>dJ (some g) R f fun fv=>ji (some g) R args fun as=>match fv with
  | .fn (.func q) first caps=>pB (first++as++caps) fun as=>nZ P g q as H nx K
  |_=>False
 |op=>o6 (some g) H R nx op fun r u=>match u with
  |none=>K r
  |some _=>False
abbrev AW:=Nat→Ov→Fr→Hp→(Ov→Hp→Nat→Prop)→Prop
def vZ (nx:Nat) (ov:Ov) (_:Fr) (H:Hp) (K:Ov→Hp→Nat→Prop):Prop:=K ov H nx
noncomputable def oh (g:gM) (_:List gM) (ih:AW) (nx:Nat) (ov:Ov) (fr:Fr) (H:Hp) (K:Ov→Hp→Nat→Prop):Prop:=match g.guard with
 |none=>vX P nx (fA ov fr) H g.op fun r H' nx'=>ih nx' (gY ov g.dst none r) fr H' K
 |some (d,want)=>match pC ov fr d with
  |(none, .sc (.bool t))=>eN t want (vX P nx (fA ov fr) H g.op fun r H' nx'=>ih nx' (gY ov g.dst none r) fr H' K) (ih (nx+1) (gY ov g.dst none (.sc undef)) fr H K)
   (match want with
    |true=>lK P nx t (fA ov fr) H g.op fun r=>ih (nx+1) (gY ov g.dst (some t) r) fr H K
    |false=>lK P nx (!t) (fA ov fr) H g.op fun r=>ih (nx+1) (gY ov g.dst (some !t) r) fr H K)
  |(some q, .sc (.bool t))=>(match want with
   |true=>lK P nx (q&&t) (fA ov fr) H g.op fun r=>ih (nx+1) (gY ov g.dst (some (q&&t)) r) fr H K
   |false=>lK P nx (q&& !t) (fA ov fr) H g.op fun r=>ih (nx+1) (gY ov g.dst (some (q&& !t)) r) fr H K)
  |(none, .sc (.tuple _))=>ih (nx+1) (gY ov g.dst none (.sc undef)) fr H K
  |_=>False
noncomputable def CK (nx:Nat) (gs:List gM) (ov:Ov) (fr:Fr) (H:Hp) (K:Ov→Hp→Nat→Prop):Prop:=List.rec (motive:=fun _=>AW) vZ (oh P) gs nx ov fr H K
def DM (R:Raw) (op:dQ):List Nat:=if op.rd then op.eI.flatMap (fun x=>iI (R x).2) else[]
noncomputable def mh (id:Nat) (R:Raw) (H:Hp) (op:dQ) (K:AV→Option (Nat×eV)→List Nat→Prop):Prop:=
 match op with
 | .call f args=>dJ none R f fun fv=>ji none R args fun as=>match fv with
  | .fn (.func g) first caps=>pB (first++as++caps) fun as=>jY P id g as H K
  |_=>False
 |op=>o6 none H R id op fun r u=>K r u (DM R op)
noncomputable def iS (id:Nat) (g:Bool) (R:Raw) (H:Hp) (op:dQ) (K:AV→List Nat→Prop):Prop:=
 match op with
 | .call f args=>dJ (some g) R f fun fv=>ji (some g) R args fun as=>match fv with
  | .fn (.func q) first caps=>pB (first++as++caps) fun as=>se P g id q as H K
  |_=>False
 |op=>o6 (some g) H R id op fun r u=>match u with
  |none=>K r (DM R op)
  |some _=>False
abbrev RE:=Nat→Ov→Fr→Hp→Tr→(Ov→Hp→Tr→Prop)→Prop
def E8 (_:Nat) (ov:Ov) (_:Fr) (H:Hp) (tr:Tr) (K:Ov→Hp→Tr→Prop):Prop:=K ov H tr
noncomputable def nc (g:gM) (_:List gM) (ih:RE) (id:Nat) (ov:Ov) (fr:Fr) (H:Hp) (tr:Tr) (K:Ov→Hp→Tr→Prop):Prop:=match g.guard with
 |none=>mh P id (fA ov fr) H g.op fun r u S=>ih (id+1) (gY ov g.dst none r) fr (dK H u) (tr++[(S,u.map (·.1))]) K
 |some (d,want)=>match pC ov fr d with
  |(none, .sc (.bool t))=>eN t want (mh P id (fA ov fr) H g.op fun r u S=>ih (id+1) (gY ov g.dst none r) fr (dK H u) (tr++[(S,u.map (·.1))]) K) (ih (id+1) (gY ov g.dst none (.sc undef)) fr H (tr++[([],none)]) K)
   (match want with
    |true=>iS P id t (fA ov fr) H g.op fun r S=>ih (id+1) (gY ov g.dst (some t) r) fr H (tr++[(S,none)]) K
    |false=>iS P id (!t) (fA ov fr) H g.op fun r S=>ih (id+1) (gY ov g.dst (some !t) r) fr H (tr++[(S,none)]) K)
  |(some q, .sc (.bool t))=>(match want with
   |true=>iS P id (q&&t) (fA ov fr) H g.op fun r S=>ih (id+1) (gY ov g.dst (some (q&&t)) r) fr H (tr++[(S,none)]) K
   |false=>iS P id (q&& !t) (fA ov fr) H g.op fun r S=>ih (id+1) (gY ov g.dst (some (q&& !t)) r) fr H (tr++[(S,none)]) K)
  |(none, .sc (.tuple _))=>ih (id+1) (gY ov g.dst none (.sc undef)) fr H (tr++[([],none)]) K
  |_=>False
noncomputable def WD (id:Nat) (gs:List gM) (ov:Ov) (fr:Fr) (H:Hp) (tr:Tr) (K:Ov→Hp→Tr→Prop):Prop:=List.rec (motive:=fun _=>RE) E8 (nc P) gs id ov fr H tr K
noncomputable def O3 (S:List Nat):(List Nat→Prop)→Prop:=List.rec (motive:=fun _=>(List Nat→Prop)→Prop) (fun K=>K []) (fun b _ ih K=>ih fun S'=>K (b::S')) S
theorem rb:∀(S:List Nat) (K:List Nat→Prop),O3 S K=K S
 |[],_=>rfl
 |b::S,K=>rb S fun S'=>K (b::S')
def uW (u:Option (Nat×eV)) (K:Option Nat→Prop):Prop:=match u with
 |none=>K none
 |some (b,_)=>K (some b)
theorem Q6 (u:Option (Nat×eV)) (K:Option Nat→Prop):uW u K=K (u.map (·.1)):=by
 cases u<;>rfl
noncomputable def uK (g:gM) (_:List gM) (ih:RE) (id:Nat) (ov:Ov) (fr:Fr) (H:Hp) (tr:Tr) (K:Ov→Hp→Tr→Prop):Prop:=match g.guard with
 |none=>mh P id (fA ov fr) H g.op fun r u S=>O3 S fun S=>uW u fun x=>ih (id+1) (gY ov g.dst none r) fr (dK H u) ((S,x)::tr) K
 |some (d,want)=>match pC ov fr d with
  |(none, .sc (.bool t))=>eN t want (mh P id (fA ov fr) H g.op fun r u S=>O3 S fun S=>uW u fun x=>ih (id+1) (gY ov g.dst none r) fr (dK H u) ((S,x)::tr) K) (ih (id+1) (gY ov g.dst none (.sc undef)) fr H (([],none)::tr) K)
   (match want with
    |true=>iS P id t (fA ov fr) H g.op fun r S=>O3 S fun S=>ih (id+1) (gY ov g.dst (some t) r) fr H ((S,none)::tr) K
    |false=>iS P id (!t) (fA ov fr) H g.op fun r S=>O3 S fun S=>ih (id+1) (gY ov g.dst (some !t) r) fr H ((S,none)::tr) K)
  |(some q, .sc (.bool t))=>(match want with
   |true=>iS P id (q&&t) (fA ov fr) H g.op fun r S=>O3 S fun S=>ih (id+1) (gY ov g.dst (some (q&&t)) r) fr H ((S,none)::tr) K
   |false=>iS P id (q&& !t) (fA ov fr) H g.op fun r S=>O3 S fun S=>ih (id+1) (gY ov g.dst (some (q&& !t)) r) fr H ((S,none)::tr) K)
  |(none, .sc (.tuple _))=>ih (id+1) (gY ov g.dst none (.sc undef)) fr H (([],none)::tr) K
  |_=>False
noncomputable def WE (id:Nat) (gs:List gM) (ov:Ov) (fr:Fr) (H:Hp) (tr:Tr) (K:Ov→Hp→Tr→Prop):Prop:=List.rec (motive:=fun _=>RE) E8 (uK P) gs id ov fr H tr K
theorem vW:∀(gs:List gM) (id:Nat) (ov:Ov) (fr:Fr) (H:Hp) (tr:Tr) (K:Ov→Hp→Tr→Prop),WE P id gs ov fr H tr K=WD P id gs ov fr H tr.reverse fun ov H t=>K ov H t.reverse
 |[],id,ov,fr,H,tr,K=>by
  show K ov H tr=K ov H tr.reverse.reverse
  rw[List.reverse_reverse]
 |g::gs,id,ov,fr,H,tr,K=>by
  have ih:=vW gs
  show uK P g gs (fun id ov fr H tr K=>WE P id gs ov fr H tr K) id ov fr H tr K=nc P g gs (fun id ov fr H tr K=>WD P id gs ov fr H tr K) id ov fr H tr.reverse fun ov H t=>K ov H t.reverse
  simp only[uK,nc,rb,Q6,ih,List.reverse_cons]
noncomputable def KG (s:pn) (_:List pn) (ih:AW) (nx:Nat) (ov:Ov) (fr:Fr) (H:Hp) (K:Ov→Hp→Nat→Prop):Prop:=match s.ops with
 |[g]=>CK P nx [g] ov fr H fun ov' H' nx'=>ih nx' ov' fr H' K
 |gs=>WE P nx gs ov fr H [] fun ov' H' tr=>(match s.ps with
  |[]=>ih (nx+gs.length) ov' fr H' K
  |p::ps=>Ask (iG tr.reverse (p::ps))∧ih (nx+gs.length) ov' fr H' K)
noncomputable def WS (nx:Nat) (segs:List pn) (ov:Ov) (fr:Fr) (H:Hp) (K:Ov→Hp→Nat→Prop):Prop:=List.rec (motive:=fun _=>AW) vZ (KG P) segs nx ov fr H K
structure iK (n lo:Nat) (x:LC) (fr:Fr) (H:Hp) (nx:Nat) (Q:QT):Prop where
 ok:WL P n lo (.loop x) fr H nx Q
abbrev WT:=Fr→Hp→Nat→QT→Prop
def N8 (fr:Fr) (H:Hp) (nx:Nat) (Q:QT):Prop:=Q .normal fr H nx
noncomputable def E9 (gs:List gM) (fr:Fr) (H:Hp) (nx:Nat) (Q:QT):Prop:=CK P nx gs [] fr H fun ov H' nx'=>Q .normal (gq ov fr) H' nx'
structure fe (segs:List pn) (fr:Fr) (H:Hp) (nx:Nat) (Q:QT):Prop where
 ok:∀n lo,WL P n lo (.drawn segs) fr H nx Q
def KI (segs:List pn) (fr:Fr) (H:Hp) (nx:Nat) (Q:QT):Prop:=fe P segs fr H nx Q
def P5 (_ _:LC) (ia ib:WT) (fr:Fr) (H:Hp) (nx:Nat) (Q:QT):Prop:=ia fr H nx (jV (fun fr H nx=>ib fr H nx Q) Q)
def yW (c:eB) (_ _:LC) (ia ib:WT) (fr:Fr) (H:Hp) (nx:Nat) (Q:QT):Prop:=match ev fr c with
 | .sc (.bool t)=>fK t (ia fr H nx Q) (ib fr H nx Q)
 | .ab=>ia fr H nx Q∧ib fr H nx Q
 |_=>False
def KH (id:Nat) (_:LC) (ia:WT) (fr:Fr) (H:Hp) (nx:Nat) (Q:QT):Prop:=ia fr H nx (uX id Q)
def N7 (n lo:Nat) (a:LC) (_:WT) (fr:Fr) (H:Hp) (nx:Nat) (Q:QT):Prop:=iK P n lo a fr H nx Q
def N6 (id:Nat) (fr:Fr) (H:Hp) (nx:Nat) (Q:QT):Prop:=Q (.exit id) fr H nx
def P4 (fr:Fr) (H:Hp) (nx:Nat) (Q:QT):Prop:=Q .ret fr H nx
noncomputable def W (n lo:Nat) (lc:LC):WT:=LC.rec (motive:=fun _=>WT) N8 (E9 P) (KI P) P5 yW KH (N7 P n lo) N6 P4 lc
end
section
variable {P:Program}
theorem pS {nx:Nat} {ov:Ov} {f fr:Fr} {H:Hp} {op:dQ} {K:AV→Hp→Nat→Prop} (hF:oe f ov fr) (h:vX P nx (fA ov fr) H op K):dq P nx f H op K:=by
 by_cases hc:∃g as,op= .call g as
 ·obtain⟨fo,as,rfl⟩:=hc
  simp only[vX] at h
  obtain⟨h1,h2⟩:=cN h
  obtain⟨h3,h4⟩:=fE h2
  simp only[dq]
  rw[hF.raw fo (h1 trivial),kX (R:=fA ov fr) fun x hx=>hF.raw x (h3 trivial x hx)]
  split at h4
  ·rename_i he
   rw[he]
   rw[iH] at h4
   exact h4.ok
  ·rename_i he
   rw[he]
   rw[iH] at h4
   exact h4.ok
  ·exact h4.elim
 ·have e1:vX P nx (fA ov fr) H op K=o6 none H (fA ov fr) nx op fun r u=>K r (dK H u) (nx+1):=by cases op<;>first|rfl|exact absurd ⟨_,_,rfl⟩ hc
  have e2:dq P nx f H op K=jX (cD nx f H op) fun p=>K p.1 (dK H p.2) (nx+1):=by cases op<;>first|rfl|exact absurd ⟨_,_,rfl⟩ hc
  rw[e1] at h
  obtain⟨r,u,h1,h2⟩:=jc h
  rw[e2,(h2 trivial).2 f fun x hx=>hF.raw x hx]
  exact h1
theorem uM {nx:Nat} {g:Bool} {ov:Ov} {fr:Fr} {H:Hp} {op:dQ} {K:AV→Prop} (h:lK P nx g (fA ov fr) H op K):
 ∃r,K r∧(g=true→∀f,oe f ov fr→∀K':AV→Hp→Nat→Prop,K' r H (nx+1)→dq P nx f H op K'):=by
 by_cases hc:∃g as,op= .call g as
 ·obtain⟨fo,as,rfl⟩:=hc
  simp only[lK] at h
  obtain⟨h1,h2⟩:=cN h
  obtain⟨h3,h4⟩:=fE h2
  split at h4
  ·rename_i he
   rw[iH] at h4
   obtain⟨r,h5,h6⟩:=h4.ok
   refine⟨r,h6,fun hg f hF K' hK'=> ?_⟩
   simp only[dq]
   rw[hF.raw fo (h1 hg),kX (R:=fA ov fr) fun x hx=>hF.raw x (h3 hg x hx),he]
   exact h5 hg K' hK'
  ·exact h4.elim
 ·have e1:lK P nx g (fA ov fr) H op K=o6 (some g) H (fA ov fr) nx op fun r u=>match u with|none=>K r|some _=>False:=by cases op<;>first|rfl|exact absurd ⟨_,_,rfl⟩ hc
  rw[e1] at h
  obtain⟨r,u,h1,h2⟩:=jc h
  cases u with
  |some p=>exact h1.elim
  |none=>
   refine⟨r,h1,fun hg f hF K' hK'=> ?_⟩
   have e2:dq P nx f H op K'=jX (cD nx f H op) fun p=>K' p.1 (dK H p.2) (nx+1):=by cases op<;>first|rfl|exact absurd ⟨_,_,rfl⟩ hc
   rw[e2,(h2 hg).2 f fun x hx=>hF.raw x hx]
   exact hK'
theorem fS:∀{gs:List gM} {nx:Nat} {ov:Ov} {f fr:Fr} {H:Hp} {K:Ov→Hp→Nat→Prop},oe f ov fr→CK P nx gs ov fr H K→e9 P nx gs f H (fun f1 H1 nx1=>∃ov1,oe f1 ov1 fr∧K ov1 H1 nx1)
 |[],nx,ov,f,fr,H,K,hF,h=>⟨ov,hF,h⟩
 |g::gs,nx,ov,f,fr,H,K,hF,h=>by
  have join:∀{q t:Bool} {d:Nat} {want:Bool},g.guard=some (d,want)→(q=true→ca f d= .sc (.bool t))→(q=false→ca f d= .sc undef)→∀{gg:Bool},(gg=true↔(q=true∧t=want))→
   (lK P nx gg (fA ov fr) H g.op fun r=>CK P (nx+1) gs (gY ov g.dst (some gg) r) fr H K)→e9 P nx (g::gs) f H (fun f1 H1 nx1=>∃ov1,oe f1 ov1 fr∧K ov1 H1 nx1):=by
   intro q t d want hg hq1 hq2 gg hgg hJ
   obtain⟨r,h1,h2⟩:=uM hJ
   simp only[e9,hg,dL]
   cases q with
   |true=>
    simp only[hq1 rfl]
    by_cases ht:t=want
    ·rw[if_pos ht]
     have hgt:=hgg.2 ⟨rfl,ht⟩
     exact h2 hgt f hF _ (fS (hF.qA g.dst (u:=r) (fun _=>rfl) fun h=>by rw[hgt] at h;cases h) h1)
    ·rw[if_neg ht]
     have hgf:gg=false:=by cases hgg':gg<;>simp_all
     exact fS (hF.qA g.dst (u:= .sc undef) (fun h=>by rw[hgf] at h;cases h) fun _=>rfl) h1
   |false=>
    simp only[hq2 rfl]
    have hgf:gg=false:=by cases hgg':gg<;>simp_all
    have:=fS (hF.qA g.dst (u:= .sc undef) (q:=gg) (fun h=>by rw[hgf] at h;cases h) fun _=>rfl) h1
    exact this
  have h:oh P g gs (fun nx ov fr H K=>CK P nx gs ov fr H K) nx ov fr H K:=h
  simp only[oh] at h
  split at h
  ·rename_i hg
   simp only[e9,hg,dL]
   exact(pS hF h).mono fun r H' nx' hh=>fS (hF.put g.dst r) hh
  ·rename_i d want hg
   have hd:=hF d
   split at h
   ·rename_i t he
    rw[he] at hd
    simp only at hd
    rcases h.ok with⟨hA,hB⟩|hJ
    ·simp only[e9,hg,dL,hd]
     by_cases ht:t=want
     ·rw[if_pos ht]
      exact(pS hF (hA ht)).mono fun r H' nx' hh=>fS (hF.put g.dst r) hh
     ·rw[if_neg ht]
      exact fS (hF.put g.dst _) (hB ht)
    ·cases want with
     |true=>exact join (q:=true) hg (fun _=>hd) (fun h=>by cases h) (gg:=t) (by simp) hJ
     |false=>exact join (q:=true) hg (fun _=>hd) (fun h=>by cases h) (gg:= !t) (by simp) hJ
   ·rename_i q t he
    rw[he] at hd
    simp only at hd
    cases want with
    |true=>exact join hg hd.1 hd.2 (gg:=q&&t) (by simp) h
    |false=>exact join hg hd.1 hd.2 (gg:=q&& !t) (by simp) h
   ·rename_i v he
    rw[he] at hd
    simp only at hd
    simp only[e9,hg,dL,hd]
    exact fS (hF.put g.dst _) h
   ·exact h.elim
def CI:Tr→Tr→Prop
 |[],[]=>True
 |a::r,b::s=>(∀x∈a.1,x∈b.1)∧a.2=b.2∧CI r s
 |_,_=>False
theorem CI.snoc {a b:List Nat} {u:Option Nat} (h1:∀x∈a,x∈b):∀{r s:Tr},CI r s→CI (r++[(a,u)]) (s++[(b,u)])
 |[],[],_=>⟨h1,rfl,trivial⟩
 |x::r,y::s,h=>⟨h.1,h.2.1,CI.snoc h1 h.2.2⟩
 |[],_::_,h=>h.elim
 |_::_,[],h=>h.elim
theorem CI.get:∀{r s:Tr},CI r s→∀k,(∀x∈(r.getD k ([],none)).1,x∈(s.getD k ([],none)).1)∧(r.getD k ([],none)).2=(s.getD k ([],none)).2
 |[],[],_,k=>by simp
 |x::r,y::s,h,0=>⟨h.1,h.2.1⟩
 |x::r,y::s,h,k+1=>by simpa using CI.get h.2.2 k
 |[],_::_,h,_=>h.elim
 |_::_,[],h,_=>h.elim
theorem CI.C2 {r s:Tr} (h:CI r s) {ps:List (Nat×Nat)} (hf:iG s ps):iG r ps:=by
 intro p hp
 obtain⟨h1,h2,h3⟩:=hf p hp
 obtain⟨a1,a2⟩:=h.get p.1
 obtain⟨b1,b2⟩:=h.get p.2
 exact⟨fun b hb hm=>h1 b (by rw[←a2];exact hb) (b1 b hm),fun b hb hm=>h2 b (by rw[←b2];exact hb) (a1 b hm),fun b hb=>h3 b ⟨by rw[←a2];exact hb.1,by rw[←b2];exact hb.2⟩⟩
theorem BD {ov:Ov} {f fr:Fr} {op:dQ} (hF:oe f ov fr) (h:op.rd=true→∀y∈op.eI,D6 (fA ov fr) y):∀x∈eQ f op,x∈DM (fA ov fr) op:=by
 intro x hx
 unfold eQ at hx
 unfold DM
 split at hx
 ·rename_i hr
  rw[if_pos hr]
  obtain⟨y,hy,hm⟩:=List.mem_flatMap.1 hx
  exact List.mem_flatMap.2 ⟨y,hy,by rw[←hF.raw y (h hr y hy)];exact hm⟩
 ·cases hx
theorem nf {id:Nat} {ov:Ov} {fr:Fr} {H:Hp} {op:dQ} {K:AV→Option (Nat×eV)→List Nat→Prop} (h:mh P id (fA ov fr) H op K) {f:Fr} (hF:oe f ov fr):
 j0 P id f H op (fun r u S'=>∃S,(∀x∈S',x∈S)∧K r u S):=by
 by_cases hc:∃g as,op= .call g as
 ·obtain⟨fo,as,rfl⟩:=hc
  simp only[mh] at h
  obtain⟨h1,h2⟩:=cN h
  obtain⟨h3,h4⟩:=fE h2
  split at h4
  ·rename_i he
   rw[iH] at h4
   obtain⟨r,u,S,h5,h6⟩:=h4.ok
   refine⟨r,u,S, ?_,S,fun _ h=>h,h6⟩
   rw[hF.raw fo (h1 trivial),kX (R:=fA ov fr) fun x hx=>hF.raw x (h3 trivial x hx),he]
   simpa[mW] using h5
  ·exact h4.elim
 ·have e1:mh P id (fA ov fr) H op K=o6 none H (fA ov fr) id op fun r u=>K r u (DM (fA ov fr) op):=by cases op<;>first|rfl|exact absurd ⟨_,_,rfl⟩ hc
  rw[e1] at h
  obtain⟨r,u,h1,h2⟩:=jc h
  obtain⟨h3,h4⟩:=h2 trivial
  have e2:∀K',j0 P id f H op K'=jX (cD id f H op) fun p=>K' p.1 p.2 (eQ f op):=by intro K';cases op<;>first|rfl|exact absurd ⟨_,_,rfl⟩ hc
  rw[e2,h4 f fun x hx=>hF.raw x hx]
  exact⟨_,BD hF h3,h1⟩
theorem uL {id:Nat} {g:Bool} {ov:Ov} {fr:Fr} {H:Hp} {op:dQ} {K:AV→List Nat→Prop} (h:iS P id g (fA ov fr) H op K):
 ∃r S,K r S∧(g=true→∀f,oe f ov fr→∀K':AV→Option (Nat×eV)→List Nat→Prop,(∀S',(∀x∈S',x∈S)→K' r none S')→j0 P id f H op K'):=by
 by_cases hc:∃g as,op= .call g as
 ·obtain⟨fo,as,rfl⟩:=hc
  simp only[iS] at h
  obtain⟨h1,h2⟩:=cN h
  obtain⟨h3,h4⟩:=fE h2
  split at h4
  ·rename_i he
   rw[iH] at h4
   obtain⟨r,S,h5,h6⟩:=h4.ok
   refine⟨r,S,h6,fun hg f hF K' hK'=>⟨r,none,S, ?_,hK' S fun _ h=>h⟩⟩
   rw[hF.raw fo (h1 hg),kX (R:=fA ov fr) fun x hx=>hF.raw x (h3 hg x hx),he]
   simpa[mW] using h5 hg
  ·exact h4.elim
 ·have e1:iS P id g (fA ov fr) H op K=o6 (some g) H (fA ov fr) id op fun r u=>match u with|none=>K r (DM (fA ov fr) op)|some _=>False:=by cases op<;>first|rfl|exact absurd ⟨_,_,rfl⟩ hc
  rw[e1] at h
  obtain⟨r,u,h1,h2⟩:=jc h
  cases u with
  |some p=>exact h1.elim
  |none=>
   refine⟨r,_,h1,fun hg f hF K' hK'=> ?_⟩
   obtain⟨h3,h4⟩:=h2 hg
   have e2:j0 P id f H op K'=jX (cD id f H op) fun p=>K' p.1 p.2 (eQ f op):=by cases op<;>first|rfl|exact absurd ⟨_,_,rfl⟩ hc
   rw[e2,h4 f fun x hx=>hF.raw x hx]
   exact hK' _ (BD hF h3)
theorem ff:∀{gs:List gM} {id:Nat} {ov:Ov} {f fr:Fr} {H:Hp} {tr tr':Tr} {K:Ov→Hp→Tr→Prop},oe f ov fr→CI tr' tr→WD P id gs ov fr H tr K→iE P id gs f H tr' (fun f1 H1 tr1=>∃ov1 trj,oe f1 ov1 fr∧CI tr1 trj∧K ov1 H1 trj)
 |[],id,ov,f,fr,H,tr,tr',K,hF,hT,h=>⟨ov,tr,hF,hT,h⟩
 |g::gs,id,ov,f,fr,H,tr,tr',K,hF,hT,h=>by
  have join:∀{q t:Bool} {d:Nat} {want:Bool},g.guard=some (d,want)→(q=true→ca f d= .sc (.bool t))→(q=false→ca f d= .sc undef)→∀{gg:Bool},(gg=true↔(q=true∧t=want))→
   (iS P id gg (fA ov fr) H g.op fun r S=>WD P (id+1) gs (gY ov g.dst (some gg) r) fr H (tr++[(S,none)]) K)→iE P id (g::gs) f H tr' (fun f1 H1 tr1=>∃ov1 trj,oe f1 ov1 fr∧CI tr1 trj∧K ov1 H1 trj):=by
   intro q t d want hg hq1 hq2 gg hgg hJ
   obtain⟨r,S,h1,h2⟩:=uL hJ
   simp only[iE,hg,dL]
   cases q with
   |true=>
    simp only[hq1 rfl]
    by_cases ht:t=want
    ·rw[if_pos ht]
     have hgt:=hgg.2 ⟨rfl,ht⟩
     refine h2 hgt f hF _ fun S' hS=> ?_
     exact ff (hF.qA g.dst (u:=r) (fun _=>rfl) fun h=>by rw[hgt] at h;cases h) (hT.snoc hS) h1
    ·rw[if_neg ht]
     have hgf:gg=false:=by cases hgg':gg<;>simp_all
     exact ff (hF.qA g.dst (u:= .sc undef) (fun h=>by rw[hgf] at h;cases h) fun _=>rfl) (hT.snoc (a:=[]) (b:=S) (fun _ h=>by cases h)) h1
   |false=>
    simp only[hq2 rfl]
    have hgf:gg=false:=by cases hgg':gg<;>simp_all
    have:=ff (hF.qA g.dst (u:= .sc undef) (q:=gg) (fun h=>by rw[hgf] at h;cases h) fun _=>rfl) (hT.snoc (a:=[]) (b:=S) (fun _ h=>by cases h)) h1
    exact this
  have h:nc P g gs (fun id ov fr H tr K=>WD P id gs ov fr H tr K) id ov fr H tr K:=h
  simp only[nc] at h
  split at h
  ·rename_i hg
   simp only[iE,hg,dL]
   refine(nf h hF).mono ?_
   rintro r u S' ⟨S,hS,hh⟩
   exact ff (hF.put g.dst r) (hT.snoc hS) hh
  ·rename_i d want hg
   have hd:=hF d
   split at h
   ·rename_i t he
    rw[he] at hd
    simp only at hd
    rcases h.ok with⟨hA,hB⟩|hJ
    ·simp only[iE,hg,dL,hd]
     by_cases ht:t=want
     ·rw[if_pos ht]
      refine(nf (hA ht) hF).mono ?_
      rintro r u S' ⟨S,hS,hh⟩
      exact ff (hF.put g.dst r) (hT.snoc hS) hh
     ·rw[if_neg ht]
      exact ff (hF.put g.dst _) (hT.snoc (a:=[]) (b:=[]) (fun _ h=>h)) (hB ht)
    ·cases want with
     |true=>exact join (q:=true) hg (fun _=>hd) (fun h=>by cases h) (gg:=t) (by simp) hJ
     |false=>exact join (q:=true) hg (fun _=>hd) (fun h=>by cases h) (gg:= !t) (by simp) hJ
   ·rename_i q t he
    rw[he] at hd
    simp only at hd
    cases want with
    |true=>exact join hg hd.1 hd.2 (gg:=q&&t) (by simp) h
    |false=>exact join hg hd.1 hd.2 (gg:=q&& !t) (by simp) h
   ·rename_i v he
    rw[he] at hd
    simp only at hd
    simp only[iE,hg,dL,hd]
    exact ff (hF.put g.dst _) (hT.snoc (a:=[]) (b:=[]) (fun _ h=>h)) h
   ·exact h.elim
theorem ju:∀{segs:List pn} {nx:Nat} {ov:Ov} {f fr:Fr} {H:Hp} {K:Ov→Hp→Nat→Prop},oe f ov fr→WS P nx segs ov fr H K→gX P nx segs f H (fun f1 H1 nx1=>∃ov1,oe f1 ov1 fr∧K ov1 H1 nx1)
 |[],nx,ov,f,fr,H,K,hF,h=>⟨ov,hF,h⟩
 |⟨[g],ps⟩::rest,nx,ov,f,fr,H,K,hF,h=>by
  have h:CK P nx [g] ov fr H fun ov' H' nx'=>WS P nx' rest ov' fr H' K:=h
  refine e9.mono (K':=fun a b c=>gX P c rest a b _) (fS hF h) ?_
  rintro f1 H1 nx1 ⟨ov1,h1,h2⟩
  exact ju h1 h2
 |⟨[],[]⟩::rest,nx,ov,f,fr,H,K,hF,h=>by
  have h:WE P nx [] ov fr H [] fun ov' H' _=>WS P (nx+0) rest ov' fr H' K:=h
  rw[vW,List.reverse_nil] at h
  simp only[gX]
  refine iE.mono (ff hF (tr':=[]) (tr:=[]) trivial h) ?_
  rintro f1 H1 tr1 ⟨ov1,trj,h1,h2,h3⟩
  exact⟨(fun p hp=>by cases hp),ju h1 h3⟩
 |⟨[],p::ps⟩::rest,nx,ov,f,fr,H,K,hF,h=>by
  have h:WE P nx [] ov fr H [] fun ov' H' tr=>Ask (iG tr.reverse (p::ps))∧WS P (nx+0) rest ov' fr H' K:=h
  rw[vW,List.reverse_nil] at h
  simp only[List.reverse_reverse] at h
  simp only[gX]
  refine iE.mono (ff hF (tr':=[]) (tr:=[]) trivial h) ?_
  rintro f1 H1 tr1 ⟨ov1,trj,h1,h2,h3⟩
  exact⟨h2.C2 h3.1.ok,ju h1 h3.2⟩
 |⟨g1::g2::gs,[]⟩::rest,nx,ov,f,fr,H,K,hF,h=>by
  have h:WE P nx (g1::g2::gs) ov fr H [] fun ov' H' _=>WS P (nx+(g1::g2::gs).length) rest ov' fr H' K:=h
  rw[vW,List.reverse_nil] at h
  simp only[gX]
  refine iE.mono (ff hF (tr':=[]) (tr:=[]) trivial h) ?_
  rintro f1 H1 tr1 ⟨ov1,trj,h1,h2,h3⟩
  exact⟨(fun p hp=>by cases hp),ju h1 h3⟩
 |⟨g1::g2::gs,p::ps⟩::rest,nx,ov,f,fr,H,K,hF,h=>by
  have h:WE P nx (g1::g2::gs) ov fr H [] fun ov' H' tr=>Ask (iG tr.reverse (p::ps))∧WS P (nx+(g1::g2::gs).length) rest ov' fr H' K:=h
  rw[vW,List.reverse_nil] at h
  simp only[List.reverse_reverse] at h
  simp only[gX]
  refine iE.mono (ff hF (tr':=[]) (tr:=[]) trivial h) ?_
  rintro f1 H1 tr1 ⟨ov1,trj,h1,h2,h3⟩
  exact⟨h2.C2 h3.1.ok,ju h1 h3.2⟩
theorem Holds.less {w0:World} {M0:Nat→Prop} {c0:Cx} {lo n:Nat} {fr fr':Fr} {H:Hp} {nx:Nat} {a:Act} {w:World} (h:Holds w0 M0 c0 lo n fr H nx a w) (hf:∀t,ca fr' t= .any∨ca fr' t=ca fr t):Holds w0 M0 c0 lo n fr' H nx a w:=by
 obtain⟨h1,h2,ρ,U,hU,hS,hF,hT⟩:=h
 refine⟨h1,h2,ρ,U,hU,hS,fun t=> ?_,hT⟩
 rcases hf t with h|h
 ·rw[h,VR];trivial
 ·rw[h];exact hF t
theorem WL.less {n lo:Nat} {lc:LC} {fr:Fr} {H:Hp} {nx:Nat} {Q:QT} (h:WL P n lo lc fr H nx (fun e f H nx=>∃f',(∀t,ca f' t= .any∨ca f' t=ca f t)∧Q e f' H nx)):WL P n lo lc fr H nx Q:=
 fun code hc w0 M0 c0 a w hh=>Code.wp_mono (fun _ _ _ ⟨x,f,H,nx,he,⟨f',h1,h2⟩,hhh⟩=>⟨x,f',H,nx,he,h2,hhh.less h1⟩) (h code hc w0 M0 c0 a w hh)
theorem oe.less {f:Fr} {ov:Ov} {fr:Fr} (h:oe f ov fr) (t:Nat):ca (gq ov fr) t= .any∨ca (gq ov fr) t=ca f t:=by
 rcases nD (ov:=ov) (fr:=fr) (t:=t) with h1|⟨v,h1,h2⟩
 ·exact .inl h1
 ·have:=h t
  rw[h1] at this
  exact .inr (h2.trans this.symm)
theorem fe.of {segs:List pn} {fr:Fr} {H:Hp} {nx:Nat} {Q:QT} (h:WS P nx segs [] fr H fun ov H' nx'=>Q .normal (gq ov fr) H' nx'):fe P segs fr H nx Q:=
 ⟨fun _ _=>WL.less (WL.drawn (gX.mono (ju (oe.refl fr) h) fun _ _ _ ⟨_,h1,h2⟩=>⟨_,h1.less,h2⟩))⟩
theorem fm {n lo:Nat}:∀{lc:LC} {fr:Fr} {H:Hp} {nx:Nat} {Q:QT},W P n lo lc fr H nx Q→WL P n lo lc fr H nx Q
 | .skip,_,_,_,_,h=>WL.skip h
 | .ret,_,_,_,_,h=>WL.ret h
 | .exit _,_,_,_,_,h=>WL.exit h
 | .region gs,fr,H,nx,Q,h=>WL.less (WL.region (e9.mono (fS (oe.refl fr) h) fun _ _ _ ⟨_,h1,h2⟩=>⟨_,h1.less,h2⟩))
 | .drawn segs,fr,H,nx,Q,h=>fe.ok (P:=P) h n lo
 | .seq a b,fr,H,nx,Q,h=>WL.seq ((fm (lc:=a) (Q:=jV (fun fr H nx=>W P n lo b fr H nx Q) Q) h).mono fun e fr H nx hh=>by
  cases e with
  |normal=>exact fm (lc:=b) hh
  |exit id=>exact hh
  |ret=>exact hh)
 | .cond c a b,fr,H,nx,Q,h=>by
  have h:yW c a b (W P n lo a) (W P n lo b) fr H nx Q:=h
  simp only[yW] at h
  split at h
  ·rename_i t ht
   exact WL.cond ht (fun h1=>fm (lc:=a) (h.ok.1 h1)) (fun h1=>fm (lc:=b) (h.ok.2 h1))
  ·rename_i ht
   exact WL.OH ht (fm (lc:=a) h.1) (fm (lc:=b) h.2)
  ·exact h.elim
 | .block id a,fr,H,nx,Q,h=>WL.block (fm (lc:=a) h)
 | .loop a,fr,H,nx,Q,h=>h.ok
theorem iK.inv {n lo:Nat} {x:LC} {fr:Fr} {H:Hp} {nx:Nat} {Q:QT} {σ:Type} (I:σ→Fr→Hp→Nat→Prop) (μ:σ→Nat) (s0:σ) (h0:∃fr',(∀t,ca fr' t= .any∨ca fr' t=ca fr t)∧I s0 fr' H nx)
 (round:∀s fr H nx,I s fr H nx→WL P n lo x fr H nx (jV (fun fr' H' nx'=>∃s',μ s'<μ s∧∃fr2,(∀t,ca fr2 t= .any∨ca fr2 t=ca fr' t)∧I s' fr2 H' nx') Q)):iK P n lo x fr H nx Q:=by
 refine⟨fun code hc w0 M0 c0 a w hh=> ?_⟩
 have:∃c1,code= .loop c1∧cy P n c1=some x:=by
  cases code<;>simp only[cy] at hc
  case loop c1=>
   simp only[Option.map_eq_some_iff,LC.loop.injEq] at hc
   obtain⟨x',h1,rfl⟩:=hc
   exact⟨c1,rfl,h1⟩
  all_goals (exfalso;repeat' (split at hc))<;>simp at hc
 obtain⟨c1,rfl,h1⟩:=this
 intro b k cs
 have key:∀m,∀s,μ s=m→∀fr H nx,I s fr H nx→∀a w,Holds w0 M0 c0 lo n fr H nx a w→
  ∃e a' w',LQ w0 M0 c0 lo n Q e a' w'∧Arrives P (lone (b.at a (.code c1:: .inLoop c1::k)) cs w) b k cs e a' w':=by
  intro m
  induction m using Nat.strongRecOn with
  |_ m ih=>
   intro s hs fr H nx hI a w hh
   obtain⟨e,a1,w1,hq,harr⟩:=round s fr H nx hI c1 h1 w0 M0 c0 a w hh b (.inLoop c1::k) cs
   obtain⟨x',fr',H',nx',rfl,hQ,hh'⟩:=hq
   cases x' with
   |normal=>
    obtain⟨s',hlt,fr2,hless,hI'⟩:=hQ
    obtain⟨e2,a2,w2,hq2,harr2⟩:=ih (μ s') (by omega) s' rfl fr2 H' nx' hI' a1 w1 (hh'.less hless)
    exact⟨e2,a2,w2,hq2, .of_steps (Steps.trans harr (.one step_inLoop)) harr2⟩
   |exit id=>exact⟨_,a1,w1,⟨.exit id,fr',H',nx',rfl,hQ,hh'⟩, .pass (x:= .inLoop c1) rfl (fun _ _=> .inl (by simp[Ex.to])) harr⟩
   |ret=>exact⟨_,a1,w1,⟨.ret,fr',H',nx',rfl,hQ,hh'⟩, .pass (x:= .inLoop c1) rfl (fun _ _=> .inl (by simp[Ex.to])) harr⟩
 obtain⟨fr',hless,hI⟩:=h0
 obtain⟨e,a',w',hq,harr⟩:=key _ s0 rfl fr' H nx hI a w (hh.less hless)
 exact⟨e,a',w',hq, .of_steps (.one step_loop) harr⟩
def j7 (fr:Fr):Fr→Prop
 |[]=>True
 |(t,v)::r=>ca fr t=v∧j7 fr r
theorem gO {fr:Fr}:∀{fr':Fr},j7 fr fr'→∀t,ca fr' t= .any∨ca fr' t=ca fr t
 |[],_,t=> .inl rfl
 |(d,v)::r,h,t=>by
  simp only[ca]
  by_cases ht:t=d
  ·subst ht;rw[if_pos rfl];exact .inr h.1.symm
  ·rw[if_neg ht];exact gO h.2 t
theorem iK.fr {n lo:Nat} {x:LC} {fr:Fr} {H:Hp} {nx:Nat} {Q:QT} {σ:Type} (F:σ→Fr) (I:σ→Hp→Nat→Prop) (μ:σ→Nat) (s0:σ) (h0:j7 fr (F s0)) (h1:I s0 H nx)
 (round:∀s H nx,I s H nx→W P n lo x (F s) H nx (jV (fun fr' H' nx'=>∃s',μ s'<μ s∧j7 fr' (F s')∧I s' H' nx') Q)):iK P n lo x fr H nx Q:=by
 refine iK.inv (fun s fr H nx=>fr=F s∧I s H nx) μ s0 ⟨F s0,gO h0,rfl,h1⟩ ?_
 rintro s fr H nx ⟨rfl,hI⟩
 refine(fm (round s H nx hI)).mono ?_
 intro e fr' H' nx' hh
 cases e with
 |normal=>
  obtain⟨s',h2,h3,h4⟩:=hh
  exact⟨s',h2,F s',gO h3,rfl,h4⟩
 |exit id=>exact hh
 |ret=>exact hh
end
end Go.cZ
end
