import Derived.Test.YtjopoheligmmoaaGreatDoorM9
section
/- A run by reduction alone: the code is walked by the reducer; what is to be shown stands out as questions. -/
set_option linter.unusedSimpArgs false
set_option linter.unusedVariables false
namespace Go.cY
open Go.RowKit
structure Ask (p:Prop):Prop where
 ok:p
def du:Option Bool→Prop→Prop
 |none,p=>Ask p
 |some g,p=>Ask (g=true→p)
def Gd:Option Bool→Prop
 |none=>True
 |some g=>g=true
theorem cW {g:Option Bool} {p:Prop}:du g p↔(Gd g→p):=by
 cases g with
 |none=>exact⟨fun h _=>h.ok,fun h=>⟨h trivial⟩⟩
 |some g=>exact⟨fun h=>h.ok,fun h=>⟨h⟩⟩
abbrev Ov:=List (Nat×Option Bool×AV)
def pn:Ov→Fr→Nat→Option Bool×AV
 |[],fr,t=>(none,ca fr t)
 |(d,c,v)::r,fr,t=>bif Nat.beq t d then(c,v) else pn r fr t
def gR (ov:Ov) (d:Option Nat) (c:Option Bool) (v:AV):Ov:=
 match d with
 |some d=>(d,c,v)::ov
 |none=>ov
def gh:Ov→Fr→Fr
 |[],fr=>fr
 |(d,none,v)::r,fr=>(d,v)::gh r fr
 |(d,some _,_)::r,fr=>(d, .any)::gh r fr
def fC (ov:Ov) (fr:Fr):eA→Option Bool×AV
 | .t n=>pn ov fr n
 | .c v=>(none, .sc v)
 | .f n=>(none, .fn (.func n) [] [])
 | .m nm n=>match pn ov fr n with
  |(g, .l3 t v)=>(g, .fn (.method nm) [.l3 t v] [])
  |(g,_)=>(g, .any)
theorem qw {t d:Nat} (h:¬t=d):Nat.beq t d=false:=by
 cases hb:Nat.beq t d with
 |false=>rfl
 |true=>exact absurd (Nat.eq_of_beq_eq_true hb) h
def pZ (f:Fr) (ov:Ov) (fr:Fr):Prop:=
 ∀t,match pn ov fr t with
  |(none,v)=>ca f t=v
  |(some q,v)=>(q=true→ca f t=v)∧(q=false→ca f t= .sc undef)
theorem pZ.refl (fr:Fr):pZ fr [] fr:=fun _=>rfl
theorem pZ.put {f:Fr} {ov:Ov} {fr:Fr} (h:pZ f ov fr) (d:Option Nat) (v:AV):pZ (fO f d v) (gR ov d none v) fr:=by
 cases d with
 |none=>exact h
 |some d=>
  intro t
  simp only[gR,fO,pn,ca]
  by_cases ht:t=d
  ·subst ht;simp
  ·have:Nat.beq t d=false:=qw ht
   rw[this,if_neg ht];exact h t
theorem pZ.pI {f:Fr} {ov:Ov} {fr:Fr} (h:pZ f ov fr) (d:Option Nat) {q:Bool} {u v:AV} (h1:q=true→u=v) (h2:q=false→u= .sc undef):pZ (fO f d u) (gR ov d (some q) v) fr:=by
 cases d with
 |none=>exact h
 |some d=>
  intro t
  simp only[gR,fO,pn,ca]
  by_cases ht:t=d
  ·subst ht;simpa using⟨h1,h2⟩
  ·have:Nat.beq t d=false:=qw ht
   rw[this,if_neg ht];exact h t
theorem pZ.raw {f:Fr} {ov:Ov} {fr:Fr} (h:pZ f ov fr) (x:eA) (hq:∀q,(fC ov fr x).1=some q→q=true):ev f x=(fC ov fr x).2:=by
 cases x with
 |t n=>
  have:=h n
  simp only[ev,fC] at hq ⊢
  split at this
  ·rename_i v he;rw[this,he]
  ·rename_i q v he;rw[he] at hq ⊢;exact this.1 (hq q rfl)
 |c v=>rfl
 |f n=>rfl
 |m nm n=>
  have:=h n
  simp only[ev,fC] at hq ⊢
  generalize pn ov fr n=x at this hq ⊢
  obtain⟨g,v⟩:=x
  have hv:ca f n=v:=by
   cases g with
   |none=>exact this
   |some q=>
    refine this.1 (hq q ?_)
    cases v<;>rfl
  rw[hv]
  cases v<;>rfl
theorem nh {fr:Fr} {t:Nat}:∀{ov:Ov},ca (gh ov fr) t= .any∨∃v,pn ov fr t=(none,v)∧ca (gh ov fr) t=v
 |[]=> .inr ⟨_,rfl,rfl⟩
 |(d,none,v)::r=>by
  simp only[gh,ca,pn]
  by_cases ht:t=d
  ·subst ht;simp
  ·have:Nat.beq t d=false:=qw ht
   rw[this,if_neg ht];exact nh
 |(d,some q,v)::r=>by
  simp only[gh,ca,pn]
  by_cases ht:t=d
  ·subst ht;simp
  ·have:Nat.beq t d=false:=qw ht
   rw[this,if_neg ht];exact nh
abbrev Raw:=eA→Option Bool×AV
def dB (g:Option Bool) (R:Raw) (x:eA) (K:AV→Prop):Prop:=
 match R x with
 |(none,v)=>K v
 |(some q,v)=>du g (q=true)∧K v
def JS (R:Raw) (x:eA):Prop:=∀q,(R x).1=some q→q=true
theorem cL {g:Option Bool} {R:Raw} {x:eA} {K:AV→Prop} (h:dB g R x K):(Gd g→JS R x)∧K (R x).2:=by
 unfold dB at h
 split at h
 ·rename_i v he;rw[he];exact⟨fun _ q hq=>(by rw[he] at hq;cases hq),h⟩
 ·rename_i q v he
  rw[he]
  exact⟨fun hg q' hq=>(by rw[he] at hq;cases hq;exact cW.1 h.1 hg),h.2⟩
def BR (K:List AV→Prop):Prop:=K []
def xb (g:Option Bool) (R:Raw) (x:eA) (_:List eA) (ih:(List AV→Prop)→Prop) (K:List AV→Prop):Prop:=dB g R x fun a=>ih fun as=>K (a::as)
noncomputable def jo (g:Option Bool) (R:Raw) (xs:List eA):(List AV→Prop)→Prop:=List.rec (motive:=fun _=>(List AV→Prop)→Prop) BR (xb g R) xs
theorem fE {g:Option Bool} {R:Raw}:∀{xs:List eA} {K:List AV→Prop},jo g R xs K→(Gd g→∀x∈xs,JS R x)∧K (xs.map fun x=>(R x).2)
 |[],K,h=>⟨fun _ _ h=>(by cases h),h⟩
 |x::r,K,h=>by
  obtain⟨h1,h2⟩:=cL h
  obtain⟨h3,h4⟩:=fE h2
  refine⟨fun hg y hy=> ?_,h4⟩
  rcases List.mem_cons.1 hy with rfl|hy
  ·exact h1 hg
  ·exact h3 hg y hy
theorem kz {f:Fr} {R:Raw}:∀{xs:List eA},(∀x∈xs,ev f x=(R x).2)→qW f xs=xs.map fun x=>(R x).2
 |[],_=>rfl
 |x::r,h=>by
  simp only[qW,List.map_cons]
  rw[h x (by simp),kz fun y hy=>h y (by simp[hy])]
def fi (v:AV) (K:AV→Prop):Prop:=
 match v with
 | .sc v=>K (.sc v)
 | .any=>K .any
 | .im a b c=>K (.im a b c)
 | .ip a b c d e=>K (.ip a b c d e)
 | .sl a b=>K (.sl a b)
 | .pt a b c d=>K (.pt a b c d)
 | .zc=>K .zc
 | .agg a=>K (.agg a)
 | .dP a=>K (.dP a)
 | .fn a b c=>K (.fn a b c)
 | .l3 a b=>K (.l3 a b)
 | .mp a=>K (.mp a)
 | .ab=>K .ab
 | .sv a b c d=>K (.sv a b c d)
theorem ee (v:AV) (K:AV→Prop):fi v K=K v:=by cases v<;>rfl
def BU (K:List AV→Prop):Prop:=K []
def xe (a:AV) (_:List AV) (ih:(List AV→Prop)→Prop) (K:List AV→Prop):Prop:=ih fun r'=>K (a::r')
noncomputable def pk (l:List AV):(List AV→Prop)→Prop:=List.rec (motive:=fun _=>(List AV→Prop)→Prop) BU xe l
theorem iB:∀(l:List AV) (K:List AV→Prop),pk l K=K l
 |[],_=>rfl
 |a::r,K=>iB r fun r'=>K (a::r')
structure fx (H:Hp) (b:Nat) (K:TypeId→Nat→AV→List AV→Prop):Prop where
 ok:∃e sz d es,bt H b=some (.row e sz d es)∧K e sz d es
theorem fx.of {H:Hp} {b:Nat} {K:TypeId→Nat→AV→List AV→Prop} {e:TypeId} {sz:Nat} {d:AV} {es:List AV} (h:bt H b=some (.row e sz d es)) (k:K e sz d es):fx H b K:=⟨⟨e,sz,d,es,h,k⟩⟩
structure pY (es:List AV) (i:Nat) (d:AV) (K:AV→Prop):Prop where
 ok:K (es.getD i d)
theorem pY.of {es:List AV} {i:Nat} {d:AV} {K:AV→Prop} {e:AV} (h:es.getD i d=e) (k:K e):pY es i d K:=⟨by rw[h];exact k⟩
structure jC {α:Type} (x:Option α) (K:α→Prop):Prop where
 ok:∃a,x=some a∧K a
theorem jC.of {α:Type} {x:Option α} {K:α→Prop} {a:α} (h:x=some a) (k:K a):jC x K:=⟨⟨a,h,k⟩⟩
structure jD {α:Type} (g:Option Bool) (x:Option α) (K:α→Prop):Prop where
 ok:∃a,(Gd g→x=some a)∧K a
theorem jD.of {α:Type} {g:Option Bool} {x:Option α} {K:α→Prop} {a:α} (h:Gd g→x=some a) (k:K a):jD g x K:=⟨⟨a,h,k⟩⟩
structure qO (H:Hp) (b:Nat) (K:TypeId→AV→List AV→Prop):Prop where
 ok:∃e d es,bt H b=some (.row e 0 d (mapA es))∧K e d es
theorem qO.of {H:Hp} {b:Nat} {K:TypeId→AV→List AV→Prop} {e:TypeId} {d:AV} {es:List AV} (h:bt H b=some (.row e 0 d (mapA es))) (k:K e d es):qO H b K:=⟨⟨e,d,es,h,k⟩⟩
def G8 (H:Hp) (v:AV) (K:Nat→TypeId→AV→List AV→Prop):Prop:=
 match v with
 | .mp b=>qO H b (K b)
 |_=>False
theorem kb {H:Hp} {v:AV} {K:Nat→TypeId→AV→List AV→Prop} (h:G8 H v K):∃b e d es,mapOf H v=some (b,e,d,es)∧K b e d es:=by
 cases v<;>simp only[G8] at h
 obtain⟨e,d,es,h1,h2⟩:=h.ok
 exact⟨_,e,d,es,by simp only[mapOf,h1,mapA],h2⟩
structure tL (g:Option Bool) (k:IntKind) (n:Int) (K:Int→Prop):Prop where
 ok:∃m,(Gd g→k.wrap n=m)∧K m
theorem tL.of {g:Option Bool} {k:IntKind} {n:Int} {K:Int→Prop} {m:Int} (h:Gd g→k.wrap n=m) (hK:K m):tL g k n K:=⟨⟨m,h,hK⟩⟩
section
variable (g:Option Bool) (H:Hp)
def ZT (ag:Bool) (k:Nat) (e:AV) (sz off:Nat) (K:AV→Prop):Prop:=
 match ag with
 |true=>match e with
  | .agg cs=>bif Nat.beq off 0&&Nat.beq k sz then K (.agg cs) else du g (off+k≤cs.length)∧K (.agg ((cs.drop off).take k))
  |_=>False
 |false=>match e with
  | .agg cs=>pY cs off .any fun v=>fi v K
  | .any=>K .any
  |e=>bif one e then fi e K else False
def lookW (v:AV) (K:Nat→AV→Nat→Prop):Prop:=
 match v with
 | .ip sz d es i off=>pY es i d fun e=>K sz e off
 | .pt b len i off=>fx H b fun _ sz d es=>du g (es.length=len)∧pY es i d fun e=>K sz e off
 |_=>False
def sB (k:Nat) (v:AV) (K:List AV→Prop):Prop:=
 match v with
 | .im sz _ es=>bif Nat.beq sz k then K es else False
 | .sl b len=>fx H b fun _ sz _ es=>du g (es.length=len∧sz=k)∧K es
 | .sc (.slice none 0 0)=>K []
 | .zc=>K []
 | .sv b len lo n=>fx H b fun _ sz _ es=>du g (es.length=len∧sz=k)∧K ((es.drop lo).take n)
 |_=>False
noncomputable def pQ (R:Raw) (id:Nat) (op:dL) (K:AV→Option (Nat×eT)→Prop):Prop:=
 match op with
 | .mv x=>dB g R x fun a=>fi a fun a=>K a none
 | .pick c a b=>dB g R c fun v=>match v with
  | .sc (.bool t)=>
   let rest:=fun(_:Unit)=>fi (pG t (R a).2 (R b).2) fun v=>K v none
   let r2:=fun(_:Unit)=>match(R b).1 with
    |none=>rest ()
    |some q=>du g (t=false→q=true)∧rest ()
   match(R a).1 with
   |none=>r2 ()
   |some q=>du g (t=true→q=true)∧r2 ()
  |_=>False
 | .alloc e sz ag z=>du g (z.length=sz)∧K (.pt id 1 0 0) (some (id, .row e sz (gM ag z) [gM ag z]))
 | .box e sz ag x=>dB g R x fun v=>du g (fits ag sz v=true)∧K (.pt id 1 0 0) (some (id, .row e sz .any [v]))
 | .W0 z parts=>jo g R (parts.map (·.2.2)) fun as=>jC (qY (z.map .sc) (List.zipWith (fun p a=>(p.1,p.2.1,a)) parts as)) fun cs=>K (.agg cs) none
 | .T6 e sz ag z n parts=>jo g R (parts.map (·.2)) fun as=>
  du g (z.length=sz∧(List.zipWith (fun p a=>(p.1,a)) parts as).all (fun p=>decide (p.1<n)&&fits ag sz p.2)=true)∧
  K (.sl id n) (some (id, .row e sz (gM ag z) ((List.zipWith (fun p a=>(p.1,a)) parts as).foldl (fun l p=>l.set p.1 p.2) (List.replicate n (gM ag z)))))
 | .ld ag k x=>dB g R x fun v=>lookW g H v fun sz e off=>ZT g ag k e sz off fun r=>K r none
 | .st ag k x y=>dB g R x fun v=>dB g R y fun yv=>match v with
  | .pt b len i off=>fx H b fun e sz d es=>du g (es.length=len)∧pY es i d fun gO=>jC (WJ ag k gO yv sz off) fun e'=>K .any (some (b, .row e sz d (es.set i e')))
  |_=>False
 | .V2 x=>dB g R x fun v=>match v with
  | .pt b len i off=>K (.pt b len i off) none
  | .ip sz d es i off=>K (.ip sz d es i off) none
  | .fn (.func f) p q=>K (.fn (.func f) p q) none
  | .l3 t v=>K (.l3 t v) none
  |_=>False
 | .bin op x y=>dB g R x fun a=>dB g R y fun b=>match op,a,b with
  | .add, .sc (.int k a), .sc (.int k' b)=>du g (k=k')∧tL g k (a+b) fun m=>K (.sc (.int k m)) none
  | .sub, .sc (.int k a), .sc (.int k' b)=>du g (k=k')∧tL g k (a - b) fun m=>K (.sc (.int k m)) none
  | .mul, .sc (.int k a), .sc (.int k' b)=>du g (k=k')∧tL g k (a * b) fun m=>K (.sc (.int k m)) none
  | .eql, .sc (.int k a), .sc (.int k' b)=>du g (k=k')∧K (.sc (.bool (decide (a=b)))) none
  | .neq, .sc (.int k a), .sc (.int k' b)=>du g (k=k')∧K (.sc (.bool (decide (a≠b)))) none
  | .lss, .sc (.int k a), .sc (.int k' b)=>du g (k=k')∧K (.sc (.bool (decide (a<b)))) none
  | .leq, .sc (.int k a), .sc (.int k' b)=>du g (k=k')∧K (.sc (.bool (decide (a≤b)))) none
  | .gtr, .sc (.int k a), .sc (.int k' b)=>du g (k=k')∧K (.sc (.bool (decide (b<a)))) none
  | .geq, .sc (.int k a), .sc (.int k' b)=>du g (k=k')∧K (.sc (.bool (decide (b≤a)))) none
  | .quo, .sc (.int k a), .sc (.int k' b)=>du g (k=k'∧b≠0)∧K (.sc (.int k (k.wrap (a.tdiv b)))) none
  | .rem, .sc (.int k a), .sc (.int k' b)=>du g (k=k'∧b≠0)∧K (.sc (.int k (a.tmod b))) none
  | .and, .sc (.int k a), .sc (.int k' b)=>du g (k=k')∧K (.sc (.int k (k.wrap (BitVec.ofInt k.bits a&&& BitVec.ofInt k.bits b).toNat))) none
  | .or, .sc (.int k a), .sc (.int k' b)=>du g (k=k')∧K (.sc (.int k (k.wrap (BitVec.ofInt k.bits a|||BitVec.ofInt k.bits b).toNat))) none
  | .xor, .sc (.int k a), .sc (.int k' b)=>du g (k=k')∧K (.sc (.int k (k.wrap (BitVec.ofInt k.bits a^^^BitVec.ofInt k.bits b).toNat))) none
  | .andNot, .sc (.int k a), .sc (.int k' b)=>du g (k=k')∧K (.sc (.int k (k.wrap (BitVec.ofInt k.bits a&&& ~~~(BitVec.ofInt k.bits b)).toNat))) none
  | .shl, .sc (.int k a), .sc (.int _ b)=>du g (0≤b)∧K (.sc (.int k (k.wrap (a * 2^(min b.toNat k.bits))))) none
  | .shr, .sc (.int k a), .sc (.int _ b)=>du g (0≤b)∧K (.sc (.int k (a.fdiv (2^(min b.toNat k.bits))))) none
  |_,_,_=>False
 | .W2 neg x y=>dB g R x fun a=>dB g R y fun b=>match a,b with
  | .sc (.bool p), .sc (.bool q)=>(match neg with
   |true=>K (.sc (.bool (p != q))) none
   |false=>K (.sc (.bool (p==q))) none)
  |_,_=>False
 | .uQ neg x y=>dB g R x fun a=>dB g R y fun b=>match a,b with
  | .sc (.string p), .sc (.string q)=>(match neg with
   |true=>K (.sc (.bool (p != q))) none
   |false=>K (.sc (.bool (p==q))) none)
  |_,_=>False
 | .HG op x y=>dB g R x fun a=>dB g R y fun b=>match a,b with
  | .sc (.string p), .sc (.string q)=>(match op with
   | .add=>du g (p.size+q.size≤9223372036854775807)∧K (.sc (.string (p++q))) none
   | .lss=>K (.sc (.bool (Op.bytesLess p.toList q.toList))) none
   |_=>False)
  |_,_=>False
 | .QO sz ag z x=>dB g R x fun v=>match v with
  | .sv b len lo n=>fx H b fun e s d es=>du g (es.length=len∧s=sz∧lo+n≤len)∧K (.dP []) (some (b, .row e s d (es.take lo++List.replicate n (gM ag z)++es.drop (lo+n))))
  |_=>False
 | .U5 x=>dB g R x fun v=>sB g H 1 v fun xs=>jD g (ko xs) fun ns=>K (.sc (.string (TN ns))) none
 | .un op x=>dB g R x fun a=>match op,a with
  | .not, .sc (.bool b)=>K (.sc (.bool !b)) none
  | .neg, .sc (.int k n)=>tL g k (0 - n) fun m=>K (.sc (.int k m)) none
  |_,_=>False
 | .XP k x=>dB g R x fun a=>match a with
  | .sc (.int _ n)=>tL g k n fun m=>K (.sc (.int k m)) none
  |_=>False
 | .fa off x=>dB g R x fun a=>match a with
  | .ip sz d es i o=>du g (o+off<sz)∧K (.ip sz d es i (o+off)) none
  | .pt b len i o=>fx H b fun _ sz _ es=>du g (es.length=len∧o+off<sz)∧K (.pt b len i (o+off)) none
  |_=>False
 | .ia k n x i=>dB g R x fun v=>dB g R i fun iv=>match iv with
  | .sc (.int _ j)=>
   (match n with
    |none=>match v with
     | .im sz d es=>du g (k=sz)∧du g (0≤j∧j<es.length)∧K (.ip sz d es j.toNat 0) none
     | .sl b len=>fx H b fun _ sz _ es=>du g (es.length=len∧k=sz)∧du g (0≤j∧j<len)∧K (.pt b len j.toNat 0) none
     | .sv b len lo m=>fx H b fun _ sz _ es=>du g (es.length=len∧k=sz)∧du g (0≤j∧j<m)∧K (.pt b len (lo+j.toNat) 0) none
     |_=>False
    |some m=>match v with
     | .ip sz d es i off=>du g (off+m * k≤sz)∧du g (0≤j∧j<m)∧K (.ip sz d es i (off+j.toNat * k)) none
     | .pt b len i off=>fx H b fun _ sz _ es=>du g (es.length=len∧off+m * k≤sz)∧du g (0≤j∧j<m)∧K (.pt b len i (off+j.toNat * k)) none
     |_=>False)
  |_=>False
 | .XW off k ag x=>dB g R x fun v=>match v with
  | .agg cs=>(match ag with
   |true=>du g (off+k≤cs.length)∧K (.agg ((cs.drop off).take k)) none
   |false=>du g (off+k≤cs.length∧k=1)∧pY cs off .any fun v=>fi v fun v=>K v none)
  |_=>False
 | .ix k ag n x i=>dB g R x fun v=>dB g R i fun iv=>match v,iv with
  | .agg cs, .sc (.int _ j)=>du g (n * k=cs.length)∧du g (0≤j∧j<n)∧(match ag with
   |true=>K (.agg ((cs.drop (j.toNat * k)).take k)) none
   |false=>du g (k=1)∧pY cs (j.toNat * k) .any fun v=>fi v fun v=>K v none)
  |_,_=>False
 | .X4 x i=>dB g R x fun v=>dB g R i fun iv=>match v,iv with
  | .sc (.string s), .sc (.int _ j)=>du g (0≤j∧j<s.size)∧K (.sc (.int .u8 (s.data.toList.getD j.toNat 0).toNat)) none
  |_,_=>False
 | .lens x=>dB g R x fun v=>match v with
  | .sc (.string s)=>K (.sc (.int .i64 s.size)) none
  |_=>False
 | .V0 e sz bytes ag z l c=>dB g R l fun lv=>dB g R c fun cv=>match lv,cv with
  | .sc (.int _ n), .sc (.int _ m)=>du g (z.length=sz∧n=m)∧du g (0≤n∧n * bytes≤281474976710656∧n≤9223372036854775807)∧
   K (.sl id n.toNat) (some (id, .row e sz (gM ag z) (List.replicate n.toNat (gM ag z))))
  |_,_=>False
 | .ext i x=>dB g R x fun v=>match v with
  | .dP vs=>du g (i<vs.length)∧pY vs i .any fun v=>fi v fun v=>K v none
  |_=>False
 | .W6 f first caps=>jo g R first fun a=>jo g R caps fun b=>K (.fn f a b) none
 | .YB t x=>dB g R x fun v=>K (.l3 t v) none
 | .len x=>dB g R x fun v=>match v with
  | .im _ _ es=>K (.sc (.int .i64 (es.length:Int))) none
  | .sl b len=>fx H b fun _ _ _ es=>du g (es.length=len)∧K (.sc (.int .i64 (len:Int))) none
  | .sc (.slice none 0 0)=>K (.sc (.int .i64 0)) none
  | .zc=>K (.sc (.int .i64 0)) none
  | .sv _ _ _ n=>K (.sc (.int .i64 (n:Int))) none
  |_=>False
 | .app e sz bytes ag z s x=>dB g R s fun sv=>dB g R x fun xv=>sB g H sz xv fun xs=>du g (z.length=sz)∧match sv with
  | .sc (.slice none 0 0)=>du g (xs.length * bytes≤iS)∧K (.sl id xs.length) (some (id, .row e sz (gM ag z) xs))
  | .sl b len=>fx H b fun e' sz' d es=>du g (es.length=len∧e'=e∧sz'=sz)∧du g ((len+xs.length) * bytes≤iS)∧K (.sl b (len+xs.length)) (some (b, .row e sz d (es++xs)))
  |_=>False
 | .LB e bytes z s x=>dB g R s fun sv=>dB g R x fun xv=>match xv with
  | .sc (.string q)=>(match sv with
   | .sc (.slice none 0 0)=>du g ((cN q).length * bytes≤iS)∧K (.sl id (cN q).length) (some (id, .row e 1 z (cN q)))
   | .sl b len=>fx H b fun e' sz' d es=>du g (es.length=len∧e'=e∧sz'=1)∧du g ((len+(cN q).length) * bytes≤iS)∧K (.sl b (len+(cN q).length)) (some (b, .row e 1 d (es++cN q)))
   |_=>False)
  |_=>False
 | .JO neg x=>dB g R x fun v=>match v with
  | .pt _ _ _ _=>K (.sc (.bool neg)) none
  | .ip _ _ _ _ _=>K (.sc (.bool neg)) none
  | .sc (.pointer none)=>K (.sc (.bool !neg)) none
  |_=>False
 | .ze neg x=>dB g R x fun v=>jC (sf H v) fun t=>fi (qi neg t) fun v=>K v none
 | .eqs neg ks x y=>dB g R x fun a=>dB g R y fun b=>match a,b with
  | .agg as, .agg bs=>jC (MC ks as bs) fun t=>(match neg with
   |true=>K (.sc (.bool !t)) none
   |false=>K (.sc (.bool t)) none)
  |_,_=>False
 | .T4 e n=>K (.pt id n 0 0) (some (id, .row e 1 (.sc (.int .u8 0)) (List.replicate n (.sc (.int .u8 0)))))
 | .bad=>False
 | .VS n x i=>dB g R x fun v=>dB g R i fun iv=>match v,iv with
  | .pt b len 0 0, .sc (.int _ j)=>fx H b fun _ sz _ es=>du g (len=n∧es.length=n∧sz=1)∧du g (0≤j∧j<n)∧K (.pt b n j.toNat 0) none
  |_,_=>False
 | .WB n x i=>dB g R x fun v=>dB g R i fun iv=>match v,iv with
  | .pt b len 0 0, .sc (.int _ j)=>fx H b fun _ sz _ es=>du g (len=n∧es.length=n∧sz=1)∧du g (0≤j∧j<n)∧K (.sv b n j.toNat (n - j.toNat)) none
  |_,_=>False
 | .W8 sz x h m=>dB g R x fun v=>dB g R h fun a=>dB g R m fun b=>jC (J7 sz a b v) fun r=>fi r fun r=>K r none
 | .TH sz x lo hi=>dB g R x fun v=>jo g R (lo.toList++hi.toList) fun bs=>
  jC (sy H sz (match lo with|some _=>bs[0]?|none=>none) (match hi with|some _=>(match lo with|some _=>bs[1]?|none=>bs[0]?)|none=>none) v) fun r=>fi r fun r=>K r none
 | .QS sz x y=>dB g R x fun xv=>dB g R y fun yv=>match xv with
  | .sl b len=>sB g H sz yv fun xs=>fx H b fun e s d es=>du g (es.length=len∧s=sz)∧
   K (.sc (.int .i64 (Nat.min xs.length len:Nat))) (some (b, .row e s d (xs.take (Nat.min xs.length len)++es.drop (Nat.min xs.length len))))
  |_=>False
 | .call _ _=>False
 | .UJ kt=>K (.mp id) (some (id, .row kt 0 .any (mapA [])))
 | .SO str ag z ok x k=>dB g R x fun v=>dB g R k fun kv=>match kv with
  | .sc kv=>G8 H v fun _ _ _ es=>du g (j4 str kv=true)∧jD g (mD str kv es (gM ag z)) fun p=>match ok with
   |true=>K (.dP [p.1, .sc (.bool p.2)]) none
   |false=>fi p.1 fun v=>K v none
  |_=>False
 | .KU str x k y=>dB g R x fun v=>dB g R k fun kv=>dB g R y fun yv=>match kv with
  | .sc kv=>G8 H v fun b e d es=>du g (j4 str kv=true)∧jD g (oy str kv es yv) fun es'=>K .any (some (b, .row e 0 d (mapA es')))
  |_=>False
 | .CC x=>dB g R x fun v=>G8 H v fun _ _ _ es=>K (.sc (.int .i64 (es.length:Nat))) none
 | .del str x k=>dB g R x fun v=>dB g R k fun kv=>match kv with
  | .sc kv=>G8 H v fun b e d es=>du g (j4 str kv=true)∧jD g (YA str kv es) fun es'=>K (.dP []) (some (b, .row e 0 d (mapA es')))
  |_=>False
 | .HF sz v=>K (.agg (List.replicate sz (.sc v))) none
 | .xH e sz v=>K (.pt id 1 0 0) (some (id, .row e sz (.agg (List.replicate sz (.sc v))) [.agg (List.replicate sz (.sc v))]))
 | .YO t ok ag z x=>dB g R x fun v=>match v with
  | .l3 t' v=>(bif Nat.beq t' t then(match ok with
   |true=>K (.dP [v, .sc (.bool true)]) none
   |false=>fi v fun v=>K v none) else(match ok with
   |true=>K (.dP [gM ag z, .sc (.bool false)]) none
   |false=>False))
  |_=>False
end
theorem EL {f:Fr} {R:Raw}:∀{ps:List (Nat×Nat×eA)},(∀x∈ps.map (·.2.2),ev f x=(R x).2)→UA f ps=List.zipWith (fun p a=>(p.1,p.2.1,a)) ps ((ps.map (·.2.2)).map fun x=>(R x).2)
 |[],_=>rfl
 |(i,j,x)::ps,h=>by
  simp only[UA,List.map_cons,List.zipWith_cons_cons]
  rw[h x (by simp),EL fun y hy=>h y (by simp only[List.map_cons,List.mem_cons];exact .inr hy)]
theorem EN {f:Fr} {R:Raw}:∀{ps:List (Nat×eA)},(∀x∈ps.map (·.2),ev f x=(R x).2)→EM f ps=List.zipWith (fun p a=>(p.1,a)) ps ((ps.map (·.2)).map fun x=>(R x).2)
 |[],_=>rfl
 |(i,x)::ps,h=>by
  simp only[EM,List.map_cons,List.zipWith_cons_cons]
  rw[h x (by simp),EN fun y hy=>h y (by simp only[List.map_cons,List.mem_cons];exact .inr hy)]
theorem I0 {g:Option Bool} {ag:Bool} {k:Nat} {e:AV} {sz off:Nat} {K:AV→Prop} (h:ZT g ag k e sz off K):∃r,K r∧(Gd g→yF ag k e sz off=some r):=by
 unfold ZT at h
 cases ag with
 |true=>
  simp only at h
  cases e
  case agg cs=>
   simp only at h
   by_cases hb:off=0∧k=sz
   ·have hb':(Nat.beq off 0&&Nat.beq k sz)=true:=by
     obtain⟨rfl,rfl⟩:=hb;simp
    rw[hb'] at h
    exact⟨_,h,fun _=>by simp[yF,hb.1,hb.2]⟩
   ·have hb':(Nat.beq off 0&&Nat.beq k sz)=false:=by
     cases hc:(Nat.beq off 0&&Nat.beq k sz) with
     |false=>rfl
     |true=>
      rw[Bool.and_eq_true] at hc
      exact absurd ⟨Nat.eq_of_beq_eq_true hc.1,Nat.eq_of_beq_eq_true hc.2⟩ hb
    rw[hb'] at h
    simp only[cond_false] at h
    refine⟨_,h.2,fun hg=> ?_⟩
    have h1:=cW.1 h.1 hg
    simp only[yF,if_true]
    rw[if_neg hb,if_pos h1]
  all_goals exact h.elim
 |false=>
  have gen:∀e:AV,(bif one e then fi e K else False)→(yF false k e sz off=if one e then some e else none)→∃r,K r∧(Gd g→yF false k e sz off=some r):=by
   intro e h1 h2
   cases ho:one e with
   |true=>rw[ho,cond_true,ee] at h1;exact⟨_,h1,fun _=>by rw[h2,ho];rfl⟩
   |false=>rw[ho] at h1;exact h1.elim
  cases e
  case agg cs=>
   simp only at h
   have:=h.ok
   rw[ee] at this
   exact⟨_,this,fun _=>by simp[yF]⟩
  case any=>exact⟨_,h,fun _=>by simp[yF]⟩
  all_goals exact gen _ h rfl
theorem zV {g:Option Bool} {H:Hp} {v:AV} {K:Nat→AV→Nat→Prop} (h:lookW g H v K):∃sz e off,K sz e off∧(Gd g→j6 H v=some (sz,e,off)):=by
 unfold lookW at h
 split at h
 ·exact⟨_,_,_,h.ok,fun _=>rfl⟩
 ·obtain⟨e,sz,d,es,h1,h2,h3⟩:=h.ok
  refine⟨_,_,_,h3.ok,fun hg=> ?_⟩
  simp only[j6,h1]
  rw[if_pos (cW.1 h2 hg)]
 ·exact h.elim
theorem kx {g:Option Bool} {H:Hp} {k:Nat} {v:AV} {K:List AV→Prop} (h:sB g H k v K):∃es,K es∧(Gd g→gW H v=some es∧AE H k v=true):=by
 unfold sB at h
 split at h
 ·rename_i sz d es
  cases hb:Nat.beq sz k with
  |true=>rw[hb] at h;exact⟨_,h,fun _=>⟨rfl,by simpa[AE] using hb⟩⟩
  |false=>rw[hb] at h;exact h.elim
 ·obtain⟨e,sz,d,es,h1,h2,h3⟩:=h.ok
  refine⟨_,h3,fun hg=> ?_⟩
  obtain⟨g1,g2⟩:=cW.1 h2 hg
  simp[gW,AE,h1,g1,g2]
 ·exact⟨_,h,fun _=>⟨rfl,rfl⟩⟩
 ·exact⟨_,h,fun _=>⟨rfl,rfl⟩⟩
 ·obtain⟨e,sz,d,es,h1,h2,h3⟩:=h.ok
  refine⟨_,h3,fun hg=> ?_⟩
  obtain⟨g1,g2⟩:=cW.1 h2 hg
  simp[gW,AE,h1,g1,g2]
 ·exact h.elim
set_option maxHeartbeats 4000000 in
theorem je {g:Option Bool} {H:Hp} {R:Raw} {id:Nat} {op:dL} {K:AV→Option (Nat×eT)→Prop} (h:pQ g H R id op K):
 ∃r u,K r u∧(Gd g→(op.rd=true→∀x∈op.eD,JS R x)∧∀f,(∀x,JS R x→ev f x=(R x).2)→cB id f H op=some (r,u)):=by
 cases op
 case mv x=>
  obtain⟨h1,h2⟩:=cL h
  rw[ee] at h2
  exact⟨_,_,h2,fun hg=>⟨fun hr=>by simp[dL.rd] at hr,fun f hf=>by simp only[cB,hf x (h1 hg)]⟩⟩
 case pick c a b=>
  obtain⟨h1,h2⟩:=cL h
  split at h2
  ·rename_i t ht
   simp only[ee] at h2
   have key:∀{q:Option Bool} {p:Prop} {A:Prop},(match q with|none=>A|some q=>du g (p→q=true)∧A)→A∧(Gd g→p→∀q',q=some q'→q'=true):=by
    intro q p A h
    cases q with
    |none=>exact⟨h,fun _ _ _ hq=>by cases hq⟩
    |some q=>exact⟨h.2,fun hg hp q' hq=>by cases hq;exact cW.1 h.1 hg hp⟩
   obtain⟨h3,ha⟩:=key h2
   obtain⟨h4,hb⟩:=key h3
   refine⟨_,_,h4,fun hg=>⟨fun hr=>by simp[dL.rd] at hr,fun f hf=> ?_⟩⟩
   simp only[cB,hf c (h1 hg),ht]
   congr 2
   cases t with
   |true=>rw[sk,sk,hf a (ha hg rfl)]
   |false=>rw[qf,qf,hf b (hb hg rfl)]
  ·exact h2.elim
 case alloc e sz ag z=>
  refine⟨_,_,h.2,fun hg=>⟨fun hr=>by simp[dL.rd] at hr,fun f hf=> ?_⟩⟩
  simp only[cB];rw[if_pos (cW.1 h.1 hg)]
 case box e sz ag x=>
  obtain⟨h1,h2⟩:=cL h
  refine⟨_,_,h2.2,fun hg=>⟨fun hr=>by simp[dL.rd] at hr,fun f hf=> ?_⟩⟩
  simp only[cB,hf x (h1 hg)];rw[if_pos (cW.1 h2.1 hg)]
 case W0 z ps=>
  obtain⟨h1,h2⟩:=fE h
  obtain⟨cs,h3,h4⟩:=h2.ok
  refine⟨_,_,h4,fun hg=>⟨fun hr=>by simp[dL.rd] at hr,fun f hf=> ?_⟩⟩
  simp only[cB]
  rw[EL (R:=R) fun x hx=>hf x (h1 hg x hx),h3]
 case T6 e sz ag z n ps=>
  obtain⟨h1,h2⟩:=fE h
  refine⟨_,_,h2.2,fun hg=>⟨fun hr=>by simp[dL.rd] at hr,fun f hf=> ?_⟩⟩
  have h3:=cW.1 h2.1 hg
  simp only[cB]
  rw[EN (R:=R) fun x hx=>hf x (h1 hg x hx),if_pos h3]
 case ld ag k x=>
  obtain⟨h1,h2⟩:=cL h
  obtain⟨sz,e,off,h3,h4⟩:=zV h2
  obtain⟨r,h5,h6⟩:=I0 h3
  refine⟨_,_,h5,fun hg=>⟨fun _ y hy=>by simp[dL.eD] at hy;subst hy;exact h1 hg,fun f hf=> ?_⟩⟩
  simp only[cB,hf x (h1 hg),h4 hg,h6 hg,Option.map_some]
 case st ag k x y=>
  obtain⟨h1,h2⟩:=cL h
  obtain⟨h3,h4⟩:=cL h2
  split at h4
  ·rename_i b len i off hx
   obtain⟨e,sz,d,es,g1,g2,g3⟩:=h4.ok
   obtain⟨e',g4,g5⟩:=g3.ok.ok
   refine⟨_,_,g5,fun hg=>⟨fun _ z hz=>by simp[dL.eD] at hz;rcases hz with rfl|rfl;exact h1 hg;exact h3 hg,fun f hf=> ?_⟩⟩
   simp only[cB,hf x (h1 hg),hf y (h3 hg),hx,g1,g4]
   rw[if_pos (cW.1 g2 hg)]
  ·exact h4.elim
 case V2 x=>
  obtain⟨h1,h2⟩:=cL h
  split at h2
  all_goals first
   |exact h2.elim
   |(rename_i hx;exact⟨_,_,h2,fun hg=>⟨fun hr=>by simp[dL.rd] at hr,fun f hf=>by simp only[cB,hf x (h1 hg),hx]⟩⟩)
 case bin op x y=>
  obtain⟨h1,h2⟩:=cL h
  obtain⟨h3,h4⟩:=cL h2
  split at h4
  all_goals first
   |exact h4.elim
   |(rename_i hx hy;obtain⟨q1,q2⟩:=h4;obtain⟨m,q3,q4⟩:=q2.ok;refine⟨_,_,q4,fun hg=>⟨fun hr=>by simp[dL.rd] at hr,fun f hf=> ?_⟩⟩;simp only[cB,hf x (h1 hg),hf y (h3 hg),hx,hy,HE];rw[if_pos (cW.1 q1 hg),q3 hg];rfl)
   |(rename_i hx hy;refine⟨_,_,h4.2,fun hg=>⟨fun hr=>by simp[dL.rd] at hr,fun f hf=> ?_⟩⟩;simp only[cB,hf x (h1 hg),hf y (h3 hg),hx,hy,HE];rw[if_pos (cW.1 h4.1 hg)];rfl)
 case W2 neg x y=>
  obtain⟨h1,h2⟩:=cL h
  obtain⟨h3,h4⟩:=cL h2
  split at h4
  ·rename_i p q hx hy
   cases neg
   all_goals exact⟨_,_,h4,fun hg=>⟨fun hr=>by simp[dL.rd] at hr,fun f hf=>by simp[cB,hf x (h1 hg),hf y (h3 hg),hx,hy]⟩⟩
  ·exact h4.elim
 case uQ neg x y=>
  obtain⟨h1,h2⟩:=cL h
  obtain⟨h3,h4⟩:=cL h2
  split at h4
  ·rename_i p q hx hy
   cases neg
   all_goals exact⟨_,_,h4,fun hg=>⟨fun hr=>by simp[dL.rd] at hr,fun f hf=>by simp[cB,hf x (h1 hg),hf y (h3 hg),hx,hy]⟩⟩
  ·exact h4.elim
 case HG op x y=>
  obtain⟨h1,h2⟩:=cL h
  obtain⟨h3,h4⟩:=cL h2
  split at h4
  ·rename_i p q hx hy
   cases op
   case add=>exact⟨_,_,h4.2,fun hg=>⟨fun hr=>by simp[dL.rd] at hr,fun f hf=>by simp only[cB,hf x (h1 hg),hf y (h3 hg),hx,hy,PN];rw[if_pos (cW.1 h4.1 hg)];rfl⟩⟩
   case lss=>exact⟨_,_,h4,fun hg=>⟨fun hr=>by simp[dL.rd] at hr,fun f hf=>by simp only[cB,hf x (h1 hg),hf y (h3 hg),hx,hy,PN];rfl⟩⟩
   all_goals exact h4.elim
  ·exact h4.elim
 case QO sz ag z x=>
  obtain⟨h1,h2⟩:=cL h
  split at h2
  ·rename_i b len lo n hx
   obtain⟨e,s,d,es,q1,q2,q3⟩:=h2.ok
   exact⟨_,_,q3,fun hg=>⟨fun hr y hy=>by simp[dL.eD] at hy;subst hy;exact h1 hg,fun f hf=>by
    simp only[cB,hf x (h1 hg),hx,q1];rw[if_pos (cW.1 q2 hg)]⟩⟩
  ·exact h2.elim
 case U5 x=>
  obtain⟨h1,h2⟩:=cL h
  obtain⟨xs,h3,h4⟩:=kx h2
  obtain⟨ns,h5,h6⟩:=h3.ok
  exact⟨_,_,h6,fun hg=>⟨fun hr y hy=>by simp[dL.eD] at hy;subst hy;exact h1 hg,fun f hf=>by
   obtain⟨q1,q2⟩:=h4 hg
   simp only[cB,hf x (h1 hg),q1,q2,if_true,h5 hg,Option.map_some]⟩⟩
 case un op x=>
  obtain⟨h1,h2⟩:=cL h
  split at h2
  all_goals first
   |exact h2.elim
   |(rename_i hx;obtain⟨m,q3,q4⟩:=h2.ok;exact⟨_,_,q4,fun hg=>⟨fun hr=>by simp[dL.rd] at hr,fun f hf=>by simp only[cB,hf x (h1 hg),hx,YQ,Option.map_some,q3 hg]⟩⟩)
   |(rename_i hx;exact⟨_,_,h2,fun hg=>⟨fun hr=>by simp[dL.rd] at hr,fun f hf=>by simp only[cB,hf x (h1 hg),hx,YQ,Option.map_some]⟩⟩)
 case XP k x=>
  obtain⟨h1,h2⟩:=cL h
  split at h2
  all_goals first
   |exact h2.elim
   |(rename_i hx;obtain⟨m,q3,q4⟩:=h2.ok;exact⟨_,_,q4,fun hg=>⟨fun hr=>by simp[dL.rd] at hr,fun f hf=>by simp only[cB,hf x (h1 hg),hx,q3 hg]⟩⟩)
 case fa off x=>
  obtain⟨h1,h2⟩:=cL h
  have hr:Gd g→((dL.fa off x).rd=true→∀y∈(dL.fa off x).eD,JS R y):=fun hg _ y hy=>by simp[dL.eD] at hy;subst hy;exact h1 hg
  split at h2
  ·rename_i hx
   refine⟨_,_,h2.2,fun hg=>⟨hr hg,fun f hf=> ?_⟩⟩
   simp only[cB,hf x (h1 hg),hx];rw[if_pos (cW.1 h2.1 hg)]
  ·rename_i hx
   obtain⟨e,sz,d,es,g1,g2,g3⟩:=h2.ok
   refine⟨_,_,g3,fun hg=>⟨hr hg,fun f hf=> ?_⟩⟩
   simp only[cB,hf x (h1 hg),hx,g1];rw[if_pos (cW.1 g2 hg)]
  ·exact h2.elim
 case ia k n x i=>
  obtain⟨h1,h2⟩:=cL h
  obtain⟨h3,h4⟩:=cL h2
  have hr:Gd g→((dL.ia k n x i).rd=true→∀y∈(dL.ia k n x i).eD,JS R y):=fun hg _ y hy=>by simp[dL.eD] at hy;rcases hy with rfl|rfl;exact h1 hg;exact h3 hg
  split at h4
  ·rename_i kk j hi
   cases n with
   |none=>
    simp only at h4
    split at h4
    ·rename_i hx
     refine⟨_,_,h4.2.2,fun hg=>⟨hr hg,fun f hf=> ?_⟩⟩
     simp only[cB,hf x (h1 hg),hf i (h3 hg),hx,hi,KT]
     rw[if_pos ⟨cW.1 h4.1 hg,cW.1 h4.2.1 hg⟩];rfl
    ·rename_i hx
     obtain⟨e,sz,d,es,g1,g2,g3,g4⟩:=h4.ok
     refine⟨_,_,g4,fun hg=>⟨hr hg,fun f hf=> ?_⟩⟩
     obtain⟨q1,q2⟩:=cW.1 g2 hg
     simp only[cB,hf x (h1 hg),hf i (h3 hg),hx,hi,KT,g1]
     rw[if_pos ⟨q1,q2,cW.1 g3 hg⟩];rfl
    ·rename_i hx
     obtain⟨e,sz,d,es,g1,g2,g3,g4⟩:=h4.ok
     refine⟨_,_,g4,fun hg=>⟨hr hg,fun f hf=> ?_⟩⟩
     obtain⟨q1,q2⟩:=cW.1 g2 hg
     simp only[cB,hf x (h1 hg),hf i (h3 hg),hx,hi,KT,g1]
     rw[if_pos ⟨q1,q2,cW.1 g3 hg⟩];rfl
    ·exact h4.elim
   |some m=>
    simp only at h4
    split at h4
    ·rename_i hx
     refine⟨_,_,h4.2.2,fun hg=>⟨hr hg,fun f hf=> ?_⟩⟩
     simp only[cB,hf x (h1 hg),hf i (h3 hg),hx,hi,KT]
     rw[if_pos ⟨cW.1 h4.1 hg,cW.1 h4.2.1 hg⟩];rfl
    ·rename_i hx
     obtain⟨e,sz,d,es,g1,g2,g3,g4⟩:=h4.ok
     refine⟨_,_,g4,fun hg=>⟨hr hg,fun f hf=> ?_⟩⟩
     obtain⟨q1,q2⟩:=cW.1 g2 hg
     simp only[cB,hf x (h1 hg),hf i (h3 hg),hx,hi,KT,g1]
     rw[if_pos ⟨q1,q2,cW.1 g3 hg⟩];rfl
    ·exact h4.elim
  ·exact h4.elim
 case XW off k ag x=>
  obtain⟨h1,h2⟩:=cL h
  split at h2
  ·rename_i cs hx
   cases ag with
   |true=>
    refine⟨_,_,h2.2,fun hg=>⟨fun hr=>by simp[dL.rd] at hr,fun f hf=> ?_⟩⟩
    simp only[cB,hf x (h1 hg),hx,if_true];rw[if_pos (cW.1 h2.1 hg)]
   |false=>
    have h3:=h2.2.ok
    rw[ee] at h3
    refine⟨_,_,h3,fun hg=>⟨fun hr=>by simp[dL.rd] at hr,fun f hf=> ?_⟩⟩
    obtain⟨q1,q2⟩:=cW.1 h2.1 hg
    simp only[cB,hf x (h1 hg),hx,Bool.false_eq_true,if_false];rw[if_pos q1,if_pos q2]
  ·exact h2.elim
 case ix k ag n x i=>
  obtain⟨h1,h2⟩:=cL h
  obtain⟨h3,h4⟩:=cL h2
  split at h4
  ·rename_i cs kk j hx hi
   obtain⟨p1,p2,p3⟩:=h4
   cases ag with
   |true=>
    refine⟨_,_,p3,fun hg=>⟨fun hr=>by simp[dL.rd] at hr,fun f hf=> ?_⟩⟩
    have q2:=cW.1 p2 hg
    simp only[cB,hf x (h1 hg),hf i (h3 hg),hx,hi,if_true];rw[if_pos ⟨q2.1,q2.2,cW.1 p1 hg⟩]
   |false=>
    have h5:=p3.2.ok
    rw[ee] at h5
    refine⟨_,_,h5,fun hg=>⟨fun hr=>by simp[dL.rd] at hr,fun f hf=> ?_⟩⟩
    have q2:=cW.1 p2 hg
    simp only[cB,hf x (h1 hg),hf i (h3 hg),hx,hi,Bool.false_eq_true,if_false];rw[if_pos ⟨q2.1,q2.2,cW.1 p1 hg⟩,if_pos (cW.1 p3.1 hg)]
  ·exact h4.elim
 case X4 x i=>
  obtain⟨h1,h2⟩:=cL h
  obtain⟨h3,h4⟩:=cL h2
  split at h4
  ·rename_i hx hi
   refine⟨_,_,h4.2,fun hg=>⟨fun hr=>by simp[dL.rd] at hr,fun f hf=> ?_⟩⟩
   simp only[cB,hf x (h1 hg),hf i (h3 hg),hx,hi];rw[if_pos (cW.1 h4.1 hg)]
  ·exact h4.elim
 case lens x=>
  obtain⟨h1,h2⟩:=cL h
  split at h2
  all_goals first
   |exact h2.elim
   |(rename_i hx;exact⟨_,_,h2,fun hg=>⟨fun hr=>by simp[dL.rd] at hr,fun f hf=>by simp only[cB,hf x (h1 hg),hx]⟩⟩)
 case V0 e sz bytes ag z l c=>
  obtain⟨h1,h2⟩:=cL h
  obtain⟨h3,h4⟩:=cL h2
  split at h4
  ·rename_i hx hi
   refine⟨_,_,h4.2.2,fun hg=>⟨fun hr=>by simp[dL.rd] at hr,fun f hf=> ?_⟩⟩
   obtain⟨q1,q2⟩:=cW.1 h4.1 hg
   obtain⟨q3,q4,q5⟩:=cW.1 h4.2.1 hg
   simp only[cB,hf l (h1 hg),hf c (h3 hg),hx,hi];rw[if_pos ⟨q1,q3,q2,q4,q5⟩]
  ·exact h4.elim
 case ext i x=>
  obtain⟨h1,h2⟩:=cL h
  split at h2
  ·rename_i hx
   have h3:=h2.2.ok
   rw[ee] at h3
   refine⟨_,_,h3,fun hg=>⟨fun hr=>by simp[dL.rd] at hr,fun f hf=> ?_⟩⟩
   simp only[cB,hf x (h1 hg),hx];rw[if_pos (cW.1 h2.1 hg)]
  ·exact h2.elim
 case W6 fn first caps=>
  obtain⟨h1,h2⟩:=fE h
  obtain⟨h3,h4⟩:=fE h2
  refine⟨_,_,h4,fun hg=>⟨fun hr=>by simp[dL.rd] at hr,fun f hf=> ?_⟩⟩
  simp only[cB]
  rw[kz (R:=R) fun x hx=>hf x (h1 hg x hx),kz (R:=R) fun x hx=>hf x (h3 hg x hx)]
 case YB t x=>
  obtain⟨h1,h2⟩:=cL h
  exact⟨_,_,h2,fun hg=>⟨fun hr=>by simp[dL.rd] at hr,fun f hf=>by simp only[cB,hf x (h1 hg)]⟩⟩
 case len x=>
  obtain⟨h1,h2⟩:=cL h
  have hr:Gd g→((dL.len x).rd=true→∀y∈(dL.len x).eD,JS R y):=fun hg _ y hy=>by simp[dL.eD] at hy;subst hy;exact h1 hg
  split at h2
  ·rename_i hx;exact⟨_,_,h2,fun hg=>⟨hr hg,fun f hf=>by simp only[cB,hf x (h1 hg),hx,sW]⟩⟩
  ·rename_i hx
   obtain⟨e,sz,d,es,g1,g2,g3⟩:=h2.ok
   refine⟨_,_,g3,fun hg=>⟨hr hg,fun f hf=> ?_⟩⟩
   simp only[cB,hf x (h1 hg),hx,sW,g1];rw[if_pos (cW.1 g2 hg)]
  ·rename_i hx;exact⟨_,_,h2,fun hg=>⟨hr hg,fun f hf=>by simp[cB,hf x (h1 hg),hx,sW]⟩⟩
  ·rename_i hx;exact⟨_,_,h2,fun hg=>⟨hr hg,fun f hf=>by simp[cB,hf x (h1 hg),hx,sW]⟩⟩
  ·rename_i hx;exact⟨_,_,h2,fun hg=>⟨hr hg,fun f hf=>by simp only[cB,hf x (h1 hg),hx,sW]⟩⟩
  ·exact h2.elim
 case app e sz bytes ag z s x=>
  obtain⟨h1,h2⟩:=cL h
  obtain⟨h3,h4⟩:=cL h2
  obtain⟨xs,⟨h5,h5'⟩,h6⟩:=kx h4
  have hr:Gd g→((dL.app e sz bytes ag z s x).rd=true→∀y∈(dL.app e sz bytes ag z s x).eD,JS R y):=fun hg _ y hy=>by simp[dL.eD] at hy;rcases hy with rfl|rfl;exact h1 hg;exact h3 hg
  split at h5'
  ·rename_i hx
   refine⟨_,_,h5'.2,fun hg=>⟨hr hg,fun f hf=> ?_⟩⟩
   obtain⟨q1,q2⟩:=h6 hg
   simp only[cB,hf s (h1 hg),hf x (h3 hg),hx,q1];rw[if_pos ⟨q2,cW.1 h5 hg⟩,if_pos (cW.1 h5'.1 hg)]
  ·rename_i hx
   obtain⟨e',sz',d,es,g1,g2,g3,g4⟩:=h5'.ok
   refine⟨_,_,g4,fun hg=>⟨hr hg,fun f hf=> ?_⟩⟩
   obtain⟨q1,q2⟩:=h6 hg
   obtain⟨q3,q4,q5⟩:=cW.1 g2 hg
   simp only[cB,hf s (h1 hg),hf x (h3 hg),hx,q1,g1];rw[if_pos ⟨q2,cW.1 h5 hg⟩,if_pos ⟨q3,q4,q5,cW.1 g3 hg⟩]
  ·exact h5'.elim
 case LB e bytes z s x=>
  obtain⟨h1,h2⟩:=cL h
  obtain⟨h3,h4⟩:=cL h2
  have hr:Gd g→((dL.LB e bytes z s x).rd=true→∀y∈(dL.LB e bytes z s x).eD,JS R y):=fun hg _ y hy=>by simp[dL.eD] at hy;rcases hy with rfl|rfl;exact h1 hg;exact h3 hg
  split at h4
  ·rename_i q hq
   split at h4
   ·rename_i hx
    refine⟨_,_,h4.2,fun hg=>⟨hr hg,fun f hf=> ?_⟩⟩
    simp only[cB,hf s (h1 hg),hf x (h3 hg),hx,hq];rw[if_pos (cW.1 h4.1 hg)]
   ·rename_i hx
    obtain⟨e',sz',d,es,g1,g2,g3,g4⟩:=h4.ok
    refine⟨_,_,g4,fun hg=>⟨hr hg,fun f hf=> ?_⟩⟩
    obtain⟨q3,q4,q5⟩:=cW.1 g2 hg
    simp only[cB,hf s (h1 hg),hf x (h3 hg),hx,hq,g1];rw[if_pos ⟨q3,q4,q5,cW.1 g3 hg⟩]
   ·exact h4.elim
  ·exact h4.elim
 case JO neg x=>
  obtain⟨h1,h2⟩:=cL h
  split at h2
  all_goals first
   |exact h2.elim
   |(rename_i hx;exact⟨_,_,h2,fun hg=>⟨fun hr=>by simp[dL.rd] at hr,fun f hf=>by simp only[cB,hf x (h1 hg),hx]⟩⟩)
 case ze neg x=>
  obtain⟨h1,h2⟩:=cL h
  obtain⟨t,h3,h4⟩:=h2.ok
  rw[ee] at h4
  refine⟨_,_,h4,fun hg=>⟨fun _ y hy=>by simp[dL.eD] at hy;subst hy;exact h1 hg,fun f hf=> ?_⟩⟩
  simp only[cB,hf x (h1 hg),h3]
 case eqs neg ks x y=>
  obtain⟨h1,h2⟩:=cL h
  obtain⟨h3,h4⟩:=cL h2
  split at h4
  ·rename_i hx hy
   obtain⟨t,g1,g2⟩:=h4.ok
   cases neg
   all_goals exact⟨_,_,g2,fun hg=>⟨fun hr=>by simp[dL.rd] at hr,fun f hf=>by simp[cB,hf x (h1 hg),hf y (h3 hg),hx,hy,g1]⟩⟩
  ·exact h4.elim
 case TH sz x lo hi=>
  obtain⟨h1,h2⟩:=cL h
  obtain⟨h3,h4⟩:=fE h2
  obtain⟨r,g1,g2⟩:=h4.ok
  rw[ee] at g2
  refine⟨_,_,g2,fun hg=>⟨fun _ y hy=> ?_,fun f hf=> ?_⟩⟩
  ·simp only[dL.eD,List.mem_append,List.mem_singleton] at hy
   rcases hy with(rfl|hy)|hy
   ·exact h1 hg
   ·exact h3 hg y (by simp only[List.mem_append];exact .inl hy)
   ·exact h3 hg y (by simp only[List.mem_append];exact .inr hy)
  ·simp only[cB,hf x (h1 hg)]
   have e1:∀y∈lo.toList++hi.toList,ev f y=(R y).2:=fun y hy=>hf y (h3 hg y hy)
   cases lo<;>cases hi<;>simp_all
 case VS n x i=>
  obtain⟨h1,h2⟩:=cL h
  obtain⟨h3,h4⟩:=cL h2
  split at h4
  ·rename_i b len kk j hx hi
   obtain⟨e,sz,d,es,g1,g2,g3,g4⟩:=h4.ok
   refine⟨_,_,g4,fun hg=>⟨fun _ y hy=>by simp[dL.eD] at hy;rcases hy with rfl|rfl;exact h1 hg;exact h3 hg,fun f hf=> ?_⟩⟩
   obtain⟨q1,q2,q3⟩:=cW.1 g2 hg
   obtain⟨q4,q5⟩:=cW.1 g3 hg
   simp only[cB,hf x (h1 hg),hf i (h3 hg),hx,hi,B5,g1]
   rw[if_pos ⟨q1,q2,q3,q4,q5⟩];rfl
  ·exact h4.elim
 case WB n x i=>
  obtain⟨h1,h2⟩:=cL h
  obtain⟨h3,h4⟩:=cL h2
  split at h4
  ·rename_i b len kk j hx hi
   obtain⟨e,sz,d,es,g1,g2,g3,g4⟩:=h4.ok
   refine⟨_,_,g4,fun hg=>⟨fun _ y hy=>by simp[dL.eD] at hy;rcases hy with rfl|rfl;exact h1 hg;exact h3 hg,fun f hf=> ?_⟩⟩
   obtain⟨q1,q2,q3⟩:=cW.1 g2 hg
   obtain⟨q4,q5⟩:=cW.1 g3 hg
   simp only[cB,hf x (h1 hg),hf i (h3 hg),hx,hi,DJ,g1]
   rw[if_pos ⟨q1,q2,q3,q4,q5⟩];rfl
  ·exact h4.elim
 case bad=>exact h.elim
 case T4 e n=>exact⟨_,_,h,fun hg=>⟨fun hr=>by simp[dL.rd] at hr,fun f hf=>rfl⟩⟩
 case W8 sz x a b=>
  obtain⟨h1,h2⟩:=cL h
  obtain⟨h3,h4⟩:=cL h2
  obtain⟨h5,h6⟩:=cL h4
  obtain⟨r,g1,g2⟩:=h6.ok
  rw[ee] at g2
  refine⟨_,_,g2,fun hg=>⟨fun _ y hy=> ?_,fun f hf=> ?_⟩⟩
  ·simp only[dL.eD,List.mem_cons,List.not_mem_nil,or_false] at hy
   rcases hy with rfl|rfl|rfl
   ·exact h1 hg
   ·exact h3 hg
   ·exact h5 hg
  ·simp only[cB,hf x (h1 hg),hf a (h3 hg),hf b (h5 hg),g1]
   rfl
 case QS sz x y=>
  obtain⟨h1,h2⟩:=cL h
  obtain⟨h3,h4⟩:=cL h2
  split at h4
  ·rename_i b len hx
   obtain⟨xs,h5,h6⟩:=kx h4
   obtain⟨e,s,d,es,g1,g2,g3⟩:=h5.ok
   refine⟨_,_,g3,fun hg=>⟨fun _ z hz=>by simp[dL.eD] at hz;rcases hz with rfl|rfl;exact h1 hg;exact h3 hg,fun f hf=> ?_⟩⟩
   obtain⟨q1,q2⟩:=h6 hg
   obtain⟨q3,q4⟩:=cW.1 g2 hg
   simp only[cB,hf x (h1 hg),hf y (h3 hg),hx,q1,g1];rw[if_pos ⟨q3,q4,q2⟩]
  ·exact h4.elim
 case call f as=>exact h.elim
 case UJ kt=>exact⟨_,_,h,fun hg=>⟨fun hr=>by simp[dL.rd] at hr,fun f hf=>rfl⟩⟩
 case HF sz v=>exact⟨_,_,h,fun hg=>⟨fun hr=>by simp[dL.rd] at hr,fun f hf=>rfl⟩⟩
 case xH e sz v=>exact⟨_,_,h,fun hg=>⟨fun hr=>by simp[dL.rd] at hr,fun f hf=>rfl⟩⟩
 case CC x=>
  obtain⟨h1,h2⟩:=cL h
  obtain⟨b,e,d,es,h3,h4⟩:=kb h2
  exact⟨_,_,h4,fun hg=>⟨fun _ y hy=>by simp[dL.eD] at hy;subst hy;exact h1 hg,fun f hf=>by simp only[cB,hf x (h1 hg),h3]⟩⟩
 case SO str ag z ok x k=>
  obtain⟨h1,h2⟩:=cL h
  obtain⟨h3,h4⟩:=cL h2
  have hr:Gd g→((dL.SO str ag z ok x k).rd=true→∀y∈(dL.SO str ag z ok x k).eD,JS R y):=fun hg _ y hy=>by simp[dL.eD] at hy;rcases hy with rfl|rfl;exact h1 hg;exact h3 hg
  split at h4
  ·rename_i kv hk
   obtain⟨b,e,d,es,h5,h6,h7⟩:=kb h4
   obtain⟨p,h8,h9⟩:=h7.ok
   cases ok with
   |true=>
    refine⟨_,_,h9,fun hg=>⟨hr hg,fun f hf=> ?_⟩⟩
    have h10:=h8 hg
    unfold mD at h10
    simp only[cB,hf x (h1 hg),hf k (h3 hg),h5,hk]
    rw[if_pos (cW.1 h6 hg)]
    split at h10<;>simp only[Option.some.injEq,reduceCtorEq] at h10
    ·subst h10;simp_all
    ·subst h10;simp_all
   |false=>
    simp only[ee] at h9
    refine⟨_,_,h9,fun hg=>⟨hr hg,fun f hf=> ?_⟩⟩
    have h10:=h8 hg
    unfold mD at h10
    simp only[cB,hf x (h1 hg),hf k (h3 hg),h5,hk]
    rw[if_pos (cW.1 h6 hg)]
    split at h10<;>simp only[Option.some.injEq,reduceCtorEq] at h10
    ·subst h10;simp_all
    ·subst h10;simp_all
  ·exact h4.elim
 case KU str x k y=>
  obtain⟨h1,h2⟩:=cL h
  obtain⟨h3,h4⟩:=cL h2
  obtain⟨h3',h4'⟩:=cL h4
  have hr:Gd g→((dL.KU str x k y).rd=true→∀w∈(dL.KU str x k y).eD,JS R w):=fun hg _ w hy=>by simp[dL.eD] at hy;rcases hy with rfl|rfl|rfl;exact h1 hg;exact h3 hg;exact h3' hg
  split at h4'
  ·rename_i kv hk
   obtain⟨b,e,d,es,h5,h6,h7⟩:=kb h4'
   obtain⟨p,h8,h9⟩:=h7.ok
   refine⟨_,_,h9,fun hg=>⟨hr hg,fun f hf=> ?_⟩⟩
   have h10:=h8 hg
   unfold oy at h10
   simp only[cB,hf x (h1 hg),hf k (h3 hg),hf y (h3' hg),h5,hk]
   rw[if_pos (cW.1 h6 hg)]
   split at h10<;>simp only[Option.some.injEq,reduceCtorEq] at h10
   ·subst h10;simp_all[nD]
   ·subst h10;simp_all[nD]
  ·exact h4'.elim
 case del str x k=>
  obtain⟨h1,h2⟩:=cL h
  obtain⟨h3,h4⟩:=cL h2
  have hr:Gd g→((dL.del str x k).rd=true→∀y∈(dL.del str x k).eD,JS R y):=fun hg _ y hy=>by simp[dL.eD] at hy;rcases hy with rfl|rfl;exact h1 hg;exact h3 hg
  split at h4
  ·rename_i kv hk
   obtain⟨b,e,d,es,h5,h6,h7⟩:=kb h4
   obtain⟨p,h8,h9⟩:=h7.ok
   refine⟨_,_,h9,fun hg=>⟨hr hg,fun f hf=> ?_⟩⟩
   have h10:=h8 hg
   unfold YA at h10
   simp only[cB,hf x (h1 hg),hf k (h3 hg),h5,hk]
   rw[if_pos (cW.1 h6 hg)]
   split at h10<;>simp only[Option.some.injEq,reduceCtorEq] at h10
   ·subst h10;simp_all
   ·subst h10;simp_all
  ·exact h4.elim
 case YO t ok ag z x=>
  obtain⟨h1,h2⟩:=cL h
  split at h2
  ·rename_i t' v hx
   cases hb:Nat.beq t' t with
   |true=>
    rw[hb] at h2
    have e:=Nat.eq_of_beq_eq_true hb
    cases ok with
    |true=>
     simp only[cond_true] at h2
     exact⟨_,_,h2,fun hg=>⟨fun hr=>by simp[dL.rd] at hr,fun f hf=>by simp only[cB,hf x (h1 hg),hx];rw[if_pos e];rfl⟩⟩
    |false=>
     simp only[cond_true,ee] at h2
     exact⟨_,_,h2,fun hg=>⟨fun hr=>by simp[dL.rd] at hr,fun f hf=>by simp only[cB,hf x (h1 hg),hx];rw[if_pos e];rfl⟩⟩
   |false=>
    rw[hb] at h2
    have e:¬t'=t:=fun e=>by rw[e] at hb;simp at hb
    cases ok with
    |true=>
     simp only[cond_false] at h2
     exact⟨_,_,h2,fun hg=>⟨fun hr=>by simp[dL.rd] at hr,fun f hf=>by simp only[cB,hf x (h1 hg),hx];rw[if_neg e];rfl⟩⟩
    |false=>exact h2.elim
  ·exact h2.elim
end Go.cY
/- Code as a whole, run by reduction alone; it is so. -/
namespace Go.cY
open Go.RowKit
structure fI (t:Bool) (A B:Prop):Prop where
 ok:(t=true→A)∧(t=false→B)
theorem fI.lt {A B:Prop} (h:A):fI true A B:=⟨⟨fun _=>h,fun h=>(by cases h)⟩⟩
theorem fI.lf {A B:Prop} (h:B):fI false A B:=⟨⟨fun h=>(by cases h),fun _=>h⟩⟩
theorem fI.of {t:Bool} {A B:Prop} (h1:t=true→A) (h2:t=false→B):fI t A B:=⟨⟨h1,h2⟩⟩
structure eQ (t want:Bool) (A B J:Prop):Prop where
 ok:((t=want→A)∧(t≠want→B))∨J
theorem eQ.tt {A B J:Prop} (h:A):eQ true true A B J:=⟨.inl ⟨fun _=>h,fun h=>absurd rfl h⟩⟩
theorem eQ.join {t want:Bool} {A B J:Prop} (h:J):eQ t want A B J:=⟨.inr h⟩
theorem eQ.split {t want:Bool} {A B J:Prop} (h1:t=want→A) (h2:t= !want→B):eQ t want A B J:=⟨.inl ⟨h1,fun h=>h2 (by cases t<;>cases want<;>simp_all)⟩⟩
structure iF (P:Program) (f:FuncId) (args:List AV) (H:Hp) (nx:Nat) (K:AV→Hp→Nat→Prop):Prop where
 ok:cJ P f args H nx K
structure nF (P:Program) (g:Bool) (f:FuncId) (args:List AV) (H:Hp) (nx:Nat) (K:AV→Prop):Prop where
 ok:∃r,(g=true→∀(K':AV→Hp→Nat→Prop),K' r H (nx+1)→cJ P f args H nx K')∧K r
structure lM (P:Program) (id:Nat) (f:FuncId) (args:List AV) (H:Hp) (K:AV→Option (Nat×eT)→List Nat→Prop):Prop where
 ok:∃r u S,nG P id (.fn (.func f) [] []) args H r u S∧K r u S
structure XD (P:Program) (t:TypeId) (v:AV) (nm:String) (args:List AV) (H:Hp) (nx:Nat) (K:AV→Hp→Nat→Prop):Prop where
 ok:tq P t v nm args H nx K
structure tm (P:Program) (g:Bool) (id:Nat) (f:FuncId) (args:List AV) (H:Hp) (K:AV→List Nat→Prop):Prop where
 ok:∃r S,(g=true→nG P id (.fn (.func f) [] []) args H r none S)∧K r S
theorem Pure.U9 {P:Program} {f:FuncId} {args:List AV} {R:AV→Prop} {H:Hp} {nx:Nat} {K:AV→Hp→Nat→Prop} (h:Pure P f args R) (hf:cZ 0 args) (hK:∀r,R r→K r H (nx+1)):cJ P f args H nx K:=by
 have:=h.cx (H:=H) (nx:=nx) (K:=fun r H' n=>∃n',n≤n'∧K r H' n') hf fun r hr=>⟨_,Nat.le_succ _,hK r hr⟩
 refine⟨this.1,fun w0 c vs a1 a2 a3 a4=>(this.2 w0 c vs a1 a2 a3 a4).mono ?_⟩
 rintro e w' ⟨v,r,H',nx',ρ,U,he,⟨n',hn,hR⟩,hU,hrest⟩
 exact⟨v,r,H',n',ρ,U,he,hR,fun b hb=>Nat.lt_of_lt_of_le (hU b hb) hn,hrest⟩
theorem iF.pure {P:Program} {f:FuncId} {args:List AV} {R:AV→Prop} {H:Hp} {nx:Nat} {K:AV→Hp→Nat→Prop} (h:Pure P f args R) (hf:cZ 0 args) (hK:∀r,R r→K r H nx):iF P f args H nx K:=⟨h.cx hf hK⟩
theorem iF.P6 {P:Program} {f:FuncId} {args:List AV} {r:AV} {H:Hp} {nx:Nat} {K:AV→Hp→Nat→Prop} (h:Pure P f args (fun x=>x=r)) (hf:cZ 0 args) (hK:K r H nx):iF P f args H nx K:=⟨h.cx hf fun x hx=>by rw[hx];exact hK⟩
theorem iF.of {P:Program} {f:FuncId} {args:List AV} {H:Hp} {nx:Nat} {R K:AV→Hp→Nat→Prop} (h:cJ P f args H nx R) (hK:∀r H' nx',R r H' nx'→K r H' nx'):iF P f args H nx K:=⟨h.mono hK⟩
theorem nF.P6 {P:Program} {g:Bool} {f:FuncId} {args:List AV} {r:AV} {H:Hp} {nx:Nat} {K:AV→Prop} (h:g=true→Pure P f args (fun x=>x=r)) (hf:cZ 0 args) (hK:K r):nF P g f args H nx K:=
 ⟨⟨r,fun hg K' hK'=>(h hg).U9 hf fun x hx=>by rw[hx];exact hK',hK⟩⟩
theorem lM.P6 {P:Program} {id:Nat} {f:FuncId} {args:List AV} {H:Hp} {r:AV} {K:AV→Option (Nat×eT)→List Nat→Prop} (h:Pure P f args (fun x=>x=r)) (hf:cZ 0 args) (hK:K r none []):lM P id f args H K:=
 ⟨⟨r,none,[],Pure.O4 (by simpa using hf) (by simpa using h),hK⟩⟩
theorem tm.P6 {P:Program} {g:Bool} {id:Nat} {f:FuncId} {args:List AV} {H:Hp} {r:AV} {K:AV→List Nat→Prop} (h:g=true→Pure P f args (fun x=>x=r)) (hf:cZ 0 args) (hK:K r []):tm P g id f args H K:=
 ⟨⟨r,[],fun hg=>Pure.O4 (by simpa using hf) (by simpa using h hg),hK⟩⟩
theorem lM.fresh {P:Program} {id:Nat} {f:FuncId} {args:List AV} {H:Hp} {r:AV} {u:Option (Nat×eT)} (S:List Nat) {K:AV→Option (Nat×eT)→List Nat→Prop}
 (h:∀H1,(∀b∈S,bt H1 b=bt H b)→jz P f args H1 id (fun r' H'=>r'=r∧H'=dC H1 u)) (hu:∀b q,u=some (b,q)→b=id) (hK:K r u S):lM P id f args H K:=
 ⟨⟨r,u,S,⟨by simpa using h,hu⟩,hK⟩⟩
section
variable (P:Program)
noncomputable def wz (nx:Nat) (R:Raw) (H:Hp) (op:dL) (K:AV→Hp→Nat→Prop):Prop:=
 match op with
 | .call f args=>dB none R f fun fv=>jo none R args fun as=>match fv with
  | .fn (.func g) first caps=>pk (first++as++caps) fun as=>iF P g as H nx K
  | .fn (.method nm) [.l3 t v] []=>pk as fun as=>XD P t v nm as H nx K
  |_=>False
 |op=>pQ none H R nx op fun r u=>K r (dC H u) (nx+1)
noncomputable def l8 (nx:Nat) (g:Bool) (R:Raw) (H:Hp) (op:dL) (K:AV→Prop):Prop:=
 match op with
 | .call f args=>dB (some g) R f fun fv=>jo (some g) R args fun as=>match fv with
  | .fn (.func q) first caps=>pk (first++as++caps) fun as=>nF P g q as H nx K
  |_=>False
 |op=>pQ (some g) H R nx op fun r u=>match u with
  |none=>K r
  |some _=>False
abbrev D5:=Nat→Ov→Fr→Hp→(Ov→Hp→Nat→Prop)→Prop
def xB (nx:Nat) (ov:Ov) (_:Fr) (H:Hp) (K:Ov→Hp→Nat→Prop):Prop:=K ov H nx
noncomputable def p9 (g:gH) (_:List gH) (ih:D5) (nx:Nat) (ov:Ov) (fr:Fr) (H:Hp) (K:Ov→Hp→Nat→Prop):Prop:=match g.guard with
 |none=>wz P nx (fC ov fr) H g.op fun r H' nx'=>ih nx' (gR ov g.dst none r) fr H' K
 |some (d,want)=>match pn ov fr d with
  |(none, .sc (.bool t))=>eQ t want (wz P nx (fC ov fr) H g.op fun r H' nx'=>ih nx' (gR ov g.dst none r) fr H' K) (ih (nx+1) (gR ov g.dst none (.sc undef)) fr H K)
   (match want with
    |true=>l8 P nx t (fC ov fr) H g.op fun r=>ih (nx+1) (gR ov g.dst (some t) r) fr H K
    |false=>l8 P nx (!t) (fC ov fr) H g.op fun r=>ih (nx+1) (gR ov g.dst (some !t) r) fr H K)
  |(some q, .sc (.bool t))=>(match want with
   |true=>l8 P nx (q&&t) (fC ov fr) H g.op fun r=>ih (nx+1) (gR ov g.dst (some (q&&t)) r) fr H K
   |false=>l8 P nx (q&& !t) (fC ov fr) H g.op fun r=>ih (nx+1) (gR ov g.dst (some (q&& !t)) r) fr H K)
  |(none, .sc (.tuple _))=>ih (nx+1) (gR ov g.dst none (.sc undef)) fr H K
  |_=>False
noncomputable def HB (nx:Nat) (gs:List gH) (ov:Ov) (fr:Fr) (H:Hp) (K:Ov→Hp→Nat→Prop):Prop:=List.rec (motive:=fun _=>D5) xB (p9 P) gs nx ov fr H K
def IU (R:Raw) (op:dL):List Nat:=if op.rd then op.eD.flatMap (fun x=>gJ (R x).2) else[]
noncomputable def nT (id:Nat) (R:Raw) (H:Hp) (op:dL) (K:AV→Option (Nat×eT)→List Nat→Prop):Prop:=
 match op with
 | .call f args=>dB none R f fun fv=>jo none R args fun as=>match fv with
  | .fn (.func g) first caps=>pk (first++as++caps) fun as=>lM P id g as H K
  |_=>False
 |op=>pQ none H R id op fun r u=>K r u (IU R op)
noncomputable def iO (id:Nat) (g:Bool) (R:Raw) (H:Hp) (op:dL) (K:AV→List Nat→Prop):Prop:=
 match op with
 | .call f args=>dB (some g) R f fun fv=>jo (some g) R args fun as=>match fv with
  | .fn (.func q) first caps=>pk (first++as++caps) fun as=>tm P g id q as H K
  |_=>False
 |op=>pQ (some g) H R id op fun r u=>match u with
  |none=>K r (IU R op)
  |some _=>False
abbrev Y0:=Nat→Ov→Fr→Hp→Tr→(Ov→Hp→Tr→Prop)→Prop
def K2 (_:Nat) (ov:Ov) (_:Fr) (H:Hp) (tr:Tr) (K:Ov→Hp→Tr→Prop):Prop:=K ov H tr
noncomputable def oJ (g:gH) (_:List gH) (ih:Y0) (id:Nat) (ov:Ov) (fr:Fr) (H:Hp) (tr:Tr) (K:Ov→Hp→Tr→Prop):Prop:=match g.guard with
 |none=>nT P id (fC ov fr) H g.op fun r u S=>ih (id+1) (gR ov g.dst none r) fr (dC H u) (tr++[(S,u.map (·.1))]) K
 |some (d,want)=>match pn ov fr d with
  |(none, .sc (.bool t))=>eQ t want (nT P id (fC ov fr) H g.op fun r u S=>ih (id+1) (gR ov g.dst none r) fr (dC H u) (tr++[(S,u.map (·.1))]) K) (ih (id+1) (gR ov g.dst none (.sc undef)) fr H (tr++[([],none)]) K)
   (match want with
    |true=>iO P id t (fC ov fr) H g.op fun r S=>ih (id+1) (gR ov g.dst (some t) r) fr H (tr++[(S,none)]) K
    |false=>iO P id (!t) (fC ov fr) H g.op fun r S=>ih (id+1) (gR ov g.dst (some !t) r) fr H (tr++[(S,none)]) K)
  |(some q, .sc (.bool t))=>(match want with
   |true=>iO P id (q&&t) (fC ov fr) H g.op fun r S=>ih (id+1) (gR ov g.dst (some (q&&t)) r) fr H (tr++[(S,none)]) K
   |false=>iO P id (q&& !t) (fC ov fr) H g.op fun r S=>ih (id+1) (gR ov g.dst (some (q&& !t)) r) fr H (tr++[(S,none)]) K)
  |(none, .sc (.tuple _))=>ih (id+1) (gR ov g.dst none (.sc undef)) fr H (tr++[([],none)]) K
  |_=>False
noncomputable def WD (id:Nat) (gs:List gH) (ov:Ov) (fr:Fr) (H:Hp) (tr:Tr) (K:Ov→Hp→Tr→Prop):Prop:=List.rec (motive:=fun _=>Y0) K2 (oJ P) gs id ov fr H tr K
noncomputable def V3 (S:List Nat):(List Nat→Prop)→Prop:=List.rec (motive:=fun _=>(List Nat→Prop)→Prop) (fun K=>K []) (fun b _ ih K=>ih fun S'=>K (b::S')) S
theorem sh:∀(S:List Nat) (K:List Nat→Prop),V3 S K=K S
 |[],_=>rfl
 |b::S,K=>sh S fun S'=>K (b::S')
def uW (u:Option (Nat×eT)) (K:Option Nat→Prop):Prop:=match u with
 |none=>K none
 |some (b,_)=>K (some b)
theorem YP (u:Option (Nat×eT)) (K:Option Nat→Prop):uW u K=K (u.map (·.1)):=by
 cases u<;>rfl
noncomputable def vT (g:gH) (_:List gH) (ih:Y0) (id:Nat) (ov:Ov) (fr:Fr) (H:Hp) (tr:Tr) (K:Ov→Hp→Tr→Prop):Prop:=match g.guard with
 |none=>nT P id (fC ov fr) H g.op fun r u S=>V3 S fun S=>uW u fun x=>ih (id+1) (gR ov g.dst none r) fr (dC H u) ((S,x)::tr) K
 |some (d,want)=>match pn ov fr d with
  |(none, .sc (.bool t))=>eQ t want (nT P id (fC ov fr) H g.op fun r u S=>V3 S fun S=>uW u fun x=>ih (id+1) (gR ov g.dst none r) fr (dC H u) ((S,x)::tr) K) (ih (id+1) (gR ov g.dst none (.sc undef)) fr H (([],none)::tr) K)
   (match want with
    |true=>iO P id t (fC ov fr) H g.op fun r S=>V3 S fun S=>ih (id+1) (gR ov g.dst (some t) r) fr H ((S,none)::tr) K
    |false=>iO P id (!t) (fC ov fr) H g.op fun r S=>V3 S fun S=>ih (id+1) (gR ov g.dst (some !t) r) fr H ((S,none)::tr) K)
  |(some q, .sc (.bool t))=>(match want with
   |true=>iO P id (q&&t) (fC ov fr) H g.op fun r S=>V3 S fun S=>ih (id+1) (gR ov g.dst (some (q&&t)) r) fr H ((S,none)::tr) K
   |false=>iO P id (q&& !t) (fC ov fr) H g.op fun r S=>V3 S fun S=>ih (id+1) (gR ov g.dst (some (q&& !t)) r) fr H ((S,none)::tr) K)
  |(none, .sc (.tuple _))=>ih (id+1) (gR ov g.dst none (.sc undef)) fr H (([],none)::tr) K
  |_=>False
noncomputable def WE (id:Nat) (gs:List gH) (ov:Ov) (fr:Fr) (H:Hp) (tr:Tr) (K:Ov→Hp→Tr→Prop):Prop:=List.rec (motive:=fun _=>Y0) K2 (vT P) gs id ov fr H tr K
theorem wy:∀(gs:List gH) (id:Nat) (ov:Ov) (fr:Fr) (H:Hp) (tr:Tr) (K:Ov→Hp→Tr→Prop),WE P id gs ov fr H tr K=WD P id gs ov fr H tr.reverse fun ov H t=>K ov H t.reverse
 |[],id,ov,fr,H,tr,K=>by
  show K ov H tr=K ov H tr.reverse.reverse
  rw[List.reverse_reverse]
 |g::gs,id,ov,fr,H,tr,K=>by
  have ih:=wy gs
  show vT P g gs (fun id ov fr H tr K=>WE P id gs ov fr H tr K) id ov fr H tr K=oJ P g gs (fun id ov fr H tr K=>WD P id gs ov fr H tr K) id ov fr H tr.reverse fun ov H t=>K ov H t.reverse
  simp only[vT,oJ,sh,YP,ih,List.reverse_cons]
noncomputable def QC (s:rN) (_:List rN) (ih:D5) (nx:Nat) (ov:Ov) (fr:Fr) (H:Hp) (K:Ov→Hp→Nat→Prop):Prop:=match s.ops with
 |[g]=>HB P nx [g] ov fr H fun ov' H' nx'=>ih nx' ov' fr H' K
 |gs=>WE P nx gs ov fr H [] fun ov' H' tr=>(match s.ps with
  |[]=>ih (nx+gs.length) ov' fr H' K
  |p::ps=>Ask (hX tr.reverse (p::ps))∧ih (nx+gs.length) ov' fr H' K)
noncomputable def WS (nx:Nat) (segs:List rN) (ov:Ov) (fr:Fr) (H:Hp) (K:Ov→Hp→Nat→Prop):Prop:=List.rec (motive:=fun _=>D5) xB (QC P) segs nx ov fr H K
structure iG (n lo:Nat) (x:LC) (fr:Fr) (H:Hp) (nx:Nat) (Q:QT):Prop where
 ok:WL P n lo (.loop x) fr H nx Q
abbrev WT:=Fr→Hp→Nat→QT→Prop
def UX (fr:Fr) (H:Hp) (nx:Nat) (Q:QT):Prop:=Q .normal fr H nx
noncomputable def K3 (gs:List gH) (fr:Fr) (H:Hp) (nx:Nat) (Q:QT):Prop:=HB P nx gs [] fr H fun ov H' nx'=>Q .normal (gh ov fr) H' nx'
structure gx (segs:List rN) (fr:Fr) (H:Hp) (nx:Nat) (Q:QT):Prop where
 ok:∀n lo,WL P n lo (.drawn segs) fr H nx Q
def QE (segs:List rN) (fr:Fr) (H:Hp) (nx:Nat) (Q:QT):Prop:=gx P segs fr H nx Q
def XF (_ _:LC) (ia ib:WT) (fr:Fr) (H:Hp) (nx:Nat) (Q:QT):Prop:=ia fr H nx (gv (fun fr H nx=>ib fr H nx Q) Q)
def AY (c:eA) (_ _:LC) (ia ib:WT) (fr:Fr) (H:Hp) (nx:Nat) (Q:QT):Prop:=match ev fr c with
 | .sc (.bool t)=>fI t (ia fr H nx Q) (ib fr H nx Q)
 | .ab=>ia fr H nx Q∧ib fr H nx Q
 |_=>False
def QD (id:Nat) (_:LC) (ia:WT) (fr:Fr) (H:Hp) (nx:Nat) (Q:QT):Prop:=ia fr H nx (vg id Q)
def UW (n lo:Nat) (a:LC) (_:WT) (fr:Fr) (H:Hp) (nx:Nat) (Q:QT):Prop:=iG P n lo a fr H nx Q
def UU (id:Nat) (fr:Fr) (H:Hp) (nx:Nat) (Q:QT):Prop:=Q (.exit id) fr H nx
def XE (fr:Fr) (H:Hp) (nx:Nat) (Q:QT):Prop:=Q .ret fr H nx
noncomputable def W (n lo:Nat) (lc:LC):WT:=LC.rec (motive:=fun _=>WT) UX (K3 P) (QE P) XF AY QD (UW P n lo) UU XE lc
end
section
variable {P:Program}
theorem qS {nx:Nat} {ov:Ov} {f fr:Fr} {H:Hp} {op:dL} {K:AV→Hp→Nat→Prop} (hF:pZ f ov fr) (h:wz P nx (fC ov fr) H op K):dn P nx f H op K:=by
 by_cases hc:∃g as,op= .call g as
 ·obtain⟨fo,as,rfl⟩:=hc
  simp only[wz] at h
  obtain⟨h1,h2⟩:=cL h
  obtain⟨h3,h4⟩:=fE h2
  simp only[dn]
  rw[hF.raw fo (h1 trivial),kz (R:=fC ov fr) fun x hx=>hF.raw x (h3 trivial x hx)]
  split at h4
  ·rename_i he
   rw[he]
   rw[iB] at h4
   exact h4.ok
  ·rename_i he
   rw[he]
   rw[iB] at h4
   exact h4.ok
  ·exact h4.elim
 ·have e1:wz P nx (fC ov fr) H op K=pQ none H (fC ov fr) nx op fun r u=>K r (dC H u) (nx+1):=by cases op<;>first|rfl|exact absurd ⟨_,_,rfl⟩ hc
  have e2:dn P nx f H op K=jS (cB nx f H op) fun p=>K p.1 (dC H p.2) (nx+1):=by cases op<;>first|rfl|exact absurd ⟨_,_,rfl⟩ hc
  rw[e1] at h
  obtain⟨r,u,h1,h2⟩:=je h
  rw[e2,(h2 trivial).2 f fun x hx=>hF.raw x hx]
  exact h1
theorem vV {nx:Nat} {g:Bool} {ov:Ov} {fr:Fr} {H:Hp} {op:dL} {K:AV→Prop} (h:l8 P nx g (fC ov fr) H op K):
 ∃r,K r∧(g=true→∀f,pZ f ov fr→∀K':AV→Hp→Nat→Prop,K' r H (nx+1)→dn P nx f H op K'):=by
 by_cases hc:∃g as,op= .call g as
 ·obtain⟨fo,as,rfl⟩:=hc
  simp only[l8] at h
  obtain⟨h1,h2⟩:=cL h
  obtain⟨h3,h4⟩:=fE h2
  split at h4
  ·rename_i he
   rw[iB] at h4
   obtain⟨r,h5,h6⟩:=h4.ok
   refine⟨r,h6,fun hg f hF K' hK'=> ?_⟩
   simp only[dn]
   rw[hF.raw fo (h1 hg),kz (R:=fC ov fr) fun x hx=>hF.raw x (h3 hg x hx),he]
   exact h5 hg K' hK'
  ·exact h4.elim
 ·have e1:l8 P nx g (fC ov fr) H op K=pQ (some g) H (fC ov fr) nx op fun r u=>match u with|none=>K r|some _=>False:=by cases op<;>first|rfl|exact absurd ⟨_,_,rfl⟩ hc
  rw[e1] at h
  obtain⟨r,u,h1,h2⟩:=je h
  cases u with
  |some p=>exact h1.elim
  |none=>
   refine⟨r,h1,fun hg f hF K' hK'=> ?_⟩
   have e2:dn P nx f H op K'=jS (cB nx f H op) fun p=>K' p.1 (dC H p.2) (nx+1):=by cases op<;>first|rfl|exact absurd ⟨_,_,rfl⟩ hc
   rw[e2,(h2 hg).2 f fun x hx=>hF.raw x hx]
   exact hK'
theorem fR:∀{gs:List gH} {nx:Nat} {ov:Ov} {f fr:Fr} {H:Hp} {K:Ov→Hp→Nat→Prop},pZ f ov fr→HB P nx gs ov fr H K→ef P nx gs f H (fun f1 H1 nx1=>∃ov1,pZ f1 ov1 fr∧K ov1 H1 nx1)
 |[],nx,ov,f,fr,H,K,hF,h=>⟨ov,hF,h⟩
 |g::gs,nx,ov,f,fr,H,K,hF,h=>by
  have join:∀{q t:Bool} {d:Nat} {want:Bool},g.guard=some (d,want)→(q=true→ca f d= .sc (.bool t))→(q=false→ca f d= .sc undef)→∀{gg:Bool},(gg=true↔(q=true∧t=want))→
   (l8 P nx gg (fC ov fr) H g.op fun r=>HB P (nx+1) gs (gR ov g.dst (some gg) r) fr H K)→ef P nx (g::gs) f H (fun f1 H1 nx1=>∃ov1,pZ f1 ov1 fr∧K ov1 H1 nx1):=by
   intro q t d want hg hq1 hq2 gg hgg hJ
   obtain⟨r,h1,h2⟩:=vV hJ
   simp only[ef,hg,dM]
   cases q with
   |true=>
    simp only[hq1 rfl]
    by_cases ht:t=want
    ·rw[if_pos ht]
     have hgt:=hgg.2 ⟨rfl,ht⟩
     exact h2 hgt f hF _ (fR (hF.pI g.dst (u:=r) (fun _=>rfl) fun h=>by rw[hgt] at h;cases h) h1)
    ·rw[if_neg ht]
     have hgf:gg=false:=by cases hgg':gg<;>simp_all
     exact fR (hF.pI g.dst (u:= .sc undef) (fun h=>by rw[hgf] at h;cases h) fun _=>rfl) h1
   |false=>
    simp only[hq2 rfl]
    have hgf:gg=false:=by cases hgg':gg<;>simp_all
    have:=fR (hF.pI g.dst (u:= .sc undef) (q:=gg) (fun h=>by rw[hgf] at h;cases h) fun _=>rfl) h1
    exact this
  have h:p9 P g gs (fun nx ov fr H K=>HB P nx gs ov fr H K) nx ov fr H K:=h
  simp only[p9] at h
  split at h
  ·rename_i hg
   simp only[ef,hg,dM]
   exact(qS hF h).mono fun r H' nx' hh=>fR (hF.put g.dst r) hh
  ·rename_i d want hg
   have hd:=hF d
   split at h
   ·rename_i t he
    rw[he] at hd
    simp only at hd
    rcases h.ok with⟨hA,hB⟩|hJ
    ·simp only[ef,hg,dM,hd]
     by_cases ht:t=want
     ·rw[if_pos ht]
      exact(qS hF (hA ht)).mono fun r H' nx' hh=>fR (hF.put g.dst r) hh
     ·rw[if_neg ht]
      exact fR (hF.put g.dst _) (hB ht)
    ·cases want with
     |true=>exact join (q:=true) hg (fun _=>hd) (fun h=>by cases h) (gg:=t) (by simp) hJ
     |false=>exact join (q:=true) hg (fun _=>hd) (fun h=>by cases h) (gg:= !t) (by simp) hJ
   ·rename_i q t he
    rw[he] at hd
    simp only at hd
    cases want with
    |true=>exact join hg hd.1 hd.2 (gg:=q&&t) (by simp) h
    |false=>exact join hg hd.1 hd.2 (gg:=q&& !t) (by simp) h
   ·rename_i v he
    rw[he] at hd
    simp only at hd
    simp only[ef,hg,dM,hd]
    exact fR (hF.put g.dst _) h
   ·exact h.elim
def G9:Tr→Tr→Prop
 |[],[]=>True
 |a::r,b::s=>(∀x∈a.1,x∈b.1)∧a.2=b.2∧G9 r s
 |_,_=>False
theorem G9.snoc {a b:List Nat} {u:Option Nat} (h1:∀x∈a,x∈b):∀{r s:Tr},G9 r s→G9 (r++[(a,u)]) (s++[(b,u)])
 |[],[],_=>⟨h1,rfl,trivial⟩
 |x::r,y::s,h=>⟨h.1,h.2.1,G9.snoc h1 h.2.2⟩
 |[],_::_,h=>h.elim
 |_::_,[],h=>h.elim
theorem G9.get:∀{r s:Tr},G9 r s→∀k,(∀x∈(r.getD k ([],none)).1,x∈(s.getD k ([],none)).1)∧(r.getD k ([],none)).2=(s.getD k ([],none)).2
 |[],[],_,k=>by simp
 |x::r,y::s,h,0=>⟨h.1,h.2.1⟩
 |x::r,y::s,h,k+1=>by simpa using G9.get h.2.2 k
 |[],_::_,h,_=>h.elim
 |_::_,[],h,_=>h.elim
theorem G9.HX {r s:Tr} (h:G9 r s) {ps:List (Nat×Nat)} (hf:hX s ps):hX r ps:=by
 intro p hp
 obtain⟨h1,h2,h3⟩:=hf p hp
 obtain⟨a1,a2⟩:=h.get p.1
 obtain⟨b1,b2⟩:=h.get p.2
 exact⟨fun b hb hm=>h1 b (by rw[←a2];exact hb) (b1 b hm),fun b hb hm=>h2 b (by rw[←b2];exact hb) (a1 b hm),fun b hb=>h3 b ⟨by rw[←a2];exact hb.1,by rw[←b2];exact hb.2⟩⟩
theorem EU {ov:Ov} {f fr:Fr} {op:dL} (hF:pZ f ov fr) (h:op.rd=true→∀y∈op.eD,JS (fC ov fr) y):∀x∈eO f op,x∈IU (fC ov fr) op:=by
 intro x hx
 unfold eO at hx
 unfold IU
 split at hx
 ·rename_i hr
  rw[if_pos hr]
  obtain⟨y,hy,hm⟩:=List.mem_flatMap.1 hx
  exact List.mem_flatMap.2 ⟨y,hy,by rw[←hF.raw y (h hr y hy)];exact hm⟩
 ·cases hx
theorem oK {id:Nat} {ov:Ov} {fr:Fr} {H:Hp} {op:dL} {K:AV→Option (Nat×eT)→List Nat→Prop} (h:nT P id (fC ov fr) H op K) {f:Fr} (hF:pZ f ov fr):
 jY P id f H op (fun r u S'=>∃S,(∀x∈S',x∈S)∧K r u S):=by
 by_cases hc:∃g as,op= .call g as
 ·obtain⟨fo,as,rfl⟩:=hc
  simp only[nT] at h
  obtain⟨h1,h2⟩:=cL h
  obtain⟨h3,h4⟩:=fE h2
  split at h4
  ·rename_i he
   rw[iB] at h4
   obtain⟨r,u,S,h5,h6⟩:=h4.ok
   refine⟨r,u,S, ?_,S,fun _ h=>h,h6⟩
   rw[hF.raw fo (h1 trivial),kz (R:=fC ov fr) fun x hx=>hF.raw x (h3 trivial x hx),he]
   simpa[nG] using h5
  ·exact h4.elim
 ·have e1:nT P id (fC ov fr) H op K=pQ none H (fC ov fr) id op fun r u=>K r u (IU (fC ov fr) op):=by cases op<;>first|rfl|exact absurd ⟨_,_,rfl⟩ hc
  rw[e1] at h
  obtain⟨r,u,h1,h2⟩:=je h
  obtain⟨h3,h4⟩:=h2 trivial
  have e2:∀K',jY P id f H op K'=jS (cB id f H op) fun p=>K' p.1 p.2 (eO f op):=by intro K';cases op<;>first|rfl|exact absurd ⟨_,_,rfl⟩ hc
  rw[e2,h4 f fun x hx=>hF.raw x hx]
  exact⟨_,EU hF h3,h1⟩
theorem vU {id:Nat} {g:Bool} {ov:Ov} {fr:Fr} {H:Hp} {op:dL} {K:AV→List Nat→Prop} (h:iO P id g (fC ov fr) H op K):
 ∃r S,K r S∧(g=true→∀f,pZ f ov fr→∀K':AV→Option (Nat×eT)→List Nat→Prop,(∀S',(∀x∈S',x∈S)→K' r none S')→jY P id f H op K'):=by
 by_cases hc:∃g as,op= .call g as
 ·obtain⟨fo,as,rfl⟩:=hc
  simp only[iO] at h
  obtain⟨h1,h2⟩:=cL h
  obtain⟨h3,h4⟩:=fE h2
  split at h4
  ·rename_i he
   rw[iB] at h4
   obtain⟨r,S,h5,h6⟩:=h4.ok
   refine⟨r,S,h6,fun hg f hF K' hK'=>⟨r,none,S, ?_,hK' S fun _ h=>h⟩⟩
   rw[hF.raw fo (h1 hg),kz (R:=fC ov fr) fun x hx=>hF.raw x (h3 hg x hx),he]
   simpa[nG] using h5 hg
  ·exact h4.elim
 ·have e1:iO P id g (fC ov fr) H op K=pQ (some g) H (fC ov fr) id op fun r u=>match u with|none=>K r (IU (fC ov fr) op)|some _=>False:=by cases op<;>first|rfl|exact absurd ⟨_,_,rfl⟩ hc
  rw[e1] at h
  obtain⟨r,u,h1,h2⟩:=je h
  cases u with
  |some p=>exact h1.elim
  |none=>
   refine⟨r,_,h1,fun hg f hF K' hK'=> ?_⟩
   obtain⟨h3,h4⟩:=h2 hg
   have e2:jY P id f H op K'=jS (cB id f H op) fun p=>K' p.1 p.2 (eO f op):=by cases op<;>first|rfl|exact absurd ⟨_,_,rfl⟩ hc
   rw[e2,h4 f fun x hx=>hF.raw x hx]
   exact hK' _ (EU hF h3)
theorem fg:∀{gs:List gH} {id:Nat} {ov:Ov} {f fr:Fr} {H:Hp} {tr tr':Tr} {K:Ov→Hp→Tr→Prop},pZ f ov fr→G9 tr' tr→WD P id gs ov fr H tr K→gy P id gs f H tr' (fun f1 H1 tr1=>∃ov1 trj,pZ f1 ov1 fr∧G9 tr1 trj∧K ov1 H1 trj)
 |[],id,ov,f,fr,H,tr,tr',K,hF,hT,h=>⟨ov,tr,hF,hT,h⟩
 |g::gs,id,ov,f,fr,H,tr,tr',K,hF,hT,h=>by
  have join:∀{q t:Bool} {d:Nat} {want:Bool},g.guard=some (d,want)→(q=true→ca f d= .sc (.bool t))→(q=false→ca f d= .sc undef)→∀{gg:Bool},(gg=true↔(q=true∧t=want))→
   (iO P id gg (fC ov fr) H g.op fun r S=>WD P (id+1) gs (gR ov g.dst (some gg) r) fr H (tr++[(S,none)]) K)→gy P id (g::gs) f H tr' (fun f1 H1 tr1=>∃ov1 trj,pZ f1 ov1 fr∧G9 tr1 trj∧K ov1 H1 trj):=by
   intro q t d want hg hq1 hq2 gg hgg hJ
   obtain⟨r,S,h1,h2⟩:=vU hJ
   simp only[gy,hg,dM]
   cases q with
   |true=>
    simp only[hq1 rfl]
    by_cases ht:t=want
    ·rw[if_pos ht]
     have hgt:=hgg.2 ⟨rfl,ht⟩
     refine h2 hgt f hF _ fun S' hS=> ?_
     exact fg (hF.pI g.dst (u:=r) (fun _=>rfl) fun h=>by rw[hgt] at h;cases h) (hT.snoc hS) h1
    ·rw[if_neg ht]
     have hgf:gg=false:=by cases hgg':gg<;>simp_all
     exact fg (hF.pI g.dst (u:= .sc undef) (fun h=>by rw[hgf] at h;cases h) fun _=>rfl) (hT.snoc (a:=[]) (b:=S) (fun _ h=>by cases h)) h1
   |false=>
    simp only[hq2 rfl]
    have hgf:gg=false:=by cases hgg':gg<;>simp_all
    have:=fg (hF.pI g.dst (u:= .sc undef) (q:=gg) (fun h=>by rw[hgf] at h;cases h) fun _=>rfl) (hT.snoc (a:=[]) (b:=S) (fun _ h=>by cases h)) h1
    exact this
  have h:oJ P g gs (fun id ov fr H tr K=>WD P id gs ov fr H tr K) id ov fr H tr K:=h
  simp only[oJ] at h
  split at h
  ·rename_i hg
   simp only[gy,hg,dM]
   refine(oK h hF).mono ?_
   rintro r u S' ⟨S,hS,hh⟩
   exact fg (hF.put g.dst r) (hT.snoc hS) hh
  ·rename_i d want hg
   have hd:=hF d
   split at h
   ·rename_i t he
    rw[he] at hd
    simp only at hd
    rcases h.ok with⟨hA,hB⟩|hJ
    ·simp only[gy,hg,dM,hd]
     by_cases ht:t=want
     ·rw[if_pos ht]
      refine(oK (hA ht) hF).mono ?_
      rintro r u S' ⟨S,hS,hh⟩
      exact fg (hF.put g.dst r) (hT.snoc hS) hh
     ·rw[if_neg ht]
      exact fg (hF.put g.dst _) (hT.snoc (a:=[]) (b:=[]) (fun _ h=>h)) (hB ht)
    ·cases want with
     |true=>exact join (q:=true) hg (fun _=>hd) (fun h=>by cases h) (gg:=t) (by simp) hJ
     |false=>exact join (q:=true) hg (fun _=>hd) (fun h=>by cases h) (gg:= !t) (by simp) hJ
   ·rename_i q t he
    rw[he] at hd
    simp only at hd
    cases want with
    |true=>exact join hg hd.1 hd.2 (gg:=q&&t) (by simp) h
    |false=>exact join hg hd.1 hd.2 (gg:=q&& !t) (by simp) h
   ·rename_i v he
    rw[he] at hd
    simp only at hd
    simp only[gy,hg,dM,hd]
    exact fg (hF.put g.dst _) (hT.snoc (a:=[]) (b:=[]) (fun _ h=>h)) h
   ·exact h.elim
theorem kD:∀{segs:List rN} {nx:Nat} {ov:Ov} {f fr:Fr} {H:Hp} {K:Ov→Hp→Nat→Prop},pZ f ov fr→WS P nx segs ov fr H K→gQ P nx segs f H (fun f1 H1 nx1=>∃ov1,pZ f1 ov1 fr∧K ov1 H1 nx1)
 |[],nx,ov,f,fr,H,K,hF,h=>⟨ov,hF,h⟩
 |⟨[g],ps⟩::rest,nx,ov,f,fr,H,K,hF,h=>by
  have h:HB P nx [g] ov fr H fun ov' H' nx'=>WS P nx' rest ov' fr H' K:=h
  refine ef.mono (K':=fun a b c=>gQ P c rest a b _) (fR hF h) ?_
  rintro f1 H1 nx1 ⟨ov1,h1,h2⟩
  exact kD h1 h2
 |⟨[],[]⟩::rest,nx,ov,f,fr,H,K,hF,h=>by
  have h:WE P nx [] ov fr H [] fun ov' H' _=>WS P (nx+0) rest ov' fr H' K:=h
  rw[wy,List.reverse_nil] at h
  simp only[gQ]
  refine gy.mono (fg hF (tr':=[]) (tr:=[]) trivial h) ?_
  rintro f1 H1 tr1 ⟨ov1,trj,h1,h2,h3⟩
  exact⟨(fun p hp=>by cases hp),kD h1 h3⟩
 |⟨[],p::ps⟩::rest,nx,ov,f,fr,H,K,hF,h=>by
  have h:WE P nx [] ov fr H [] fun ov' H' tr=>Ask (hX tr.reverse (p::ps))∧WS P (nx+0) rest ov' fr H' K:=h
  rw[wy,List.reverse_nil] at h
  simp only[List.reverse_reverse] at h
  simp only[gQ]
  refine gy.mono (fg hF (tr':=[]) (tr:=[]) trivial h) ?_
  rintro f1 H1 tr1 ⟨ov1,trj,h1,h2,h3⟩
  exact⟨h2.HX h3.1.ok,kD h1 h3.2⟩
 |⟨g1::g2::gs,[]⟩::rest,nx,ov,f,fr,H,K,hF,h=>by
  have h:WE P nx (g1::g2::gs) ov fr H [] fun ov' H' _=>WS P (nx+(g1::g2::gs).length) rest ov' fr H' K:=h
  rw[wy,List.reverse_nil] at h
  simp only[gQ]
  refine gy.mono (fg hF (tr':=[]) (tr:=[]) trivial h) ?_
  rintro f1 H1 tr1 ⟨ov1,trj,h1,h2,h3⟩
  exact⟨(fun p hp=>by cases hp),kD h1 h3⟩
 |⟨g1::g2::gs,p::ps⟩::rest,nx,ov,f,fr,H,K,hF,h=>by
  have h:WE P nx (g1::g2::gs) ov fr H [] fun ov' H' tr=>Ask (hX tr.reverse (p::ps))∧WS P (nx+(g1::g2::gs).length) rest ov' fr H' K:=h
  rw[wy,List.reverse_nil] at h
  simp only[List.reverse_reverse] at h
  simp only[gQ]
  refine gy.mono (fg hF (tr':=[]) (tr:=[]) trivial h) ?_
  rintro f1 H1 tr1 ⟨ov1,trj,h1,h2,h3⟩
  exact⟨h2.HX h3.1.ok,kD h1 h3.2⟩
theorem Holds.less {w0:World} {M0:Nat→Prop} {c0:Cx} {lo n:Nat} {fr fr':Fr} {H:Hp} {nx:Nat} {a:Act} {w:World} (h:Holds w0 M0 c0 lo n fr H nx a w) (hf:∀t,ca fr' t= .any∨ca fr' t=ca fr t):Holds w0 M0 c0 lo n fr' H nx a w:=by
 obtain⟨h1,h2,ρ,U,hU,hS,hF,hT⟩:=h
 refine⟨h1,h2,ρ,U,hU,hS,fun t=> ?_,hT⟩
 rcases hf t with h|h
 ·rw[h,VR];trivial
 ·rw[h];exact hF t
theorem WL.less {n lo:Nat} {lc:LC} {fr:Fr} {H:Hp} {nx:Nat} {Q:QT} (h:WL P n lo lc fr H nx (fun e f H nx=>∃f',(∀t,ca f' t= .any∨ca f' t=ca f t)∧Q e f' H nx)):WL P n lo lc fr H nx Q:=
 fun code hc w0 M0 c0 a w hh=>Code.wp_mono (fun _ _ _ ⟨x,f,H,nx,he,⟨f',h1,h2⟩,hhh⟩=>⟨x,f',H,nx,he,h2,hhh.less h1⟩) (h code hc w0 M0 c0 a w hh)
theorem pZ.less {f:Fr} {ov:Ov} {fr:Fr} (h:pZ f ov fr) (t:Nat):ca (gh ov fr) t= .any∨ca (gh ov fr) t=ca f t:=by
 rcases nh (ov:=ov) (fr:=fr) (t:=t) with h1|⟨v,h1,h2⟩
 ·exact .inl h1
 ·have:=h t
  rw[h1] at this
  exact .inr (h2.trans this.symm)
theorem gx.of {segs:List rN} {fr:Fr} {H:Hp} {nx:Nat} {Q:QT} (h:WS P nx segs [] fr H fun ov H' nx'=>Q .normal (gh ov fr) H' nx'):gx P segs fr H nx Q:=
 ⟨fun _ _=>WL.less (WL.drawn (gQ.mono (kD (pZ.refl fr) h) fun _ _ _ ⟨_,h1,h2⟩=>⟨_,h1.less,h2⟩))⟩
theorem ez {n lo:Nat}:∀{lc:LC} {fr:Fr} {H:Hp} {nx:Nat} {Q:QT},W P n lo lc fr H nx Q→WL P n lo lc fr H nx Q
 | .skip,_,_,_,_,h=>WL.skip h
 | .ret,_,_,_,_,h=>WL.ret h
 | .exit _,_,_,_,_,h=>WL.exit h
 | .region gs,fr,H,nx,Q,h=>WL.less (WL.region (ef.mono (fR (pZ.refl fr) h) fun _ _ _ ⟨_,h1,h2⟩=>⟨_,h1.less,h2⟩))
 | .drawn segs,fr,H,nx,Q,h=>gx.ok (P:=P) h n lo
 | .seq a b,fr,H,nx,Q,h=>WL.seq ((ez (lc:=a) (Q:=gv (fun fr H nx=>W P n lo b fr H nx Q) Q) h).mono fun e fr H nx hh=>by
  cases e with
  |normal=>exact ez (lc:=b) hh
  |exit id=>exact hh
  |ret=>exact hh)
 | .cond c a b,fr,H,nx,Q,h=>by
  have h:AY c a b (W P n lo a) (W P n lo b) fr H nx Q:=h
  simp only[AY] at h
  split at h
  ·rename_i t ht
   exact WL.cond ht (fun h1=>ez (lc:=a) (h.ok.1 h1)) (fun h1=>ez (lc:=b) (h.ok.2 h1))
  ·rename_i ht
   exact WL.VA ht (ez (lc:=a) h.1) (ez (lc:=b) h.2)
  ·exact h.elim
 | .block id a,fr,H,nx,Q,h=>WL.block (ez (lc:=a) h)
 | .loop a,fr,H,nx,Q,h=>h.ok
theorem iG.inv {n lo:Nat} {x:LC} {fr:Fr} {H:Hp} {nx:Nat} {Q:QT} {σ:Type} (I:σ→Fr→Hp→Nat→Prop) (μ:σ→Nat) (s0:σ) (h0:∃fr',(∀t,ca fr' t= .any∨ca fr' t=ca fr t)∧I s0 fr' H nx)
 (round:∀s fr H nx,I s fr H nx→WL P n lo x fr H nx (gv (fun fr' H' nx'=>∃s',μ s'<μ s∧∃fr2,(∀t,ca fr2 t= .any∨ca fr2 t=ca fr' t)∧I s' fr2 H' nx') Q)):iG P n lo x fr H nx Q:=by
 refine⟨fun code hc w0 M0 c0 a w hh=> ?_⟩
 have:∃c1,code= .loop c1∧cj P n c1=some x:=by
  cases code<;>simp only[cj] at hc
  case loop c1=>
   simp only[Option.map_eq_some_iff,LC.loop.injEq] at hc
   obtain⟨x',h1,rfl⟩:=hc
   exact⟨c1,rfl,h1⟩
  all_goals (exfalso;repeat' (split at hc))<;>simp at hc
 obtain⟨c1,rfl,h1⟩:=this
 intro b k cs
 have key:∀m,∀s,μ s=m→∀fr H nx,I s fr H nx→∀a w,Holds w0 M0 c0 lo n fr H nx a w→
  ∃e a' w',LQ w0 M0 c0 lo n Q e a' w'∧Arrives P (lone (b.at a (.code c1:: .inLoop c1::k)) cs w) b k cs e a' w':=by
  intro m
  induction m using Nat.strongRecOn with
  |_ m ih=>
   intro s hs fr H nx hI a w hh
   obtain⟨e,a1,w1,hq,harr⟩:=round s fr H nx hI c1 h1 w0 M0 c0 a w hh b (.inLoop c1::k) cs
   obtain⟨x',fr',H',nx',rfl,hQ,hh'⟩:=hq
   cases x' with
   |normal=>
    obtain⟨s',hlt,fr2,hless,hI'⟩:=hQ
    obtain⟨e2,a2,w2,hq2,harr2⟩:=ih (μ s') (by omega) s' rfl fr2 H' nx' hI' a1 w1 (hh'.less hless)
    exact⟨e2,a2,w2,hq2, .of_steps (Steps.trans harr (.one step_inLoop)) harr2⟩
   |exit id=>exact⟨_,a1,w1,⟨.exit id,fr',H',nx',rfl,hQ,hh'⟩, .pass (x:= .inLoop c1) rfl (fun _ _=> .inl (by simp[Ex.to])) harr⟩
   |ret=>exact⟨_,a1,w1,⟨.ret,fr',H',nx',rfl,hQ,hh'⟩, .pass (x:= .inLoop c1) rfl (fun _ _=> .inl (by simp[Ex.to])) harr⟩
 obtain⟨fr',hless,hI⟩:=h0
 obtain⟨e,a',w',hq,harr⟩:=key _ s0 rfl fr' H nx hI a w (hh.less hless)
 exact⟨e,a',w',hq, .of_steps (.one step_loop) harr⟩
def j5 (fr:Fr):Fr→Prop
 |[]=>True
 |(t,v)::r=>ca fr t=v∧j5 fr r
theorem gK {fr:Fr}:∀{fr':Fr},j5 fr fr'→∀t,ca fr' t= .any∨ca fr' t=ca fr t
 |[],_,t=> .inl rfl
 |(d,v)::r,h,t=>by
  simp only[ca]
  by_cases ht:t=d
  ·subst ht;rw[if_pos rfl];exact .inr h.1.symm
  ·rw[if_neg ht];exact gK h.2 t
theorem iG.fr {n lo:Nat} {x:LC} {fr:Fr} {H:Hp} {nx:Nat} {Q:QT} {σ:Type} (F:σ→Fr) (I:σ→Hp→Nat→Prop) (μ:σ→Nat) (s0:σ) (h0:j5 fr (F s0)) (h1:I s0 H nx)
 (round:∀s H nx,I s H nx→W P n lo x (F s) H nx (gv (fun fr' H' nx'=>∃s',μ s'<μ s∧j5 fr' (F s')∧I s' H' nx') Q)):iG P n lo x fr H nx Q:=by
 refine iG.inv (fun s fr H nx=>fr=F s∧I s H nx) μ s0 ⟨F s0,gK h0,rfl,h1⟩ ?_
 rintro s fr H nx ⟨rfl,hI⟩
 refine(ez (round s H nx hI)).mono ?_
 intro e fr' H' nx' hh
 cases e with
 |normal=>
  obtain⟨s',h2,h3,h4⟩:=hh
  exact⟨s',h2,F s',gK h3,rfl,h4⟩
 |exit id=>exact hh
 |ret=>exact hh
end
end Go.cY
end
