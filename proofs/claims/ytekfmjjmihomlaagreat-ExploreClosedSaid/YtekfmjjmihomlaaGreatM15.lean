import Derived.Test.YtekfmjjmihomlaaGreatM9
section
/- A run by reduction alone: the code is walked by the reducer; what is to be shown stands out as questions. -/
set_option linter.unusedSimpArgs false
set_option linter.unusedVariables false
namespace Go.cQ
open Go.RowKit
structure Ask (p:Prop):Prop where
 ok:p
def dI:Option Bool→Prop→Prop
 |none,p=>Ask p
 |some g,p=>Ask (g=true→p)
def Gd:Option Bool→Prop
 |none=>True
 |some g=>g=true
theorem cG {g:Option Bool} {p:Prop}:dI g p↔(Gd g→p):=by
 cases g with
 |none=>exact⟨fun h _=>h.ok,fun h=>⟨h trivial⟩⟩
 |some g=>exact⟨fun h=>h.ok,fun h=>⟨h⟩⟩
abbrev Ov:=List (Nat×Option Bool×AV)
def mz:Ov→Fr→Nat→Option Bool×AV
 |[],fr,t=>(none,cJ fr t)
 |(d,c,v)::r,fr,t=>bif Nat.beq t d then(c,v) else mz r fr t
def fP (ov:Ov) (d:Option Nat) (c:Option Bool) (v:AV):Ov:=
 match d with
 |some d=>(d,c,v)::ov
 |none=>ov
def fX:Ov→Fr→Fr
 |[],fr=>fr
 |(d,none,v)::r,fr=>(d,v)::fX r fr
 |(d,some _,_)::r,fr=>(d, .any)::fX r fr
def eG (ov:Ov) (fr:Fr):dQ→Option Bool×AV
 | .t n=>mz ov fr n
 | .c v=>(none, .sc v)
 | .f n=>(none, .fn (.func n) [] [])
 | .m nm n=>match mz ov fr n with
  |(g, .ju t v)=>(g, .fn (.method nm) [.ju t v] [])
  |(g,_)=>(g, .any)
theorem nt {t d:Nat} (h:¬t=d):Nat.beq t d=false:=by
 cases hb:Nat.beq t d with
 |false=>rfl
 |true=>exact absurd (Nat.eq_of_beq_eq_true hb) h
def mg (f:Fr) (ov:Ov) (fr:Fr):Prop:=
 ∀t,match mz ov fr t with
  |(none,v)=>cJ f t=v
  |(some q,v)=>(q=true→cJ f t=v)∧(q=false→cJ f t= .sc undef)
theorem mg.refl (fr:Fr):mg fr [] fr:=fun _=>rfl
theorem mg.put {f:Fr} {ov:Ov} {fr:Fr} (h:mg f ov fr) (d:Option Nat) (v:AV):mg (eP f d v) (fP ov d none v) fr:=by
 cases d with
 |none=>exact h
 |some d=>
  intro t
  simp only[fP,eP,mz,cJ]
  by_cases ht:t=d
  ·subst ht;simp
  ·have:Nat.beq t d=false:=nt ht
   rw[this,if_neg ht];exact h t
theorem mg.pO {f:Fr} {ov:Ov} {fr:Fr} (h:mg f ov fr) (d:Option Nat) {q:Bool} {u v:AV} (h1:q=true→u=v) (h2:q=false→u= .sc undef):mg (eP f d u) (fP ov d (some q) v) fr:=by
 cases d with
 |none=>exact h
 |some d=>
  intro t
  simp only[fP,eP,mz,cJ]
  by_cases ht:t=d
  ·subst ht;simpa using⟨h1,h2⟩
  ·have:Nat.beq t d=false:=nt ht
   rw[this,if_neg ht];exact h t
theorem mg.raw {f:Fr} {ov:Ov} {fr:Fr} (h:mg f ov fr) (x:dQ) (hq:∀q,(eG ov fr x).1=some q→q=true):ev f x=(eG ov fr x).2:=by
 cases x with
 |t n=>
  have:=h n
  simp only[ev,eG] at hq ⊢
  split at this
  ·rename_i v he;rw[this,he]
  ·rename_i q v he;rw[he] at hq ⊢;exact this.1 (hq q rfl)
 |c v=>rfl
 |f n=>rfl
 |m nm n=>
  have:=h n
  simp only[ev,eG] at hq ⊢
  generalize mz ov fr n=x at this hq ⊢
  obtain⟨g,v⟩:=x
  have hv:cJ f n=v:=by
   cases g with
   |none=>exact this
   |some q=>
    refine this.1 (hq q ?_)
    cases v<;>rfl
  rw[hv]
  cases v<;>rfl
theorem lF {fr:Fr} {t:Nat}:∀{ov:Ov},cJ (fX ov fr) t= .any∨∃v,mz ov fr t=(none,v)∧cJ (fX ov fr) t=v
 |[]=> .inr ⟨_,rfl,rfl⟩
 |(d,none,v)::r=>by
  simp only[fX,cJ,mz]
  by_cases ht:t=d
  ·subst ht;simp
  ·have:Nat.beq t d=false:=nt ht
   rw[this,if_neg ht];exact lF
 |(d,some q,v)::r=>by
  simp only[fX,cJ,mz]
  by_cases ht:t=d
  ·subst ht;simp
  ·have:Nat.beq t d=false:=nt ht
   rw[this,if_neg ht];exact lF
abbrev Raw:=dQ→Option Bool×AV
def cn (g:Option Bool) (R:Raw) (x:dQ) (K:AV→Prop):Prop:=
 match R x with
 |(none,v)=>K v
 |(some q,v)=>dI g (q=true)∧K v
def AG (R:Raw) (x:dQ):Prop:=∀q,(R x).1=some q→q=true
theorem bw {g:Option Bool} {R:Raw} {x:dQ} {K:AV→Prop} (h:cn g R x K):(Gd g→AG R x)∧K (R x).2:=by
 unfold cn at h
 split at h
 ·rename_i v he;rw[he];exact⟨fun _ q hq=>(by rw[he] at hq;cases hq),h⟩
 ·rename_i q v he
  rw[he]
  exact⟨fun hg q' hq=>(by rw[he] at hq;cases hq;exact cG.1 h.1 hg),h.2⟩
def wH (K:List AV→Prop):Prop:=K []
def tL (g:Option Bool) (R:Raw) (x:dQ) (_:List dQ) (ih:(List AV→Prop)→Prop) (K:List AV→Prop):Prop:=cn g R x fun a=>ih fun as=>K (a::as)
noncomputable def iU (g:Option Bool) (R:Raw) (xs:List dQ):(List AV→Prop)→Prop:=List.rec (motive:=fun _=>(List AV→Prop)→Prop) wH (tL g R) xs
theorem eI {g:Option Bool} {R:Raw}:∀{xs:List dQ} {K:List AV→Prop},iU g R xs K→(Gd g→∀x∈xs,AG R x)∧K (xs.map fun x=>(R x).2)
 |[],K,h=>⟨fun _ _ h=>(by cases h),h⟩
 |x::r,K,h=>by
  obtain⟨h1,h2⟩:=bw h
  obtain⟨h3,h4⟩:=eI h2
  refine⟨fun hg y hy=> ?_,h4⟩
  rcases List.mem_cons.1 hy with rfl|hy
  ·exact h1 hg
  ·exact h3 hg y hy
theorem jR {f:Fr} {R:Raw}:∀{xs:List dQ},(∀x∈xs,ev f x=(R x).2)→nQ f xs=xs.map fun x=>(R x).2
 |[],_=>rfl
 |x::r,h=>by
  simp only[nQ,List.map_cons]
  rw[h x (by simp),jR fun y hy=>h y (by simp[hy])]
def ew (v:AV) (K:AV→Prop):Prop:=
 match v with
 | .sc v=>K (.sc v)
 | .any=>K .any
 | .im a b c=>K (.im a b c)
 | .ip a b c d e=>K (.ip a b c d e)
 | .sl a b=>K (.sl a b)
 | .pt a b c d=>K (.pt a b c d)
 | .zc=>K .zc
 | .agg a=>K (.agg a)
 | .de a=>K (.de a)
 | .fn a b c=>K (.fn a b c)
 | .ju a b=>K (.ju a b)
 | .mp a=>K (.mp a)
 | .ab=>K .ab
 | .sv a b c d=>K (.sv a b c d)
theorem eF (v:AV) (K:AV→Prop):ew v K=K v:=by cases v<;>rfl
def wL (K:List AV→Prop):Prop:=K []
def tP (a:AV) (_:List AV) (ih:(List AV→Prop)→Prop) (K:List AV→Prop):Prop:=ih fun r'=>K (a::r')
noncomputable def my (l:List AV):(List AV→Prop)→Prop:=List.rec (motive:=fun _=>(List AV→Prop)→Prop) wL tP l
theorem fq:∀(l:List AV) (K:List AV→Prop),my l K=K l
 |[],_=>rfl
 |a::r,K=>fq r fun r'=>K (a::r')
structure fI (H:Hp) (b:Nat) (K:TypeId→Nat→AV→List AV→Prop):Prop where
 ok:∃e sz d es,bd H b=some (.row e sz d es)∧K e sz d es
theorem fI.of {H:Hp} {b:Nat} {K:TypeId→Nat→AV→List AV→Prop} {e:TypeId} {sz:Nat} {d:AV} {es:List AV} (h:bd H b=some (.row e sz d es)) (k:K e sz d es):fI H b K:=⟨⟨e,sz,d,es,h,k⟩⟩
structure mf (es:List AV) (i:Nat) (d:AV) (K:AV→Prop):Prop where
 ok:K (es.getD i d)
theorem mf.of {es:List AV} {i:Nat} {d:AV} {K:AV→Prop} {e:AV} (h:es.getD i d=e) (k:K e):mf es i d K:=⟨by rw[h];exact k⟩
structure iD {α:Type} (x:Option α) (K:α→Prop):Prop where
 ok:∃a,x=some a∧K a
theorem iD.of {α:Type} {x:Option α} {K:α→Prop} {a:α} (h:x=some a) (k:K a):iD x K:=⟨⟨a,h,k⟩⟩
structure gm {α:Type} (g:Option Bool) (x:Option α) (K:α→Prop):Prop where
 ok:∃a,(Gd g→x=some a)∧K a
theorem gm.of {α:Type} {g:Option Bool} {x:Option α} {K:α→Prop} {a:α} (h:Gd g→x=some a) (k:K a):gm g x K:=⟨⟨a,h,k⟩⟩
structure nL (H:Hp) (b:Nat) (K:TypeId→AV→List AV→Prop):Prop where
 ok:∃e d es,bd H b=some (.row e 0 d (mapA es))∧K e d es
theorem nL.of {H:Hp} {b:Nat} {K:TypeId→AV→List AV→Prop} {e:TypeId} {d:AV} {es:List AV} (h:bd H b=some (.row e 0 d (mapA es))) (k:K e d es):nL H b K:=⟨⟨e,d,es,h,k⟩⟩
def yu (H:Hp) (v:AV) (K:Nat→TypeId→AV→List AV→Prop):Prop:=
 match v with
 | .mp b=>nL H b (K b)
 |_=>False
theorem jL {H:Hp} {v:AV} {K:Nat→TypeId→AV→List AV→Prop} (h:yu H v K):∃b e d es,mapOf H v=some (b,e,d,es)∧K b e d es:=by
 cases v<;>simp only[yu] at h
 obtain⟨e,d,es,h1,h2⟩:=h.ok
 exact⟨_,e,d,es,by simp only[mapOf,h1,mapA],h2⟩
structure pa (g:Option Bool) (k:IntKind) (n:Int) (K:Int→Prop):Prop where
 ok:∃m,(Gd g→k.wrap n=m)∧K m
theorem pa.of {g:Option Bool} {k:IntKind} {n:Int} {K:Int→Prop} {m:Int} (h:Gd g→k.wrap n=m) (hK:K m):pa g k n K:=⟨⟨m,h,hK⟩⟩
section
variable (g:Option Bool) (H:Hp)
def NN (ag:Bool) (k:Nat) (e:AV) (sz off:Nat) (K:AV→Prop):Prop:=
 match ag with
 |true=>match e with
  | .agg cs=>bif Nat.beq off 0&&Nat.beq k sz then K (.agg cs) else dI g (off+k≤cs.length)∧K (.agg ((cs.drop off).take k))
  |_=>False
 |false=>match e with
  | .agg cs=>mf cs off .any fun v=>ew v K
  | .any=>K .any
  |e=>bif one e then ew e K else False
def lookW (v:AV) (K:Nat→AV→Nat→Prop):Prop:=
 match v with
 | .ip sz d es i off=>mf es i d fun e=>K sz e off
 | .pt b len i off=>fI H b fun _ sz d es=>dI g (es.length=len)∧mf es i d fun e=>K sz e off
 |_=>False
def o6 (k:Nat) (v:AV) (K:List AV→Prop):Prop:=
 match v with
 | .im sz _ es=>bif Nat.beq sz k then K es else False
 | .sl b len=>fI H b fun _ sz _ es=>dI g (es.length=len∧sz=k)∧K es
 | .sc (.slice none 0 0)=>K []
 | .zc=>K []
 | .sv b len lo n=>fI H b fun _ sz _ es=>dI g (es.length=len∧sz=k)∧K ((es.drop lo).take n)
 |_=>False
noncomputable def mV (R:Raw) (id:Nat) (op:cu) (K:AV→Option (Nat×dv)→Prop):Prop:=
 match op with
 | .mv x=>cn g R x fun a=>ew a fun a=>K a none
 | .pick c a b=>cn g R c fun v=>match v with
  | .sc (.bool t)=>
   let rest:=fun(_:Unit)=>ew (mN t (R a).2 (R b).2) fun v=>K v none
   let r2:=fun(_:Unit)=>match(R b).1 with
    |none=>rest ()
    |some q=>dI g (t=false→q=true)∧rest ()
   match(R a).1 with
   |none=>r2 ()
   |some q=>dI g (t=true→q=true)∧r2 ()
  |_=>False
 | .alloc e sz ag z=>dI g (z.length=sz)∧K (.pt id 1 0 0) (some (id, .row e sz (fH ag z) [fH ag z]))
 | .box e sz ag x=>cn g R x fun v=>dI g (fits ag sz v=true)∧K (.pt id 1 0 0) (some (id, .row e sz .any [v]))
 | .KU z parts=>iU g R (parts.map (·.2.2)) fun as=>iD (nR (z.map .sc) (List.zipWith (fun p a=>(p.1,p.2.1,a)) parts as)) fun cs=>K (.agg cs) none
 | .IQ e sz ag z n parts=>iU g R (parts.map (·.2)) fun as=>
  dI g (z.length=sz∧(List.zipWith (fun p a=>(p.1,a)) parts as).all (fun p=>decide (p.1<n)&&fits ag sz p.2)=true)∧
  K (.sl id n) (some (id, .row e sz (fH ag z) ((List.zipWith (fun p a=>(p.1,a)) parts as).foldl (fun l p=>l.set p.1 p.2) (List.replicate n (fH ag z)))))
 | .ld ag k x=>cn g R x fun v=>lookW g H v fun sz e off=>NN g ag k e sz off fun r=>K r none
 | .st ag k x y=>cn g R x fun v=>cn g R y fun yv=>match v with
  | .pt b len i off=>fI H b fun e sz d es=>dI g (es.length=len)∧mf es i d fun fM=>iD (KI ag k fM yv sz off) fun e'=>K .any (some (b, .row e sz d (es.set i e')))
  |_=>False
 | .J7 x=>cn g R x fun v=>match v with
  | .pt b len i off=>K (.pt b len i off) none
  | .ip sz d es i off=>K (.ip sz d es i off) none
  | .fn (.func f) p q=>K (.fn (.func f) p q) none
  | .ju t v=>K (.ju t v) none
  |_=>False
 | .bin op x y=>cn g R x fun a=>cn g R y fun b=>match op,a,b with
  | .add, .sc (.int k a), .sc (.int k' b)=>dI g (k=k')∧pa g k (a+b) fun m=>K (.sc (.int k m)) none
  | .sub, .sc (.int k a), .sc (.int k' b)=>dI g (k=k')∧pa g k (a - b) fun m=>K (.sc (.int k m)) none
  | .mul, .sc (.int k a), .sc (.int k' b)=>dI g (k=k')∧pa g k (a * b) fun m=>K (.sc (.int k m)) none
  | .eql, .sc (.int k a), .sc (.int k' b)=>dI g (k=k')∧K (.sc (.bool (decide (a=b)))) none
  | .neq, .sc (.int k a), .sc (.int k' b)=>dI g (k=k')∧K (.sc (.bool (decide (a≠b)))) none
  | .lss, .sc (.int k a), .sc (.int k' b)=>dI g (k=k')∧K (.sc (.bool (decide (a<b)))) none
  | .leq, .sc (.int k a), .sc (.int k' b)=>dI g (k=k')∧K (.sc (.bool (decide (a≤b)))) none
  | .gtr, .sc (.int k a), .sc (.int k' b)=>dI g (k=k')∧K (.sc (.bool (decide (b<a)))) none
  | .geq, .sc (.int k a), .sc (.int k' b)=>dI g (k=k')∧K (.sc (.bool (decide (b≤a)))) none
  | .quo, .sc (.int k a), .sc (.int k' b)=>dI g (k=k'∧b≠0)∧K (.sc (.int k (k.wrap (a.tdiv b)))) none
  | .rem, .sc (.int k a), .sc (.int k' b)=>dI g (k=k'∧b≠0)∧K (.sc (.int k (a.tmod b))) none
  | .and, .sc (.int k a), .sc (.int k' b)=>dI g (k=k')∧K (.sc (.int k (k.wrap (BitVec.ofInt k.bits a&&& BitVec.ofInt k.bits b).toNat))) none
  | .or, .sc (.int k a), .sc (.int k' b)=>dI g (k=k')∧K (.sc (.int k (k.wrap (BitVec.ofInt k.bits a|||BitVec.ofInt k.bits b).toNat))) none
  | .xor, .sc (.int k a), .sc (.int k' b)=>dI g (k=k')∧K (.sc (.int k (k.wrap (BitVec.ofInt k.bits a^^^BitVec.ofInt k.bits b).toNat))) none
  | .andNot, .sc (.int k a), .sc (.int k' b)=>dI g (k=k')∧K (.sc (.int k (k.wrap (BitVec.ofInt k.bits a&&& ~~~(BitVec.ofInt k.bits b)).toNat))) none
  | .shl, .sc (.int k a), .sc (.int _ b)=>dI g (0≤b)∧K (.sc (.int k (k.wrap (a * 2^(min b.toNat k.bits))))) none
  | .shr, .sc (.int k a), .sc (.int _ b)=>dI g (0≤b)∧K (.sc (.int k (a.fdiv (2^(min b.toNat k.bits))))) none
  |_,_,_=>False
 | .KV neg x y=>cn g R x fun a=>cn g R y fun b=>match a,b with
  | .sc (.bool p), .sc (.bool q)=>(match neg with
   |true=>K (.sc (.bool (p != q))) none
   |false=>K (.sc (.bool (p==q))) none)
  |_,_=>False
 | .qS neg x y=>cn g R x fun a=>cn g R y fun b=>match a,b with
  | .sc (.string p), .sc (.string q)=>(match neg with
   |true=>K (.sc (.bool (p != q))) none
   |false=>K (.sc (.bool (p==q))) none)
  |_,_=>False
 | .zF op x y=>cn g R x fun a=>cn g R y fun b=>match a,b with
  | .sc (.string p), .sc (.string q)=>(match op with
   | .add=>dI g (p.size+q.size≤9223372036854775807)∧K (.sc (.string (p++q))) none
   | .lss=>K (.sc (.bool (Op.bytesLess p.toList q.toList))) none
   |_=>False)
  |_,_=>False
 | .FL sz ag z x=>cn g R x fun v=>match v with
  | .sv b len lo n=>fI H b fun e s d es=>dI g (es.length=len∧s=sz∧lo+n≤len)∧K (.de []) (some (b, .row e s d (es.take lo++List.replicate n (fH ag z)++es.drop (lo+n))))
  |_=>False
 | .JK x=>cn g R x fun v=>o6 g H 1 v fun xs=>gm g (jO xs) fun ns=>K (.sc (.string (H9 ns))) none
 | .un op x=>cn g R x fun a=>match op,a with
  | .not, .sc (.bool b)=>K (.sc (.bool !b)) none
  | .neg, .sc (.int k n)=>pa g k (0 - n) fun m=>K (.sc (.int k m)) none
  |_,_=>False
 | .LB k x=>cn g R x fun a=>match a with
  | .sc (.int _ n)=>pa g k n fun m=>K (.sc (.int k m)) none
  |_=>False
 | .fa off x=>cn g R x fun a=>match a with
  | .ip sz d es i o=>dI g (o+off<sz)∧K (.ip sz d es i (o+off)) none
  | .pt b len i o=>fI H b fun _ sz _ es=>dI g (es.length=len∧o+off<sz)∧K (.pt b len i (o+off)) none
  |_=>False
 | .ia k n x i=>cn g R x fun v=>cn g R i fun iv=>match iv with
  | .sc (.int _ j)=>
   (match n with
    |none=>match v with
     | .im sz d es=>dI g (k=sz)∧dI g (0≤j∧j<es.length)∧K (.ip sz d es j.toNat 0) none
     | .sl b len=>fI H b fun _ sz _ es=>dI g (es.length=len∧k=sz)∧dI g (0≤j∧j<len)∧K (.pt b len j.toNat 0) none
     | .sv b len lo m=>fI H b fun _ sz _ es=>dI g (es.length=len∧k=sz)∧dI g (0≤j∧j<m)∧K (.pt b len (lo+j.toNat) 0) none
     |_=>False
    |some m=>match v with
     | .ip sz d es i off=>dI g (off+m * k≤sz)∧dI g (0≤j∧j<m)∧K (.ip sz d es i (off+j.toNat * k)) none
     | .pt b len i off=>fI H b fun _ sz _ es=>dI g (es.length=len∧off+m * k≤sz)∧dI g (0≤j∧j<m)∧K (.pt b len i (off+j.toNat * k)) none
     |_=>False)
  |_=>False
 | .LM off k ag x=>cn g R x fun v=>match v with
  | .agg cs=>(match ag with
   |true=>dI g (off+k≤cs.length)∧K (.agg ((cs.drop off).take k)) none
   |false=>dI g (off+k≤cs.length∧k=1)∧mf cs off .any fun v=>ew v fun v=>K v none)
  |_=>False
 | .ix k ag n x i=>cn g R x fun v=>cn g R i fun iv=>match v,iv with
  | .agg cs, .sc (.int _ j)=>dI g (n * k=cs.length)∧dI g (0≤j∧j<n)∧(match ag with
   |true=>K (.agg ((cs.drop (j.toNat * k)).take k)) none
   |false=>dI g (k=1)∧mf cs (j.toNat * k) .any fun v=>ew v fun v=>K v none)
  |_,_=>False
 | .LW x i=>cn g R x fun v=>cn g R i fun iv=>match v,iv with
  | .sc (.string s), .sc (.int _ j)=>dI g (0≤j∧j<s.size)∧K (.sc (.int .u8 (s.data.toList.getD j.toNat 0).toNat)) none
  |_,_=>False
 | .lens x=>cn g R x fun v=>match v with
  | .sc (.string s)=>K (.sc (.int .i64 s.size)) none
  |_=>False
 | .J5 e sz bytes ag z l c=>cn g R l fun lv=>cn g R c fun cv=>match lv,cv with
  | .sc (.int _ n), .sc (.int _ m)=>dI g (z.length=sz∧n=m)∧dI g (0≤n∧n * bytes≤281474976710656∧n≤9223372036854775807)∧
   K (.sl id n.toNat) (some (id, .row e sz (fH ag z) (List.replicate n.toNat (fH ag z))))
  |_,_=>False
 | .ext i x=>cn g R x fun v=>match v with
  | .de vs=>dI g (i<vs.length)∧mf vs i .any fun v=>ew v fun v=>K v none
  |_=>False
 | .KZ f first caps=>iU g R first fun a=>iU g R caps fun b=>K (.fn f a b) none
 | .L3 t x=>cn g R x fun v=>K (.ju t v) none
 | .len x=>cn g R x fun v=>match v with
  | .im _ _ es=>K (.sc (.int .i64 (es.length:Int))) none
  | .sl b len=>fI H b fun _ _ _ es=>dI g (es.length=len)∧K (.sc (.int .i64 (len:Int))) none
  | .sc (.slice none 0 0)=>K (.sc (.int .i64 0)) none
  | .zc=>K (.sc (.int .i64 0)) none
  | .sv _ _ _ n=>K (.sc (.int .i64 (n:Int))) none
  |_=>False
 | .app e sz bytes ag z s x=>cn g R s fun sv=>cn g R x fun xv=>o6 g H sz xv fun xs=>dI g (z.length=sz)∧match sv with
  | .sc (.slice none 0 0)=>dI g (xs.length * bytes≤gF)∧K (.sl id xs.length) (some (id, .row e sz (fH ag z) xs))
  | .sl b len=>fI H b fun e' sz' d es=>dI g (es.length=len∧e'=e∧sz'=sz)∧dI g ((len+xs.length) * bytes≤gF)∧K (.sl b (len+xs.length)) (some (b, .row e sz d (es++xs)))
  |_=>False
 | .BH e bytes z s x=>cn g R s fun sv=>cn g R x fun xv=>match xv with
  | .sc (.string q)=>(match sv with
   | .sc (.slice none 0 0)=>dI g ((bu q).length * bytes≤gF)∧K (.sl id (bu q).length) (some (id, .row e 1 z (bu q)))
   | .sl b len=>fI H b fun e' sz' d es=>dI g (es.length=len∧e'=e∧sz'=1)∧dI g ((len+(bu q).length) * bytes≤gF)∧K (.sl b (len+(bu q).length)) (some (b, .row e 1 d (es++bu q)))
   |_=>False)
  |_=>False
 | .AE neg x=>cn g R x fun v=>match v with
  | .pt _ _ _ _=>K (.sc (.bool neg)) none
  | .ip _ _ _ _ _=>K (.sc (.bool neg)) none
  | .sc (.pointer none)=>K (.sc (.bool !neg)) none
  |_=>False
 | .ur neg x=>cn g R x fun v=>iD (pK H v) fun t=>ew (na neg t) fun v=>K v none
 | .eqs neg ks x y=>cn g R x fun a=>cn g R y fun b=>match a,b with
  | .agg as, .agg bs=>iD (wE ks as bs) fun t=>(match neg with
   |true=>K (.sc (.bool !t)) none
   |false=>K (.sc (.bool t)) none)
  |_,_=>False
 | .KD sz x lo hi=>cn g R x fun v=>iU g R (lo.toList++hi.toList) fun bs=>
  iD (pT H sz (match lo with|some _=>bs[0]?|none=>none) (match hi with|some _=>(match lo with|some _=>bs[1]?|none=>bs[0]?)|none=>none) v) fun r=>ew r fun r=>K r none
 | .FU sz x y=>cn g R x fun xv=>cn g R y fun yv=>match xv with
  | .sl b len=>o6 g H sz yv fun xs=>fI H b fun e s d es=>dI g (es.length=len∧s=sz)∧
   K (.sc (.int .i64 (Nat.min xs.length len:Nat))) (some (b, .row e s d (xs.take (Nat.min xs.length len)++es.drop (Nat.min xs.length len))))
  |_=>False
 | .call _ _=>False
 | .I0 kt=>K (.mp id) (some (id, .row kt 0 .any (mapA [])))
 | .G6 str ag z ok x k=>cn g R x fun v=>cn g R k fun kv=>match kv with
  | .sc kv=>yu H v fun _ _ _ es=>dI g (jC str kv=true)∧gm g (sH str kv es (fH ag z)) fun p=>match ok with
   |true=>K (.de [p.1, .sc (.bool p.2)]) none
   |false=>ew p.1 fun v=>K v none
  |_=>False
 | .A4 str x k y=>cn g R x fun v=>cn g R k fun kv=>cn g R y fun yv=>match kv with
  | .sc kv=>yu H v fun b e d es=>dI g (jC str kv=true)∧gm g (uo str kv es yv) fun es'=>K .any (some (b, .row e 0 d (mapA es')))
  |_=>False
 | .wW x=>cn g R x fun v=>yu H v fun _ _ _ es=>K (.sc (.int .i64 (es.length:Nat))) none
 | .del str x k=>cn g R x fun v=>cn g R k fun kv=>match kv with
  | .sc kv=>yu H v fun b e d es=>dI g (jC str kv=true)∧gm g (L1 str kv es) fun es'=>K (.de []) (some (b, .row e 0 d (mapA es')))
  |_=>False
 | .zD sz v=>K (.agg (List.replicate sz (.sc v))) none
 | .sq e sz v=>K (.pt id 1 0 0) (some (id, .row e sz (.agg (List.replicate sz (.sc v))) [.agg (List.replicate sz (.sc v))]))
 | .MC t ok ag z x=>cn g R x fun v=>match v with
  | .ju t' v=>(bif Nat.beq t' t then(match ok with
   |true=>K (.de [v, .sc (.bool true)]) none
   |false=>ew v fun v=>K v none) else(match ok with
   |true=>K (.de [fH ag z, .sc (.bool false)]) none
   |false=>False))
  |_=>False
end
theorem xj {f:Fr} {R:Raw}:∀{ps:List (Nat×Nat×dQ)},(∀x∈ps.map (·.2.2),ev f x=(R x).2)→IV f ps=List.zipWith (fun p a=>(p.1,p.2.1,a)) ps ((ps.map (·.2.2)).map fun x=>(R x).2)
 |[],_=>rfl
 |(i,j,x)::ps,h=>by
  simp only[IV,List.map_cons,List.zipWith_cons_cons]
  rw[h x (by simp),xj fun y hy=>h y (by simp only[List.map_cons,List.mem_cons];exact .inr hy)]
theorem xl {f:Fr} {R:Raw}:∀{ps:List (Nat×dQ)},(∀x∈ps.map (·.2),ev f x=(R x).2)→xk f ps=List.zipWith (fun p a=>(p.1,a)) ps ((ps.map (·.2)).map fun x=>(R x).2)
 |[],_=>rfl
 |(i,x)::ps,h=>by
  simp only[xk,List.map_cons,List.zipWith_cons_cons]
  rw[h x (by simp),xl fun y hy=>h y (by simp only[List.map_cons,List.mem_cons];exact .inr hy)]
theorem zn {g:Option Bool} {ag:Bool} {k:Nat} {e:AV} {sz off:Nat} {K:AV→Prop} (h:NN g ag k e sz off K):∃r,K r∧(Gd g→tq ag k e sz off=some r):=by
 unfold NN at h
 cases ag with
 |true=>
  simp only at h
  cases e
  case agg cs=>
   simp only at h
   by_cases hb:off=0∧k=sz
   ·have hb':(Nat.beq off 0&&Nat.beq k sz)=true:=by
     obtain⟨rfl,rfl⟩:=hb;simp
    rw[hb'] at h
    exact⟨_,h,fun _=>by simp[tq,hb.1,hb.2]⟩
   ·have hb':(Nat.beq off 0&&Nat.beq k sz)=false:=by
     cases hc:(Nat.beq off 0&&Nat.beq k sz) with
     |false=>rfl
     |true=>
      rw[Bool.and_eq_true] at hc
      exact absurd ⟨Nat.eq_of_beq_eq_true hc.1,Nat.eq_of_beq_eq_true hc.2⟩ hb
    rw[hb'] at h
    simp only[cond_false] at h
    refine⟨_,h.2,fun hg=> ?_⟩
    have h1:=cG.1 h.1 hg
    simp only[tq,if_true]
    rw[if_neg hb,if_pos h1]
  all_goals exact h.elim
 |false=>
  have gen:∀e:AV,(bif one e then ew e K else False)→(tq false k e sz off=if one e then some e else none)→∃r,K r∧(Gd g→tq false k e sz off=some r):=by
   intro e h1 h2
   cases ho:one e with
   |true=>rw[ho,cond_true,eF] at h1;exact⟨_,h1,fun _=>by rw[h2,ho];rfl⟩
   |false=>rw[ho] at h1;exact h1.elim
  cases e
  case agg cs=>
   simp only at h
   have:=h.ok
   rw[eF] at this
   exact⟨_,this,fun _=>by simp[tq]⟩
  case any=>exact⟨_,h,fun _=>by simp[tq]⟩
  all_goals exact gen _ h rfl
theorem ue {g:Option Bool} {H:Hp} {v:AV} {K:Nat→AV→Nat→Prop} (h:lookW g H v K):∃sz e off,K sz e off∧(Gd g→iL H v=some (sz,e,off)):=by
 unfold lookW at h
 split at h
 ·exact⟨_,_,_,h.ok,fun _=>rfl⟩
 ·obtain⟨e,sz,d,es,h1,h2,h3⟩:=h.ok
  refine⟨_,_,_,h3.ok,fun hg=> ?_⟩
  simp only[iL,h1]
  rw[if_pos (cG.1 h2 hg)]
 ·exact h.elim
theorem jQ {g:Option Bool} {H:Hp} {k:Nat} {v:AV} {K:List AV→Prop} (h:o6 g H k v K):∃es,K es∧(Gd g→fT H v=some es∧vO H k v=true):=by
 unfold o6 at h
 split at h
 ·rename_i sz d es
  cases hb:Nat.beq sz k with
  |true=>rw[hb] at h;exact⟨_,h,fun _=>⟨rfl,by simpa[vO] using hb⟩⟩
  |false=>rw[hb] at h;exact h.elim
 ·obtain⟨e,sz,d,es,h1,h2,h3⟩:=h.ok
  refine⟨_,h3,fun hg=> ?_⟩
  obtain⟨g1,g2⟩:=cG.1 h2 hg
  simp[fT,vO,h1,g1,g2]
 ·exact⟨_,h,fun _=>⟨rfl,rfl⟩⟩
 ·exact⟨_,h,fun _=>⟨rfl,rfl⟩⟩
 ·obtain⟨e,sz,d,es,h1,h2,h3⟩:=h.ok
  refine⟨_,h3,fun hg=> ?_⟩
  obtain⟨g1,g2⟩:=cG.1 h2 hg
  simp[fT,vO,h1,g1,g2]
 ·exact h.elim
set_option maxHeartbeats 4000000 in
theorem iQ {g:Option Bool} {H:Hp} {R:Raw} {id:Nat} {op:cu} {K:AV→Option (Nat×dv)→Prop} (h:mV g H R id op K):
 ∃r u,K r u∧(Gd g→(op.rd=true→∀x∈op.dX,AG R x)∧∀f,(∀x,AG R x→ev f x=(R x).2)→bk id f H op=some (r,u)):=by
 cases op
 case mv x=>
  obtain⟨h1,h2⟩:=bw h
  rw[eF] at h2
  exact⟨_,_,h2,fun hg=>⟨fun hr=>by simp[cu.rd] at hr,fun f hf=>by simp only[bk,hf x (h1 hg)]⟩⟩
 case pick c a b=>
  obtain⟨h1,h2⟩:=bw h
  split at h2
  ·rename_i t ht
   simp only[eF] at h2
   have key:∀{q:Option Bool} {p:Prop} {A:Prop},(match q with|none=>A|some q=>dI g (p→q=true)∧A)→A∧(Gd g→p→∀q',q=some q'→q'=true):=by
    intro q p A h
    cases q with
    |none=>exact⟨h,fun _ _ _ hq=>by cases hq⟩
    |some q=>exact⟨h.2,fun hg hp q' hq=>by cases hq;exact cG.1 h.1 hg hp⟩
   obtain⟨h3,ha⟩:=key h2
   obtain⟨h4,hb⟩:=key h3
   refine⟨_,_,h4,fun hg=>⟨fun hr=>by simp[cu.rd] at hr,fun f hf=> ?_⟩⟩
   simp only[bk,hf c (h1 hg),ht]
   congr 2
   cases t with
   |true=>rw[pN,pN,hf a (ha hg rfl)]
   |false=>rw[nY,nY,hf b (hb hg rfl)]
  ·exact h2.elim
 case alloc e sz ag z=>
  refine⟨_,_,h.2,fun hg=>⟨fun hr=>by simp[cu.rd] at hr,fun f hf=> ?_⟩⟩
  simp only[bk];rw[if_pos (cG.1 h.1 hg)]
 case box e sz ag x=>
  obtain⟨h1,h2⟩:=bw h
  refine⟨_,_,h2.2,fun hg=>⟨fun hr=>by simp[cu.rd] at hr,fun f hf=> ?_⟩⟩
  simp only[bk,hf x (h1 hg)];rw[if_pos (cG.1 h2.1 hg)]
 case KU z ps=>
  obtain⟨h1,h2⟩:=eI h
  obtain⟨cs,h3,h4⟩:=h2.ok
  refine⟨_,_,h4,fun hg=>⟨fun hr=>by simp[cu.rd] at hr,fun f hf=> ?_⟩⟩
  simp only[bk]
  rw[xj (R:=R) fun x hx=>hf x (h1 hg x hx),h3]
 case IQ e sz ag z n ps=>
  obtain⟨h1,h2⟩:=eI h
  refine⟨_,_,h2.2,fun hg=>⟨fun hr=>by simp[cu.rd] at hr,fun f hf=> ?_⟩⟩
  have h3:=cG.1 h2.1 hg
  simp only[bk]
  rw[xl (R:=R) fun x hx=>hf x (h1 hg x hx),if_pos h3]
 case ld ag k x=>
  obtain⟨h1,h2⟩:=bw h
  obtain⟨sz,e,off,h3,h4⟩:=ue h2
  obtain⟨r,h5,h6⟩:=zn h3
  refine⟨_,_,h5,fun hg=>⟨fun _ y hy=>by simp[cu.dX] at hy;subst hy;exact h1 hg,fun f hf=> ?_⟩⟩
  simp only[bk,hf x (h1 hg),h4 hg,h6 hg,Option.map_some]
 case st ag k x y=>
  obtain⟨h1,h2⟩:=bw h
  obtain⟨h3,h4⟩:=bw h2
  split at h4
  ·rename_i b len i off hx
   obtain⟨e,sz,d,es,g1,g2,g3⟩:=h4.ok
   obtain⟨e',g4,g5⟩:=g3.ok.ok
   refine⟨_,_,g5,fun hg=>⟨fun _ z hz=>by simp[cu.dX] at hz;rcases hz with rfl|rfl;exact h1 hg;exact h3 hg,fun f hf=> ?_⟩⟩
   simp only[bk,hf x (h1 hg),hf y (h3 hg),hx,g1,g4]
   rw[if_pos (cG.1 g2 hg)]
  ·exact h4.elim
 case J7 x=>
  obtain⟨h1,h2⟩:=bw h
  split at h2
  all_goals first
   |exact h2.elim
   |(rename_i hx;exact⟨_,_,h2,fun hg=>⟨fun hr=>by simp[cu.rd] at hr,fun f hf=>by simp only[bk,hf x (h1 hg),hx]⟩⟩)
 case bin op x y=>
  obtain⟨h1,h2⟩:=bw h
  obtain⟨h3,h4⟩:=bw h2
  split at h4
  all_goals first
   |exact h4.elim
   |(rename_i hx hy;obtain⟨q1,q2⟩:=h4;obtain⟨m,q3,q4⟩:=q2.ok;refine⟨_,_,q4,fun hg=>⟨fun hr=>by simp[cu.rd] at hr,fun f hf=> ?_⟩⟩;simp only[bk,hf x (h1 hg),hf y (h3 hg),hx,hy,zC];rw[if_pos (cG.1 q1 hg),q3 hg];rfl)
   |(rename_i hx hy;refine⟨_,_,h4.2,fun hg=>⟨fun hr=>by simp[cu.rd] at hr,fun f hf=> ?_⟩⟩;simp only[bk,hf x (h1 hg),hf y (h3 hg),hx,hy,zC];rw[if_pos (cG.1 h4.1 hg)];rfl)
 case KV neg x y=>
  obtain⟨h1,h2⟩:=bw h
  obtain⟨h3,h4⟩:=bw h2
  split at h4
  ·rename_i p q hx hy
   cases neg
   all_goals exact⟨_,_,h4,fun hg=>⟨fun hr=>by simp[cu.rd] at hr,fun f hf=>by simp[bk,hf x (h1 hg),hf y (h3 hg),hx,hy]⟩⟩
  ·exact h4.elim
 case qS neg x y=>
  obtain⟨h1,h2⟩:=bw h
  obtain⟨h3,h4⟩:=bw h2
  split at h4
  ·rename_i p q hx hy
   cases neg
   all_goals exact⟨_,_,h4,fun hg=>⟨fun hr=>by simp[cu.rd] at hr,fun f hf=>by simp[bk,hf x (h1 hg),hf y (h3 hg),hx,hy]⟩⟩
  ·exact h4.elim
 case zF op x y=>
  obtain⟨h1,h2⟩:=bw h
  obtain⟨h3,h4⟩:=bw h2
  split at h4
  ·rename_i p q hx hy
   cases op
   case add=>exact⟨_,_,h4.2,fun hg=>⟨fun hr=>by simp[cu.rd] at hr,fun f hf=>by simp only[bk,hf x (h1 hg),hf y (h3 hg),hx,hy,ES];rw[if_pos (cG.1 h4.1 hg)];rfl⟩⟩
   case lss=>exact⟨_,_,h4,fun hg=>⟨fun hr=>by simp[cu.rd] at hr,fun f hf=>by simp only[bk,hf x (h1 hg),hf y (h3 hg),hx,hy,ES];rfl⟩⟩
   all_goals exact h4.elim
  ·exact h4.elim
 case FL sz ag z x=>
  obtain⟨h1,h2⟩:=bw h
  split at h2
  ·rename_i b len lo n hx
   obtain⟨e,s,d,es,q1,q2,q3⟩:=h2.ok
   exact⟨_,_,q3,fun hg=>⟨fun hr y hy=>by simp[cu.dX] at hy;subst hy;exact h1 hg,fun f hf=>by
    simp only[bk,hf x (h1 hg),hx,q1];rw[if_pos (cG.1 q2 hg)]⟩⟩
  ·exact h2.elim
 case JK x=>
  obtain⟨h1,h2⟩:=bw h
  obtain⟨xs,h3,h4⟩:=jQ h2
  obtain⟨ns,h5,h6⟩:=h3.ok
  exact⟨_,_,h6,fun hg=>⟨fun hr y hy=>by simp[cu.dX] at hy;subst hy;exact h1 hg,fun f hf=>by
   obtain⟨q1,q2⟩:=h4 hg
   simp only[bk,hf x (h1 hg),q1,q2,if_true,h5 hg,Option.map_some]⟩⟩
 case un op x=>
  obtain⟨h1,h2⟩:=bw h
  split at h2
  all_goals first
   |exact h2.elim
   |(rename_i hx;obtain⟨m,q3,q4⟩:=h2.ok;exact⟨_,_,q4,fun hg=>⟨fun hr=>by simp[cu.rd] at hr,fun f hf=>by simp only[bk,hf x (h1 hg),hx,MG,Option.map_some,q3 hg]⟩⟩)
   |(rename_i hx;exact⟨_,_,h2,fun hg=>⟨fun hr=>by simp[cu.rd] at hr,fun f hf=>by simp only[bk,hf x (h1 hg),hx,MG,Option.map_some]⟩⟩)
 case LB k x=>
  obtain⟨h1,h2⟩:=bw h
  split at h2
  all_goals first
   |exact h2.elim
   |(rename_i hx;obtain⟨m,q3,q4⟩:=h2.ok;exact⟨_,_,q4,fun hg=>⟨fun hr=>by simp[cu.rd] at hr,fun f hf=>by simp only[bk,hf x (h1 hg),hx,q3 hg]⟩⟩)
 case fa off x=>
  obtain⟨h1,h2⟩:=bw h
  have hr:Gd g→((cu.fa off x).rd=true→∀y∈(cu.fa off x).dX,AG R y):=fun hg _ y hy=>by simp[cu.dX] at hy;subst hy;exact h1 hg
  split at h2
  ·rename_i hx
   refine⟨_,_,h2.2,fun hg=>⟨hr hg,fun f hf=> ?_⟩⟩
   simp only[bk,hf x (h1 hg),hx];rw[if_pos (cG.1 h2.1 hg)]
  ·rename_i hx
   obtain⟨e,sz,d,es,g1,g2,g3⟩:=h2.ok
   refine⟨_,_,g3,fun hg=>⟨hr hg,fun f hf=> ?_⟩⟩
   simp only[bk,hf x (h1 hg),hx,g1];rw[if_pos (cG.1 g2 hg)]
  ·exact h2.elim
 case ia k n x i=>
  obtain⟨h1,h2⟩:=bw h
  obtain⟨h3,h4⟩:=bw h2
  have hr:Gd g→((cu.ia k n x i).rd=true→∀y∈(cu.ia k n x i).dX,AG R y):=fun hg _ y hy=>by simp[cu.dX] at hy;rcases hy with rfl|rfl;exact h1 hg;exact h3 hg
  split at h4
  ·rename_i kk j hi
   cases n with
   |none=>
    simp only at h4
    split at h4
    ·rename_i hx
     refine⟨_,_,h4.2.2,fun hg=>⟨hr hg,fun f hf=> ?_⟩⟩
     simp only[bk,hf x (h1 hg),hf i (h3 hg),hx,hi,A3]
     rw[if_pos ⟨cG.1 h4.1 hg,cG.1 h4.2.1 hg⟩];rfl
    ·rename_i hx
     obtain⟨e,sz,d,es,g1,g2,g3,g4⟩:=h4.ok
     refine⟨_,_,g4,fun hg=>⟨hr hg,fun f hf=> ?_⟩⟩
     obtain⟨q1,q2⟩:=cG.1 g2 hg
     simp only[bk,hf x (h1 hg),hf i (h3 hg),hx,hi,A3,g1]
     rw[if_pos ⟨q1,q2,cG.1 g3 hg⟩];rfl
    ·rename_i hx
     obtain⟨e,sz,d,es,g1,g2,g3,g4⟩:=h4.ok
     refine⟨_,_,g4,fun hg=>⟨hr hg,fun f hf=> ?_⟩⟩
     obtain⟨q1,q2⟩:=cG.1 g2 hg
     simp only[bk,hf x (h1 hg),hf i (h3 hg),hx,hi,A3,g1]
     rw[if_pos ⟨q1,q2,cG.1 g3 hg⟩];rfl
    ·exact h4.elim
   |some m=>
    simp only at h4
    split at h4
    ·rename_i hx
     refine⟨_,_,h4.2.2,fun hg=>⟨hr hg,fun f hf=> ?_⟩⟩
     simp only[bk,hf x (h1 hg),hf i (h3 hg),hx,hi,A3]
     rw[if_pos ⟨cG.1 h4.1 hg,cG.1 h4.2.1 hg⟩];rfl
    ·rename_i hx
     obtain⟨e,sz,d,es,g1,g2,g3,g4⟩:=h4.ok
     refine⟨_,_,g4,fun hg=>⟨hr hg,fun f hf=> ?_⟩⟩
     obtain⟨q1,q2⟩:=cG.1 g2 hg
     simp only[bk,hf x (h1 hg),hf i (h3 hg),hx,hi,A3,g1]
     rw[if_pos ⟨q1,q2,cG.1 g3 hg⟩];rfl
    ·exact h4.elim
  ·exact h4.elim
 case LM off k ag x=>
  obtain⟨h1,h2⟩:=bw h
  split at h2
  ·rename_i cs hx
   cases ag with
   |true=>
    refine⟨_,_,h2.2,fun hg=>⟨fun hr=>by simp[cu.rd] at hr,fun f hf=> ?_⟩⟩
    simp only[bk,hf x (h1 hg),hx,if_true];rw[if_pos (cG.1 h2.1 hg)]
   |false=>
    have h3:=h2.2.ok
    rw[eF] at h3
    refine⟨_,_,h3,fun hg=>⟨fun hr=>by simp[cu.rd] at hr,fun f hf=> ?_⟩⟩
    obtain⟨q1,q2⟩:=cG.1 h2.1 hg
    simp only[bk,hf x (h1 hg),hx,Bool.false_eq_true,if_false];rw[if_pos q1,if_pos q2]
  ·exact h2.elim
 case ix k ag n x i=>
  obtain⟨h1,h2⟩:=bw h
  obtain⟨h3,h4⟩:=bw h2
  split at h4
  ·rename_i cs kk j hx hi
   obtain⟨p1,p2,p3⟩:=h4
   cases ag with
   |true=>
    refine⟨_,_,p3,fun hg=>⟨fun hr=>by simp[cu.rd] at hr,fun f hf=> ?_⟩⟩
    have q2:=cG.1 p2 hg
    simp only[bk,hf x (h1 hg),hf i (h3 hg),hx,hi,if_true];rw[if_pos ⟨q2.1,q2.2,cG.1 p1 hg⟩]
   |false=>
    have h5:=p3.2.ok
    rw[eF] at h5
    refine⟨_,_,h5,fun hg=>⟨fun hr=>by simp[cu.rd] at hr,fun f hf=> ?_⟩⟩
    have q2:=cG.1 p2 hg
    simp only[bk,hf x (h1 hg),hf i (h3 hg),hx,hi,Bool.false_eq_true,if_false];rw[if_pos ⟨q2.1,q2.2,cG.1 p1 hg⟩,if_pos (cG.1 p3.1 hg)]
  ·exact h4.elim
 case LW x i=>
  obtain⟨h1,h2⟩:=bw h
  obtain⟨h3,h4⟩:=bw h2
  split at h4
  ·rename_i hx hi
   refine⟨_,_,h4.2,fun hg=>⟨fun hr=>by simp[cu.rd] at hr,fun f hf=> ?_⟩⟩
   simp only[bk,hf x (h1 hg),hf i (h3 hg),hx,hi];rw[if_pos (cG.1 h4.1 hg)]
  ·exact h4.elim
 case lens x=>
  obtain⟨h1,h2⟩:=bw h
  split at h2
  all_goals first
   |exact h2.elim
   |(rename_i hx;exact⟨_,_,h2,fun hg=>⟨fun hr=>by simp[cu.rd] at hr,fun f hf=>by simp only[bk,hf x (h1 hg),hx]⟩⟩)
 case J5 e sz bytes ag z l c=>
  obtain⟨h1,h2⟩:=bw h
  obtain⟨h3,h4⟩:=bw h2
  split at h4
  ·rename_i hx hi
   refine⟨_,_,h4.2.2,fun hg=>⟨fun hr=>by simp[cu.rd] at hr,fun f hf=> ?_⟩⟩
   obtain⟨q1,q2⟩:=cG.1 h4.1 hg
   obtain⟨q3,q4,q5⟩:=cG.1 h4.2.1 hg
   simp only[bk,hf l (h1 hg),hf c (h3 hg),hx,hi];rw[if_pos ⟨q1,q3,q2,q4,q5⟩]
  ·exact h4.elim
 case ext i x=>
  obtain⟨h1,h2⟩:=bw h
  split at h2
  ·rename_i hx
   have h3:=h2.2.ok
   rw[eF] at h3
   refine⟨_,_,h3,fun hg=>⟨fun hr=>by simp[cu.rd] at hr,fun f hf=> ?_⟩⟩
   simp only[bk,hf x (h1 hg),hx];rw[if_pos (cG.1 h2.1 hg)]
  ·exact h2.elim
 case KZ fn first caps=>
  obtain⟨h1,h2⟩:=eI h
  obtain⟨h3,h4⟩:=eI h2
  refine⟨_,_,h4,fun hg=>⟨fun hr=>by simp[cu.rd] at hr,fun f hf=> ?_⟩⟩
  simp only[bk]
  rw[jR (R:=R) fun x hx=>hf x (h1 hg x hx),jR (R:=R) fun x hx=>hf x (h3 hg x hx)]
 case L3 t x=>
  obtain⟨h1,h2⟩:=bw h
  exact⟨_,_,h2,fun hg=>⟨fun hr=>by simp[cu.rd] at hr,fun f hf=>by simp only[bk,hf x (h1 hg)]⟩⟩
 case len x=>
  obtain⟨h1,h2⟩:=bw h
  have hr:Gd g→((cu.len x).rd=true→∀y∈(cu.len x).dX,AG R y):=fun hg _ y hy=>by simp[cu.dX] at hy;subst hy;exact h1 hg
  split at h2
  ·rename_i hx;exact⟨_,_,h2,fun hg=>⟨hr hg,fun f hf=>by simp only[bk,hf x (h1 hg),hx,pE]⟩⟩
  ·rename_i hx
   obtain⟨e,sz,d,es,g1,g2,g3⟩:=h2.ok
   refine⟨_,_,g3,fun hg=>⟨hr hg,fun f hf=> ?_⟩⟩
   simp only[bk,hf x (h1 hg),hx,pE,g1];rw[if_pos (cG.1 g2 hg)]
  ·rename_i hx;exact⟨_,_,h2,fun hg=>⟨hr hg,fun f hf=>by simp[bk,hf x (h1 hg),hx,pE]⟩⟩
  ·rename_i hx;exact⟨_,_,h2,fun hg=>⟨hr hg,fun f hf=>by simp[bk,hf x (h1 hg),hx,pE]⟩⟩
  ·rename_i hx;exact⟨_,_,h2,fun hg=>⟨hr hg,fun f hf=>by simp only[bk,hf x (h1 hg),hx,pE]⟩⟩
  ·exact h2.elim
 case app e sz bytes ag z s x=>
  obtain⟨h1,h2⟩:=bw h
  obtain⟨h3,h4⟩:=bw h2
  obtain⟨xs,⟨h5,h5'⟩,h6⟩:=jQ h4
  have hr:Gd g→((cu.app e sz bytes ag z s x).rd=true→∀y∈(cu.app e sz bytes ag z s x).dX,AG R y):=fun hg _ y hy=>by simp[cu.dX] at hy;rcases hy with rfl|rfl;exact h1 hg;exact h3 hg
  split at h5'
  ·rename_i hx
   refine⟨_,_,h5'.2,fun hg=>⟨hr hg,fun f hf=> ?_⟩⟩
   obtain⟨q1,q2⟩:=h6 hg
   simp only[bk,hf s (h1 hg),hf x (h3 hg),hx,q1];rw[if_pos ⟨q2,cG.1 h5 hg⟩,if_pos (cG.1 h5'.1 hg)]
  ·rename_i hx
   obtain⟨e',sz',d,es,g1,g2,g3,g4⟩:=h5'.ok
   refine⟨_,_,g4,fun hg=>⟨hr hg,fun f hf=> ?_⟩⟩
   obtain⟨q1,q2⟩:=h6 hg
   obtain⟨q3,q4,q5⟩:=cG.1 g2 hg
   simp only[bk,hf s (h1 hg),hf x (h3 hg),hx,q1,g1];rw[if_pos ⟨q2,cG.1 h5 hg⟩,if_pos ⟨q3,q4,q5,cG.1 g3 hg⟩]
  ·exact h5'.elim
 case BH e bytes z s x=>
  obtain⟨h1,h2⟩:=bw h
  obtain⟨h3,h4⟩:=bw h2
  have hr:Gd g→((cu.BH e bytes z s x).rd=true→∀y∈(cu.BH e bytes z s x).dX,AG R y):=fun hg _ y hy=>by simp[cu.dX] at hy;rcases hy with rfl|rfl;exact h1 hg;exact h3 hg
  split at h4
  ·rename_i q hq
   split at h4
   ·rename_i hx
    refine⟨_,_,h4.2,fun hg=>⟨hr hg,fun f hf=> ?_⟩⟩
    simp only[bk,hf s (h1 hg),hf x (h3 hg),hx,hq];rw[if_pos (cG.1 h4.1 hg)]
   ·rename_i hx
    obtain⟨e',sz',d,es,g1,g2,g3,g4⟩:=h4.ok
    refine⟨_,_,g4,fun hg=>⟨hr hg,fun f hf=> ?_⟩⟩
    obtain⟨q3,q4,q5⟩:=cG.1 g2 hg
    simp only[bk,hf s (h1 hg),hf x (h3 hg),hx,hq,g1];rw[if_pos ⟨q3,q4,q5,cG.1 g3 hg⟩]
   ·exact h4.elim
  ·exact h4.elim
 case AE neg x=>
  obtain⟨h1,h2⟩:=bw h
  split at h2
  all_goals first
   |exact h2.elim
   |(rename_i hx;exact⟨_,_,h2,fun hg=>⟨fun hr=>by simp[cu.rd] at hr,fun f hf=>by simp only[bk,hf x (h1 hg),hx]⟩⟩)
 case ur neg x=>
  obtain⟨h1,h2⟩:=bw h
  obtain⟨t,h3,h4⟩:=h2.ok
  rw[eF] at h4
  refine⟨_,_,h4,fun hg=>⟨fun _ y hy=>by simp[cu.dX] at hy;subst hy;exact h1 hg,fun f hf=> ?_⟩⟩
  simp only[bk,hf x (h1 hg),h3]
 case eqs neg ks x y=>
  obtain⟨h1,h2⟩:=bw h
  obtain⟨h3,h4⟩:=bw h2
  split at h4
  ·rename_i hx hy
   obtain⟨t,g1,g2⟩:=h4.ok
   cases neg
   all_goals exact⟨_,_,g2,fun hg=>⟨fun hr=>by simp[cu.rd] at hr,fun f hf=>by simp[bk,hf x (h1 hg),hf y (h3 hg),hx,hy,g1]⟩⟩
  ·exact h4.elim
 case KD sz x lo hi=>
  obtain⟨h1,h2⟩:=bw h
  obtain⟨h3,h4⟩:=eI h2
  obtain⟨r,g1,g2⟩:=h4.ok
  rw[eF] at g2
  refine⟨_,_,g2,fun hg=>⟨fun _ y hy=> ?_,fun f hf=> ?_⟩⟩
  ·simp only[cu.dX,List.mem_append,List.mem_singleton] at hy
   rcases hy with(rfl|hy)|hy
   ·exact h1 hg
   ·exact h3 hg y (by simp only[List.mem_append];exact .inl hy)
   ·exact h3 hg y (by simp only[List.mem_append];exact .inr hy)
  ·simp only[bk,hf x (h1 hg)]
   have e1:∀y∈lo.toList++hi.toList,ev f y=(R y).2:=fun y hy=>hf y (h3 hg y hy)
   cases lo<;>cases hi<;>simp_all
 case FU sz x y=>
  obtain⟨h1,h2⟩:=bw h
  obtain⟨h3,h4⟩:=bw h2
  split at h4
  ·rename_i b len hx
   obtain⟨xs,h5,h6⟩:=jQ h4
   obtain⟨e,s,d,es,g1,g2,g3⟩:=h5.ok
   refine⟨_,_,g3,fun hg=>⟨fun _ z hz=>by simp[cu.dX] at hz;rcases hz with rfl|rfl;exact h1 hg;exact h3 hg,fun f hf=> ?_⟩⟩
   obtain⟨q1,q2⟩:=h6 hg
   obtain⟨q3,q4⟩:=cG.1 g2 hg
   simp only[bk,hf x (h1 hg),hf y (h3 hg),hx,q1,g1];rw[if_pos ⟨q3,q4,q2⟩]
  ·exact h4.elim
 case call f as=>exact h.elim
 case I0 kt=>exact⟨_,_,h,fun hg=>⟨fun hr=>by simp[cu.rd] at hr,fun f hf=>rfl⟩⟩
 case zD sz v=>exact⟨_,_,h,fun hg=>⟨fun hr=>by simp[cu.rd] at hr,fun f hf=>rfl⟩⟩
 case sq e sz v=>exact⟨_,_,h,fun hg=>⟨fun hr=>by simp[cu.rd] at hr,fun f hf=>rfl⟩⟩
 case wW x=>
  obtain⟨h1,h2⟩:=bw h
  obtain⟨b,e,d,es,h3,h4⟩:=jL h2
  exact⟨_,_,h4,fun hg=>⟨fun _ y hy=>by simp[cu.dX] at hy;subst hy;exact h1 hg,fun f hf=>by simp only[bk,hf x (h1 hg),h3]⟩⟩
 case G6 str ag z ok x k=>
  obtain⟨h1,h2⟩:=bw h
  obtain⟨h3,h4⟩:=bw h2
  have hr:Gd g→((cu.G6 str ag z ok x k).rd=true→∀y∈(cu.G6 str ag z ok x k).dX,AG R y):=fun hg _ y hy=>by simp[cu.dX] at hy;rcases hy with rfl|rfl;exact h1 hg;exact h3 hg
  split at h4
  ·rename_i kv hk
   obtain⟨b,e,d,es,h5,h6,h7⟩:=jL h4
   obtain⟨p,h8,h9⟩:=h7.ok
   cases ok with
   |true=>
    refine⟨_,_,h9,fun hg=>⟨hr hg,fun f hf=> ?_⟩⟩
    have h10:=h8 hg
    unfold sH at h10
    simp only[bk,hf x (h1 hg),hf k (h3 hg),h5,hk]
    rw[if_pos (cG.1 h6 hg)]
    split at h10<;>simp only[Option.some.injEq,reduceCtorEq] at h10
    ·subst h10;simp_all
    ·subst h10;simp_all
   |false=>
    simp only[eF] at h9
    refine⟨_,_,h9,fun hg=>⟨hr hg,fun f hf=> ?_⟩⟩
    have h10:=h8 hg
    unfold sH at h10
    simp only[bk,hf x (h1 hg),hf k (h3 hg),h5,hk]
    rw[if_pos (cG.1 h6 hg)]
    split at h10<;>simp only[Option.some.injEq,reduceCtorEq] at h10
    ·subst h10;simp_all
    ·subst h10;simp_all
  ·exact h4.elim
 case A4 str x k y=>
  obtain⟨h1,h2⟩:=bw h
  obtain⟨h3,h4⟩:=bw h2
  obtain⟨h3',h4'⟩:=bw h4
  have hr:Gd g→((cu.A4 str x k y).rd=true→∀w∈(cu.A4 str x k y).dX,AG R w):=fun hg _ w hy=>by simp[cu.dX] at hy;rcases hy with rfl|rfl|rfl;exact h1 hg;exact h3 hg;exact h3' hg
  split at h4'
  ·rename_i kv hk
   obtain⟨b,e,d,es,h5,h6,h7⟩:=jL h4'
   obtain⟨p,h8,h9⟩:=h7.ok
   refine⟨_,_,h9,fun hg=>⟨hr hg,fun f hf=> ?_⟩⟩
   have h10:=h8 hg
   unfold uo at h10
   simp only[bk,hf x (h1 hg),hf k (h3 hg),hf y (h3' hg),h5,hk]
   rw[if_pos (cG.1 h6 hg)]
   split at h10<;>simp only[Option.some.injEq,reduceCtorEq] at h10
   ·subst h10;simp_all[vY]
   ·subst h10;simp_all[vY]
  ·exact h4'.elim
 case del str x k=>
  obtain⟨h1,h2⟩:=bw h
  obtain⟨h3,h4⟩:=bw h2
  have hr:Gd g→((cu.del str x k).rd=true→∀y∈(cu.del str x k).dX,AG R y):=fun hg _ y hy=>by simp[cu.dX] at hy;rcases hy with rfl|rfl;exact h1 hg;exact h3 hg
  split at h4
  ·rename_i kv hk
   obtain⟨b,e,d,es,h5,h6,h7⟩:=jL h4
   obtain⟨p,h8,h9⟩:=h7.ok
   refine⟨_,_,h9,fun hg=>⟨hr hg,fun f hf=> ?_⟩⟩
   have h10:=h8 hg
   unfold L1 at h10
   simp only[bk,hf x (h1 hg),hf k (h3 hg),h5,hk]
   rw[if_pos (cG.1 h6 hg)]
   split at h10<;>simp only[Option.some.injEq,reduceCtorEq] at h10
   ·subst h10;simp_all
   ·subst h10;simp_all
  ·exact h4.elim
 case MC t ok ag z x=>
  obtain⟨h1,h2⟩:=bw h
  split at h2
  ·rename_i t' v hx
   cases hb:Nat.beq t' t with
   |true=>
    rw[hb] at h2
    have e:=Nat.eq_of_beq_eq_true hb
    cases ok with
    |true=>
     simp only[cond_true] at h2
     exact⟨_,_,h2,fun hg=>⟨fun hr=>by simp[cu.rd] at hr,fun f hf=>by simp only[bk,hf x (h1 hg),hx];rw[if_pos e];rfl⟩⟩
    |false=>
     simp only[cond_true,eF] at h2
     exact⟨_,_,h2,fun hg=>⟨fun hr=>by simp[cu.rd] at hr,fun f hf=>by simp only[bk,hf x (h1 hg),hx];rw[if_pos e];rfl⟩⟩
   |false=>
    rw[hb] at h2
    have e:¬t'=t:=fun e=>by rw[e] at hb;simp at hb
    cases ok with
    |true=>
     simp only[cond_false] at h2
     exact⟨_,_,h2,fun hg=>⟨fun hr=>by simp[cu.rd] at hr,fun f hf=>by simp only[bk,hf x (h1 hg),hx];rw[if_neg e];rfl⟩⟩
    |false=>exact h2.elim
  ·exact h2.elim
end Go.cQ
/- Code as a whole, run by reduction alone; it is so. -/
namespace Go.cQ
open Go.RowKit
structure eL (t:Bool) (A B:Prop):Prop where
 ok:(t=true→A)∧(t=false→B)
theorem eL.lt {A B:Prop} (h:A):eL true A B:=⟨⟨fun _=>h,fun h=>(by cases h)⟩⟩
theorem eL.lf {A B:Prop} (h:B):eL false A B:=⟨⟨fun h=>(by cases h),fun _=>h⟩⟩
theorem eL.of {t:Bool} {A B:Prop} (h1:t=true→A) (h2:t=false→B):eL t A B:=⟨⟨h1,h2⟩⟩
structure dh (t want:Bool) (A B J:Prop):Prop where
 ok:((t=want→A)∧(t≠want→B))∨J
theorem dh.tt {A B J:Prop} (h:A):dh true true A B J:=⟨.inl ⟨fun _=>h,fun h=>absurd rfl h⟩⟩
theorem dh.join {t want:Bool} {A B J:Prop} (h:J):dh t want A B J:=⟨.inr h⟩
theorem dh.split {t want:Bool} {A B J:Prop} (h1:t=want→A) (h2:t= !want→B):dh t want A B J:=⟨.inl ⟨h1,fun h=>h2 (by cases t<;>cases want<;>simp_all)⟩⟩
structure fx (P:Program) (f:FuncId) (args:List AV) (H:Hp) (nx:Nat) (K:AV→Hp→Nat→Prop):Prop where
 ok:cD P f args H nx K
structure lX (P:Program) (g:Bool) (f:FuncId) (args:List AV) (H:Hp) (nx:Nat) (K:AV→Prop):Prop where
 ok:∃r,(g=true→∀(K':AV→Hp→Nat→Prop),K' r H (nx+1)→cD P f args H nx K')∧K r
structure j4 (P:Program) (id:Nat) (f:FuncId) (args:List AV) (H:Hp) (K:AV→Option (Nat×dv)→List Nat→Prop):Prop where
 ok:∃r u S,kd P id (.fn (.func f) [] []) args H r u S∧K r u S
structure K3 (P:Program) (t:TypeId) (v:AV) (nm:String) (args:List AV) (H:Hp) (nx:Nat) (K:AV→Hp→Nat→Prop):Prop where
 ok:qC P t v nm args H nx K
structure qB (P:Program) (g:Bool) (id:Nat) (f:FuncId) (args:List AV) (H:Hp) (K:AV→List Nat→Prop):Prop where
 ok:∃r S,(g=true→kd P id (.fn (.func f) [] []) args H r none S)∧K r S
theorem Pure.JN {P:Program} {f:FuncId} {args:List AV} {R:AV→Prop} {H:Hp} {nx:Nat} {K:AV→Hp→Nat→Prop} (h:Pure P f args R) (hf:cN 0 args) (hK:∀r,R r→K r H (nx+1)):cD P f args H nx K:=by
 have:=h.cj (H:=H) (nx:=nx) (K:=fun r H' n=>∃n',n≤n'∧K r H' n') hf fun r hr=>⟨_,Nat.le_succ _,hK r hr⟩
 refine⟨this.1,fun w0 c vs a1 a2 a3 a4=>(this.2 w0 c vs a1 a2 a3 a4).mono ?_⟩
 rintro e w' ⟨v,r,H',nx',ρ,U,he,⟨n',hn,hR⟩,hU,hrest⟩
 exact⟨v,r,H',n',ρ,U,he,hR,fun b hb=>Nat.lt_of_lt_of_le (hU b hb) hn,hrest⟩
theorem fx.pure {P:Program} {f:FuncId} {args:List AV} {R:AV→Prop} {H:Hp} {nx:Nat} {K:AV→Hp→Nat→Prop} (h:Pure P f args R) (hf:cN 0 args) (hK:∀r,R r→K r H nx):fx P f args H nx K:=⟨h.cj hf hK⟩
theorem fx.E8 {P:Program} {f:FuncId} {args:List AV} {r:AV} {H:Hp} {nx:Nat} {K:AV→Hp→Nat→Prop} (h:Pure P f args (fun x=>x=r)) (hf:cN 0 args) (hK:K r H nx):fx P f args H nx K:=⟨h.cj hf fun x hx=>by rw[hx];exact hK⟩
theorem fx.of {P:Program} {f:FuncId} {args:List AV} {H:Hp} {nx:Nat} {R K:AV→Hp→Nat→Prop} (h:cD P f args H nx R) (hK:∀r H' nx',R r H' nx'→K r H' nx'):fx P f args H nx K:=⟨h.mono hK⟩
theorem lX.E8 {P:Program} {g:Bool} {f:FuncId} {args:List AV} {r:AV} {H:Hp} {nx:Nat} {K:AV→Prop} (h:g=true→Pure P f args (fun x=>x=r)) (hf:cN 0 args) (hK:K r):lX P g f args H nx K:=
 ⟨⟨r,fun hg K' hK'=>(h hg).JN hf fun x hx=>by rw[hx];exact hK',hK⟩⟩
theorem j4.E8 {P:Program} {id:Nat} {f:FuncId} {args:List AV} {H:Hp} {r:AV} {K:AV→Option (Nat×dv)→List Nat→Prop} (h:Pure P f args (fun x=>x=r)) (hf:cN 0 args) (hK:K r none []):j4 P id f args H K:=
 ⟨⟨r,none,[],Pure.EC (by simpa using hf) (by simpa using h),hK⟩⟩
theorem qB.E8 {P:Program} {g:Bool} {id:Nat} {f:FuncId} {args:List AV} {H:Hp} {r:AV} {K:AV→List Nat→Prop} (h:g=true→Pure P f args (fun x=>x=r)) (hf:cN 0 args) (hK:K r []):qB P g id f args H K:=
 ⟨⟨r,[],fun hg=>Pure.EC (by simpa using hf) (by simpa using h hg),hK⟩⟩
theorem j4.fresh {P:Program} {id:Nat} {f:FuncId} {args:List AV} {H:Hp} {r:AV} {u:Option (Nat×dv)} (S:List Nat) {K:AV→Option (Nat×dv)→List Nat→Prop}
 (h:∀H1,(∀b∈S,bd H1 b=bd H b)→lW P f args H1 id (fun r' H'=>r'=r∧H'=cr H1 u)) (hu:∀b q,u=some (b,q)→b=id) (hK:K r u S):j4 P id f args H K:=
 ⟨⟨r,u,S,⟨by simpa using h,hu⟩,hK⟩⟩
section
variable (P:Program)
noncomputable def sh (nx:Nat) (R:Raw) (H:Hp) (op:cu) (K:AV→Hp→Nat→Prop):Prop:=
 match op with
 | .call f args=>cn none R f fun fv=>iU none R args fun as=>match fv with
  | .fn (.func g) first caps=>my (first++as++caps) fun as=>fx P g as H nx K
  | .fn (.method nm) [.ju t v] []=>my as fun as=>K3 P t v nm as H nx K
  |_=>False
 |op=>mV none H R nx op fun r u=>K r (cr H u) (nx+1)
noncomputable def jg (nx:Nat) (g:Bool) (R:Raw) (H:Hp) (op:cu) (K:AV→Prop):Prop:=
 match op with
 | .call f args=>cn (some g) R f fun fv=>iU (some g) R args fun as=>match fv with
  | .fn (.func q) first caps=>my (first++as++caps) fun as=>lX P g q as H nx K
  |_=>False
 |op=>mV (some g) H R nx op fun r u=>match u with
  |none=>K r
  |some _=>False
abbrev x7:=Nat→Ov→Fr→Hp→(Ov→Hp→Nat→Prop)→Prop
def sj (nx:Nat) (ov:Ov) (_:Fr) (H:Hp) (K:Ov→Hp→Nat→Prop):Prop:=K ov H nx
noncomputable def mi (g:fE) (_:List fE) (ih:x7) (nx:Nat) (ov:Ov) (fr:Fr) (H:Hp) (K:Ov→Hp→Nat→Prop):Prop:=match g.guard with
 |none=>sh P nx (eG ov fr) H g.op fun r H' nx'=>ih nx' (fP ov g.dst none r) fr H' K
 |some (d,want)=>match mz ov fr d with
  |(none, .sc (.bool t))=>dh t want (sh P nx (eG ov fr) H g.op fun r H' nx'=>ih nx' (fP ov g.dst none r) fr H' K) (ih (nx+1) (fP ov g.dst none (.sc undef)) fr H K)
   (match want with
    |true=>jg P nx t (eG ov fr) H g.op fun r=>ih (nx+1) (fP ov g.dst (some t) r) fr H K
    |false=>jg P nx (!t) (eG ov fr) H g.op fun r=>ih (nx+1) (fP ov g.dst (some !t) r) fr H K)
  |(some q, .sc (.bool t))=>(match want with
   |true=>jg P nx (q&&t) (eG ov fr) H g.op fun r=>ih (nx+1) (fP ov g.dst (some (q&&t)) r) fr H K
   |false=>jg P nx (q&& !t) (eG ov fr) H g.op fun r=>ih (nx+1) (fP ov g.dst (some (q&& !t)) r) fr H K)
  |(none, .sc (.tuple _))=>ih (nx+1) (fP ov g.dst none (.sc undef)) fr H K
  |_=>False
noncomputable def yy (nx:Nat) (gs:List fE) (ov:Ov) (fr:Fr) (H:Hp) (K:Ov→Hp→Nat→Prop):Prop:=List.rec (motive:=fun _=>x7) sj (mi P) gs nx ov fr H K
def zk (R:Raw) (op:cu):List Nat:=if op.rd then op.dX.flatMap (fun x=>fu (R x).2) else[]
noncomputable def kx (id:Nat) (R:Raw) (H:Hp) (op:cu) (K:AV→Option (Nat×dv)→List Nat→Prop):Prop:=
 match op with
 | .call f args=>cn none R f fun fv=>iU none R args fun as=>match fv with
  | .fn (.func g) first caps=>my (first++as++caps) fun as=>j4 P id g as H K
  |_=>False
 |op=>mV none H R id op fun r u=>K r u (zk R op)
noncomputable def gE (id:Nat) (g:Bool) (R:Raw) (H:Hp) (op:cu) (K:AV→List Nat→Prop):Prop:=
 match op with
 | .call f args=>cn (some g) R f fun fv=>iU (some g) R args fun as=>match fv with
  | .fn (.func q) first caps=>my (first++as++caps) fun as=>qB P g id q as H K
  |_=>False
 |op=>mV (some g) H R id op fun r u=>match u with
  |none=>K r (zk R op)
  |some _=>False
abbrev MQ:=Nat→Ov→Fr→Hp→Tr→(Ov→Hp→Tr→Prop)→Prop
def A8 (_:Nat) (ov:Ov) (_:Fr) (H:Hp) (tr:Tr) (K:Ov→Hp→Tr→Prop):Prop:=K ov H tr
noncomputable def l5 (g:fE) (_:List fE) (ih:MQ) (id:Nat) (ov:Ov) (fr:Fr) (H:Hp) (tr:Tr) (K:Ov→Hp→Tr→Prop):Prop:=match g.guard with
 |none=>kx P id (eG ov fr) H g.op fun r u S=>ih (id+1) (fP ov g.dst none r) fr (cr H u) (tr++[(S,u.map (·.1))]) K
 |some (d,want)=>match mz ov fr d with
  |(none, .sc (.bool t))=>dh t want (kx P id (eG ov fr) H g.op fun r u S=>ih (id+1) (fP ov g.dst none r) fr (cr H u) (tr++[(S,u.map (·.1))]) K) (ih (id+1) (fP ov g.dst none (.sc undef)) fr H (tr++[([],none)]) K)
   (match want with
    |true=>gE P id t (eG ov fr) H g.op fun r S=>ih (id+1) (fP ov g.dst (some t) r) fr H (tr++[(S,none)]) K
    |false=>gE P id (!t) (eG ov fr) H g.op fun r S=>ih (id+1) (fP ov g.dst (some !t) r) fr H (tr++[(S,none)]) K)
  |(some q, .sc (.bool t))=>(match want with
   |true=>gE P id (q&&t) (eG ov fr) H g.op fun r S=>ih (id+1) (fP ov g.dst (some (q&&t)) r) fr H (tr++[(S,none)]) K
   |false=>gE P id (q&& !t) (eG ov fr) H g.op fun r S=>ih (id+1) (fP ov g.dst (some (q&& !t)) r) fr H (tr++[(S,none)]) K)
  |(none, .sc (.tuple _))=>ih (id+1) (fP ov g.dst none (.sc undef)) fr H (tr++[([],none)]) K
  |_=>False
noncomputable def WD (id:Nat) (gs:List fE) (ov:Ov) (fr:Fr) (H:Hp) (tr:Tr) (K:Ov→Hp→Tr→Prop):Prop:=List.rec (motive:=fun _=>MQ) A8 (l5 P) gs id ov fr H tr K
noncomputable def J8 (S:List Nat):(List Nat→Prop)→Prop:=List.rec (motive:=fun _=>(List Nat→Prop)→Prop) (fun K=>K []) (fun b _ ih K=>ih fun S'=>K (b::S')) S
theorem pL:∀(S:List Nat) (K:List Nat→Prop),J8 S K=K S
 |[],_=>rfl
 |b::S,K=>pL S fun S'=>K (b::S')
def uW (u:Option (Nat×dv)) (K:Option Nat→Prop):Prop:=match u with
 |none=>K none
 |some (b,_)=>K (some b)
theorem MF (u:Option (Nat×dv)) (K:Option Nat→Prop):uW u K=K (u.map (·.1)):=by
 cases u<;>rfl
noncomputable def rK (g:fE) (_:List fE) (ih:MQ) (id:Nat) (ov:Ov) (fr:Fr) (H:Hp) (tr:Tr) (K:Ov→Hp→Tr→Prop):Prop:=match g.guard with
 |none=>kx P id (eG ov fr) H g.op fun r u S=>J8 S fun S=>uW u fun x=>ih (id+1) (fP ov g.dst none r) fr (cr H u) ((S,x)::tr) K
 |some (d,want)=>match mz ov fr d with
  |(none, .sc (.bool t))=>dh t want (kx P id (eG ov fr) H g.op fun r u S=>J8 S fun S=>uW u fun x=>ih (id+1) (fP ov g.dst none r) fr (cr H u) ((S,x)::tr) K) (ih (id+1) (fP ov g.dst none (.sc undef)) fr H (([],none)::tr) K)
   (match want with
    |true=>gE P id t (eG ov fr) H g.op fun r S=>J8 S fun S=>ih (id+1) (fP ov g.dst (some t) r) fr H ((S,none)::tr) K
    |false=>gE P id (!t) (eG ov fr) H g.op fun r S=>J8 S fun S=>ih (id+1) (fP ov g.dst (some !t) r) fr H ((S,none)::tr) K)
  |(some q, .sc (.bool t))=>(match want with
   |true=>gE P id (q&&t) (eG ov fr) H g.op fun r S=>J8 S fun S=>ih (id+1) (fP ov g.dst (some (q&&t)) r) fr H ((S,none)::tr) K
   |false=>gE P id (q&& !t) (eG ov fr) H g.op fun r S=>J8 S fun S=>ih (id+1) (fP ov g.dst (some (q&& !t)) r) fr H ((S,none)::tr) K)
  |(none, .sc (.tuple _))=>ih (id+1) (fP ov g.dst none (.sc undef)) fr H (([],none)::tr) K
  |_=>False
noncomputable def WE (id:Nat) (gs:List fE) (ov:Ov) (fr:Fr) (H:Hp) (tr:Tr) (K:Ov→Hp→Tr→Prop):Prop:=List.rec (motive:=fun _=>MQ) A8 (rK P) gs id ov fr H tr K
theorem sg:∀(gs:List fE) (id:Nat) (ov:Ov) (fr:Fr) (H:Hp) (tr:Tr) (K:Ov→Hp→Tr→Prop),WE P id gs ov fr H tr K=WD P id gs ov fr H tr.reverse fun ov H t=>K ov H t.reverse
 |[],id,ov,fr,H,tr,K=>by
  show K ov H tr=K ov H tr.reverse.reverse
  rw[List.reverse_reverse]
 |g::gs,id,ov,fr,H,tr,K=>by
  have ih:=sg gs
  show rK P g gs (fun id ov fr H tr K=>WE P id gs ov fr H tr K) id ov fr H tr K=l5 P g gs (fun id ov fr H tr K=>WD P id gs ov fr H tr K) id ov fr H tr.reverse fun ov H t=>K ov H t.reverse
  simp only[rK,l5,pL,MF,ih,List.reverse_cons]
noncomputable def FD (s:nf) (_:List nf) (ih:x7) (nx:Nat) (ov:Ov) (fr:Fr) (H:Hp) (K:Ov→Hp→Nat→Prop):Prop:=match s.ops with
 |[g]=>yy P nx [g] ov fr H fun ov' H' nx'=>ih nx' ov' fr H' K
 |gs=>WE P nx gs ov fr H [] fun ov' H' tr=>(match s.ps with
  |[]=>ih (nx+gs.length) ov' fr H' K
  |p::ps=>Ask (fp tr.reverse (p::ps))∧ih (nx+gs.length) ov' fr H' K)
noncomputable def WS (nx:Nat) (segs:List nf) (ov:Ov) (fr:Fr) (H:Hp) (K:Ov→Hp→Nat→Prop):Prop:=List.rec (motive:=fun _=>x7) sj (FD P) segs nx ov fr H K
structure fy (n lo:Nat) (x:LC) (fr:Fr) (H:Hp) (nx:Nat) (Q:QT):Prop where
 ok:WL P n lo (.loop x) fr H nx Q
abbrev WT:=Fr→Hp→Nat→QT→Prop
def JE (fr:Fr) (H:Hp) (nx:Nat) (Q:QT):Prop:=Q .normal fr H nx
noncomputable def A9 (gs:List fE) (fr:Fr) (H:Hp) (nx:Nat) (Q:QT):Prop:=yy P nx gs [] fr H fun ov H' nx'=>Q .normal (fX ov fr) H' nx'
structure ef (segs:List nf) (fr:Fr) (H:Hp) (nx:Nat) (Q:QT):Prop where
 ok:∀n lo,WL P n lo (.drawn segs) fr H nx Q
def FF (segs:List nf) (fr:Fr) (H:Hp) (nx:Nat) (Q:QT):Prop:=ef P segs fr H nx Q
def K5 (_ _:LC) (ia ib:WT) (fr:Fr) (H:Hp) (nx:Nat) (Q:QT):Prop:=ia fr H nx (hP (fun fr H nx=>ib fr H nx Q) Q)
def vg (c:dQ) (_ _:LC) (ia ib:WT) (fr:Fr) (H:Hp) (nx:Nat) (Q:QT):Prop:=match ev fr c with
 | .sc (.bool t)=>eL t (ia fr H nx Q) (ib fr H nx Q)
 | .ab=>ia fr H nx Q∧ib fr H nx Q
 |_=>False
def FE (id:Nat) (_:LC) (ia:WT) (fr:Fr) (H:Hp) (nx:Nat) (Q:QT):Prop:=ia fr H nx (rZ id Q)
def JD (n lo:Nat) (a:LC) (_:WT) (fr:Fr) (H:Hp) (nx:Nat) (Q:QT):Prop:=fy P n lo a fr H nx Q
def JC (id:Nat) (fr:Fr) (H:Hp) (nx:Nat) (Q:QT):Prop:=Q (.exit id) fr H nx
def K4 (fr:Fr) (H:Hp) (nx:Nat) (Q:QT):Prop:=Q .ret fr H nx
noncomputable def W (n lo:Nat) (lc:LC):WT:=LC.rec (motive:=fun _=>WT) JE (A9 P) (FF P) K5 vg FE (JD P n lo) JC K4 lc
end
section
variable {P:Program}
theorem nO {nx:Nat} {ov:Ov} {f fr:Fr} {H:Hp} {op:cu} {K:AV→Hp→Nat→Prop} (hF:mg f ov fr) (h:sh P nx (eG ov fr) H op K):dD P nx f H op K:=by
 by_cases hc:∃g as,op= .call g as
 ·obtain⟨fo,as,rfl⟩:=hc
  simp only[sh] at h
  obtain⟨h1,h2⟩:=bw h
  obtain⟨h3,h4⟩:=eI h2
  simp only[dD]
  rw[hF.raw fo (h1 trivial),jR (R:=eG ov fr) fun x hx=>hF.raw x (h3 trivial x hx)]
  split at h4
  ·rename_i he
   rw[he]
   rw[fq] at h4
   exact h4.ok
  ·rename_i he
   rw[he]
   rw[fq] at h4
   exact h4.ok
  ·exact h4.elim
 ·have e1:sh P nx (eG ov fr) H op K=mV none H (eG ov fr) nx op fun r u=>K r (cr H u) (nx+1):=by cases op<;>first|rfl|exact absurd ⟨_,_,rfl⟩ hc
  have e2:dD P nx f H op K=iC (bk nx f H op) fun p=>K p.1 (cr H p.2) (nx+1):=by cases op<;>first|rfl|exact absurd ⟨_,_,rfl⟩ hc
  rw[e1] at h
  obtain⟨r,u,h1,h2⟩:=iQ h
  rw[e2,(h2 trivial).2 f fun x hx=>hF.raw x hx]
  exact h1
theorem rO {nx:Nat} {g:Bool} {ov:Ov} {fr:Fr} {H:Hp} {op:cu} {K:AV→Prop} (h:jg P nx g (eG ov fr) H op K):
 ∃r,K r∧(g=true→∀f,mg f ov fr→∀K':AV→Hp→Nat→Prop,K' r H (nx+1)→dD P nx f H op K'):=by
 by_cases hc:∃g as,op= .call g as
 ·obtain⟨fo,as,rfl⟩:=hc
  simp only[jg] at h
  obtain⟨h1,h2⟩:=bw h
  obtain⟨h3,h4⟩:=eI h2
  split at h4
  ·rename_i he
   rw[fq] at h4
   obtain⟨r,h5,h6⟩:=h4.ok
   refine⟨r,h6,fun hg f hF K' hK'=> ?_⟩
   simp only[dD]
   rw[hF.raw fo (h1 hg),jR (R:=eG ov fr) fun x hx=>hF.raw x (h3 hg x hx),he]
   exact h5 hg K' hK'
  ·exact h4.elim
 ·have e1:jg P nx g (eG ov fr) H op K=mV (some g) H (eG ov fr) nx op fun r u=>match u with|none=>K r|some _=>False:=by cases op<;>first|rfl|exact absurd ⟨_,_,rfl⟩ hc
  rw[e1] at h
  obtain⟨r,u,h1,h2⟩:=iQ h
  cases u with
  |some p=>exact h1.elim
  |none=>
   refine⟨r,h1,fun hg f hF K' hK'=> ?_⟩
   have e2:dD P nx f H op K'=iC (bk nx f H op) fun p=>K' p.1 (cr H p.2) (nx+1):=by cases op<;>first|rfl|exact absurd ⟨_,_,rfl⟩ hc
   rw[e2,(h2 hg).2 f fun x hx=>hF.raw x hx]
   exact hK'
theorem eU:∀{gs:List fE} {nx:Nat} {ov:Ov} {f fr:Fr} {H:Hp} {K:Ov→Hp→Nat→Prop},mg f ov fr→yy P nx gs ov fr H K→dy P nx gs f H (fun f1 H1 nx1=>∃ov1,mg f1 ov1 fr∧K ov1 H1 nx1)
 |[],nx,ov,f,fr,H,K,hF,h=>⟨ov,hF,h⟩
 |g::gs,nx,ov,f,fr,H,K,hF,h=>by
  have join:∀{q t:Bool} {d:Nat} {want:Bool},g.guard=some (d,want)→(q=true→cJ f d= .sc (.bool t))→(q=false→cJ f d= .sc undef)→∀{gg:Bool},(gg=true↔(q=true∧t=want))→
   (jg P nx gg (eG ov fr) H g.op fun r=>yy P (nx+1) gs (fP ov g.dst (some gg) r) fr H K)→dy P nx (g::gs) f H (fun f1 H1 nx1=>∃ov1,mg f1 ov1 fr∧K ov1 H1 nx1):=by
   intro q t d want hg hq1 hq2 gg hgg hJ
   obtain⟨r,h1,h2⟩:=rO hJ
   simp only[dy,hg,cp]
   cases q with
   |true=>
    simp only[hq1 rfl]
    by_cases ht:t=want
    ·rw[if_pos ht]
     have hgt:=hgg.2 ⟨rfl,ht⟩
     exact h2 hgt f hF _ (eU (hF.pO g.dst (u:=r) (fun _=>rfl) fun h=>by rw[hgt] at h;cases h) h1)
    ·rw[if_neg ht]
     have hgf:gg=false:=by cases hgg':gg<;>simp_all
     exact eU (hF.pO g.dst (u:= .sc undef) (fun h=>by rw[hgf] at h;cases h) fun _=>rfl) h1
   |false=>
    simp only[hq2 rfl]
    have hgf:gg=false:=by cases hgg':gg<;>simp_all
    have:=eU (hF.pO g.dst (u:= .sc undef) (q:=gg) (fun h=>by rw[hgf] at h;cases h) fun _=>rfl) h1
    exact this
  have h:mi P g gs (fun nx ov fr H K=>yy P nx gs ov fr H K) nx ov fr H K:=h
  simp only[mi] at h
  split at h
  ·rename_i hg
   simp only[dy,hg,cp]
   exact(nO hF h).mono fun r H' nx' hh=>eU (hF.put g.dst r) hh
  ·rename_i d want hg
   have hd:=hF d
   split at h
   ·rename_i t he
    rw[he] at hd
    simp only at hd
    rcases h.ok with⟨hA,hB⟩|hJ
    ·simp only[dy,hg,cp,hd]
     by_cases ht:t=want
     ·rw[if_pos ht]
      exact(nO hF (hA ht)).mono fun r H' nx' hh=>eU (hF.put g.dst r) hh
     ·rw[if_neg ht]
      exact eU (hF.put g.dst _) (hB ht)
    ·cases want with
     |true=>exact join (q:=true) hg (fun _=>hd) (fun h=>by cases h) (gg:=t) (by simp) hJ
     |false=>exact join (q:=true) hg (fun _=>hd) (fun h=>by cases h) (gg:= !t) (by simp) hJ
   ·rename_i q t he
    rw[he] at hd
    simp only at hd
    cases want with
    |true=>exact join hg hd.1 hd.2 (gg:=q&&t) (by simp) h
    |false=>exact join hg hd.1 hd.2 (gg:=q&& !t) (by simp) h
   ·rename_i v he
    rw[he] at hd
    simp only at hd
    simp only[dy,hg,cp,hd]
    exact eU (hF.put g.dst _) h
   ·exact h.elim
def yw:Tr→Tr→Prop
 |[],[]=>True
 |a::r,b::s=>(∀x∈a.1,x∈b.1)∧a.2=b.2∧yw r s
 |_,_=>False
theorem yw.snoc {a b:List Nat} {u:Option Nat} (h1:∀x∈a,x∈b):∀{r s:Tr},yw r s→yw (r++[(a,u)]) (s++[(b,u)])
 |[],[],_=>⟨h1,rfl,trivial⟩
 |x::r,y::s,h=>⟨h.1,h.2.1,yw.snoc h1 h.2.2⟩
 |[],_::_,h=>h.elim
 |_::_,[],h=>h.elim
theorem yw.get:∀{r s:Tr},yw r s→∀k,(∀x∈(r.getD k ([],none)).1,x∈(s.getD k ([],none)).1)∧(r.getD k ([],none)).2=(s.getD k ([],none)).2
 |[],[],_,k=>by simp
 |x::r,y::s,h,0=>⟨h.1,h.2.1⟩
 |x::r,y::s,h,k+1=>by simpa using yw.get h.2.2 k
 |[],_::_,h,_=>h.elim
 |_::_,[],h,_=>h.elim
theorem yw.zN {r s:Tr} (h:yw r s) {ps:List (Nat×Nat)} (hf:fp s ps):fp r ps:=by
 intro p hp
 obtain⟨h1,h2,h3⟩:=hf p hp
 obtain⟨a1,a2⟩:=h.get p.1
 obtain⟨b1,b2⟩:=h.get p.2
 exact⟨fun b hb hm=>h1 b (by rw[←a2];exact hb) (b1 b hm),fun b hb hm=>h2 b (by rw[←b2];exact hb) (a1 b hm),fun b hb=>h3 b ⟨by rw[←a2];exact hb.1,by rw[←b2];exact hb.2⟩⟩
theorem xq {ov:Ov} {f fr:Fr} {op:cu} (hF:mg f ov fr) (h:op.rd=true→∀y∈op.dX,AG (eG ov fr) y):∀x∈dj f op,x∈zk (eG ov fr) op:=by
 intro x hx
 unfold dj at hx
 unfold zk
 split at hx
 ·rename_i hr
  rw[if_pos hr]
  obtain⟨y,hy,hm⟩:=List.mem_flatMap.1 hx
  exact List.mem_flatMap.2 ⟨y,hy,by rw[←hF.raw y (h hr y hy)];exact hm⟩
 ·cases hx
theorem l6 {id:Nat} {ov:Ov} {fr:Fr} {H:Hp} {op:cu} {K:AV→Option (Nat×dv)→List Nat→Prop} (h:kx P id (eG ov fr) H op K) {f:Fr} (hF:mg f ov fr):
 iE P id f H op (fun r u S'=>∃S,(∀x∈S',x∈S)∧K r u S):=by
 by_cases hc:∃g as,op= .call g as
 ·obtain⟨fo,as,rfl⟩:=hc
  simp only[kx] at h
  obtain⟨h1,h2⟩:=bw h
  obtain⟨h3,h4⟩:=eI h2
  split at h4
  ·rename_i he
   rw[fq] at h4
   obtain⟨r,u,S,h5,h6⟩:=h4.ok
   refine⟨r,u,S, ?_,S,fun _ h=>h,h6⟩
   rw[hF.raw fo (h1 trivial),jR (R:=eG ov fr) fun x hx=>hF.raw x (h3 trivial x hx),he]
   simpa[kd] using h5
  ·exact h4.elim
 ·have e1:kx P id (eG ov fr) H op K=mV none H (eG ov fr) id op fun r u=>K r u (zk (eG ov fr) op):=by cases op<;>first|rfl|exact absurd ⟨_,_,rfl⟩ hc
  rw[e1] at h
  obtain⟨r,u,h1,h2⟩:=iQ h
  obtain⟨h3,h4⟩:=h2 trivial
  have e2:∀K',iE P id f H op K'=iC (bk id f H op) fun p=>K' p.1 p.2 (dj f op):=by intro K';cases op<;>first|rfl|exact absurd ⟨_,_,rfl⟩ hc
  rw[e2,h4 f fun x hx=>hF.raw x hx]
  exact⟨_,xq hF h3,h1⟩
theorem rN {id:Nat} {g:Bool} {ov:Ov} {fr:Fr} {H:Hp} {op:cu} {K:AV→List Nat→Prop} (h:gE P id g (eG ov fr) H op K):
 ∃r S,K r S∧(g=true→∀f,mg f ov fr→∀K':AV→Option (Nat×dv)→List Nat→Prop,(∀S',(∀x∈S',x∈S)→K' r none S')→iE P id f H op K'):=by
 by_cases hc:∃g as,op= .call g as
 ·obtain⟨fo,as,rfl⟩:=hc
  simp only[gE] at h
  obtain⟨h1,h2⟩:=bw h
  obtain⟨h3,h4⟩:=eI h2
  split at h4
  ·rename_i he
   rw[fq] at h4
   obtain⟨r,S,h5,h6⟩:=h4.ok
   refine⟨r,S,h6,fun hg f hF K' hK'=>⟨r,none,S, ?_,hK' S fun _ h=>h⟩⟩
   rw[hF.raw fo (h1 hg),jR (R:=eG ov fr) fun x hx=>hF.raw x (h3 hg x hx),he]
   simpa[kd] using h5 hg
  ·exact h4.elim
 ·have e1:gE P id g (eG ov fr) H op K=mV (some g) H (eG ov fr) id op fun r u=>match u with|none=>K r (zk (eG ov fr) op)|some _=>False:=by cases op<;>first|rfl|exact absurd ⟨_,_,rfl⟩ hc
  rw[e1] at h
  obtain⟨r,u,h1,h2⟩:=iQ h
  cases u with
  |some p=>exact h1.elim
  |none=>
   refine⟨r,_,h1,fun hg f hF K' hK'=> ?_⟩
   obtain⟨h3,h4⟩:=h2 hg
   have e2:iE P id f H op K'=iC (bk id f H op) fun p=>K' p.1 p.2 (dj f op):=by cases op<;>first|rfl|exact absurd ⟨_,_,rfl⟩ hc
   rw[e2,h4 f fun x hx=>hF.raw x hx]
   exact hK' _ (xq hF h3)
theorem eh:∀{gs:List fE} {id:Nat} {ov:Ov} {f fr:Fr} {H:Hp} {tr tr':Tr} {K:Ov→Hp→Tr→Prop},mg f ov fr→yw tr' tr→WD P id gs ov fr H tr K→fk P id gs f H tr' (fun f1 H1 tr1=>∃ov1 trj,mg f1 ov1 fr∧yw tr1 trj∧K ov1 H1 trj)
 |[],id,ov,f,fr,H,tr,tr',K,hF,hT,h=>⟨ov,tr,hF,hT,h⟩
 |g::gs,id,ov,f,fr,H,tr,tr',K,hF,hT,h=>by
  have join:∀{q t:Bool} {d:Nat} {want:Bool},g.guard=some (d,want)→(q=true→cJ f d= .sc (.bool t))→(q=false→cJ f d= .sc undef)→∀{gg:Bool},(gg=true↔(q=true∧t=want))→
   (gE P id gg (eG ov fr) H g.op fun r S=>WD P (id+1) gs (fP ov g.dst (some gg) r) fr H (tr++[(S,none)]) K)→fk P id (g::gs) f H tr' (fun f1 H1 tr1=>∃ov1 trj,mg f1 ov1 fr∧yw tr1 trj∧K ov1 H1 trj):=by
   intro q t d want hg hq1 hq2 gg hgg hJ
   obtain⟨r,S,h1,h2⟩:=rN hJ
   simp only[fk,hg,cp]
   cases q with
   |true=>
    simp only[hq1 rfl]
    by_cases ht:t=want
    ·rw[if_pos ht]
     have hgt:=hgg.2 ⟨rfl,ht⟩
     refine h2 hgt f hF _ fun S' hS=> ?_
     exact eh (hF.pO g.dst (u:=r) (fun _=>rfl) fun h=>by rw[hgt] at h;cases h) (hT.snoc hS) h1
    ·rw[if_neg ht]
     have hgf:gg=false:=by cases hgg':gg<;>simp_all
     exact eh (hF.pO g.dst (u:= .sc undef) (fun h=>by rw[hgf] at h;cases h) fun _=>rfl) (hT.snoc (a:=[]) (b:=S) (fun _ h=>by cases h)) h1
   |false=>
    simp only[hq2 rfl]
    have hgf:gg=false:=by cases hgg':gg<;>simp_all
    have:=eh (hF.pO g.dst (u:= .sc undef) (q:=gg) (fun h=>by rw[hgf] at h;cases h) fun _=>rfl) (hT.snoc (a:=[]) (b:=S) (fun _ h=>by cases h)) h1
    exact this
  have h:l5 P g gs (fun id ov fr H tr K=>WD P id gs ov fr H tr K) id ov fr H tr K:=h
  simp only[l5] at h
  split at h
  ·rename_i hg
   simp only[fk,hg,cp]
   refine(l6 h hF).mono ?_
   rintro r u S' ⟨S,hS,hh⟩
   exact eh (hF.put g.dst r) (hT.snoc hS) hh
  ·rename_i d want hg
   have hd:=hF d
   split at h
   ·rename_i t he
    rw[he] at hd
    simp only at hd
    rcases h.ok with⟨hA,hB⟩|hJ
    ·simp only[fk,hg,cp,hd]
     by_cases ht:t=want
     ·rw[if_pos ht]
      refine(l6 (hA ht) hF).mono ?_
      rintro r u S' ⟨S,hS,hh⟩
      exact eh (hF.put g.dst r) (hT.snoc hS) hh
     ·rw[if_neg ht]
      exact eh (hF.put g.dst _) (hT.snoc (a:=[]) (b:=[]) (fun _ h=>h)) (hB ht)
    ·cases want with
     |true=>exact join (q:=true) hg (fun _=>hd) (fun h=>by cases h) (gg:=t) (by simp) hJ
     |false=>exact join (q:=true) hg (fun _=>hd) (fun h=>by cases h) (gg:= !t) (by simp) hJ
   ·rename_i q t he
    rw[he] at hd
    simp only at hd
    cases want with
    |true=>exact join hg hd.1 hd.2 (gg:=q&&t) (by simp) h
    |false=>exact join hg hd.1 hd.2 (gg:=q&& !t) (by simp) h
   ·rename_i v he
    rw[he] at hd
    simp only at hd
    simp only[fk,hg,cp,hd]
    exact eh (hF.put g.dst _) (hT.snoc (a:=[]) (b:=[]) (fun _ h=>h)) h
   ·exact h.elim
theorem ij:∀{segs:List nf} {nx:Nat} {ov:Ov} {f fr:Fr} {H:Hp} {K:Ov→Hp→Nat→Prop},mg f ov fr→WS P nx segs ov fr H K→fO P nx segs f H (fun f1 H1 nx1=>∃ov1,mg f1 ov1 fr∧K ov1 H1 nx1)
 |[],nx,ov,f,fr,H,K,hF,h=>⟨ov,hF,h⟩
 |⟨[g],ps⟩::rest,nx,ov,f,fr,H,K,hF,h=>by
  have h:yy P nx [g] ov fr H fun ov' H' nx'=>WS P nx' rest ov' fr H' K:=h
  refine dy.mono (K':=fun a b c=>fO P c rest a b _) (eU hF h) ?_
  rintro f1 H1 nx1 ⟨ov1,h1,h2⟩
  exact ij h1 h2
 |⟨[],[]⟩::rest,nx,ov,f,fr,H,K,hF,h=>by
  have h:WE P nx [] ov fr H [] fun ov' H' _=>WS P (nx+0) rest ov' fr H' K:=h
  rw[sg,List.reverse_nil] at h
  simp only[fO]
  refine fk.mono (eh hF (tr':=[]) (tr:=[]) trivial h) ?_
  rintro f1 H1 tr1 ⟨ov1,trj,h1,h2,h3⟩
  exact⟨(fun p hp=>by cases hp),ij h1 h3⟩
 |⟨[],p::ps⟩::rest,nx,ov,f,fr,H,K,hF,h=>by
  have h:WE P nx [] ov fr H [] fun ov' H' tr=>Ask (fp tr.reverse (p::ps))∧WS P (nx+0) rest ov' fr H' K:=h
  rw[sg,List.reverse_nil] at h
  simp only[List.reverse_reverse] at h
  simp only[fO]
  refine fk.mono (eh hF (tr':=[]) (tr:=[]) trivial h) ?_
  rintro f1 H1 tr1 ⟨ov1,trj,h1,h2,h3⟩
  exact⟨h2.zN h3.1.ok,ij h1 h3.2⟩
 |⟨g1::g2::gs,[]⟩::rest,nx,ov,f,fr,H,K,hF,h=>by
  have h:WE P nx (g1::g2::gs) ov fr H [] fun ov' H' _=>WS P (nx+(g1::g2::gs).length) rest ov' fr H' K:=h
  rw[sg,List.reverse_nil] at h
  simp only[fO]
  refine fk.mono (eh hF (tr':=[]) (tr:=[]) trivial h) ?_
  rintro f1 H1 tr1 ⟨ov1,trj,h1,h2,h3⟩
  exact⟨(fun p hp=>by cases hp),ij h1 h3⟩
 |⟨g1::g2::gs,p::ps⟩::rest,nx,ov,f,fr,H,K,hF,h=>by
  have h:WE P nx (g1::g2::gs) ov fr H [] fun ov' H' tr=>Ask (fp tr.reverse (p::ps))∧WS P (nx+(g1::g2::gs).length) rest ov' fr H' K:=h
  rw[sg,List.reverse_nil] at h
  simp only[List.reverse_reverse] at h
  simp only[fO]
  refine fk.mono (eh hF (tr':=[]) (tr:=[]) trivial h) ?_
  rintro f1 H1 tr1 ⟨ov1,trj,h1,h2,h3⟩
  exact⟨h2.zN h3.1.ok,ij h1 h3.2⟩
theorem Holds.less {w0:World} {M0:Nat→Prop} {c0:Cx} {lo n:Nat} {fr fr':Fr} {H:Hp} {nx:Nat} {a:Act} {w:World} (h:Holds w0 M0 c0 lo n fr H nx a w) (hf:∀t,cJ fr' t= .any∨cJ fr' t=cJ fr t):Holds w0 M0 c0 lo n fr' H nx a w:=by
 obtain⟨h1,h2,ρ,U,hU,hS,hF,hT⟩:=h
 refine⟨h1,h2,ρ,U,hU,hS,fun t=> ?_,hT⟩
 rcases hf t with h|h
 ·rw[h,VR];trivial
 ·rw[h];exact hF t
theorem WL.less {n lo:Nat} {lc:LC} {fr:Fr} {H:Hp} {nx:Nat} {Q:QT} (h:WL P n lo lc fr H nx (fun e f H nx=>∃f',(∀t,cJ f' t= .any∨cJ f' t=cJ f t)∧Q e f' H nx)):WL P n lo lc fr H nx Q:=
 fun code hc w0 M0 c0 a w hh=>Code.wp_mono (fun _ _ _ ⟨x,f,H,nx,he,⟨f',h1,h2⟩,hhh⟩=>⟨x,f',H,nx,he,h2,hhh.less h1⟩) (h code hc w0 M0 c0 a w hh)
theorem mg.less {f:Fr} {ov:Ov} {fr:Fr} (h:mg f ov fr) (t:Nat):cJ (fX ov fr) t= .any∨cJ (fX ov fr) t=cJ f t:=by
 rcases lF (ov:=ov) (fr:=fr) (t:=t) with h1|⟨v,h1,h2⟩
 ·exact .inl h1
 ·have:=h t
  rw[h1] at this
  exact .inr (h2.trans this.symm)
theorem ef.of {segs:List nf} {fr:Fr} {H:Hp} {nx:Nat} {Q:QT} (h:WS P nx segs [] fr H fun ov H' nx'=>Q .normal (fX ov fr) H' nx'):ef P segs fr H nx Q:=
 ⟨fun _ _=>WL.less (WL.drawn (fO.mono (ij (mg.refl fr) h) fun _ _ _ ⟨_,h1,h2⟩=>⟨_,h1.less,h2⟩))⟩
theorem ep {n lo:Nat}:∀{lc:LC} {fr:Fr} {H:Hp} {nx:Nat} {Q:QT},W P n lo lc fr H nx Q→WL P n lo lc fr H nx Q
 | .skip,_,_,_,_,h=>WL.skip h
 | .ret,_,_,_,_,h=>WL.ret h
 | .exit _,_,_,_,_,h=>WL.exit h
 | .region gs,fr,H,nx,Q,h=>WL.less (WL.region (dy.mono (eU (mg.refl fr) h) fun _ _ _ ⟨_,h1,h2⟩=>⟨_,h1.less,h2⟩))
 | .drawn segs,fr,H,nx,Q,h=>ef.ok (P:=P) h n lo
 | .seq a b,fr,H,nx,Q,h=>WL.seq ((ep (lc:=a) (Q:=hP (fun fr H nx=>W P n lo b fr H nx Q) Q) h).mono fun e fr H nx hh=>by
  cases e with
  |normal=>exact ep (lc:=b) hh
  |exit id=>exact hh
  |ret=>exact hh)
 | .cond c a b,fr,H,nx,Q,h=>by
  have h:vg c a b (W P n lo a) (W P n lo b) fr H nx Q:=h
  simp only[vg] at h
  split at h
  ·rename_i t ht
   exact WL.cond ht (fun h1=>ep (lc:=a) (h.ok.1 h1)) (fun h1=>ep (lc:=b) (h.ok.2 h1))
  ·rename_i ht
   exact WL.JP ht (ep (lc:=a) h.1) (ep (lc:=b) h.2)
  ·exact h.elim
 | .block id a,fr,H,nx,Q,h=>WL.block (ep (lc:=a) h)
 | .loop a,fr,H,nx,Q,h=>h.ok
theorem fy.inv {n lo:Nat} {x:LC} {fr:Fr} {H:Hp} {nx:Nat} {Q:QT} {σ:Type} (I:σ→Fr→Hp→Nat→Prop) (μ:σ→Nat) (s0:σ) (h0:∃fr',(∀t,cJ fr' t= .any∨cJ fr' t=cJ fr t)∧I s0 fr' H nx)
 (round:∀s fr H nx,I s fr H nx→WL P n lo x fr H nx (hP (fun fr' H' nx'=>∃s',μ s'<μ s∧∃fr2,(∀t,cJ fr2 t= .any∨cJ fr2 t=cJ fr' t)∧I s' fr2 H' nx') Q)):fy P n lo x fr H nx Q:=by
 refine⟨fun code hc w0 M0 c0 a w hh=> ?_⟩
 have:∃c1,code= .loop c1∧cV P n c1=some x:=by
  cases code<;>simp only[cV] at hc
  case loop c1=>
   simp only[Option.map_eq_some_iff,LC.loop.injEq] at hc
   obtain⟨x',h1,rfl⟩:=hc
   exact⟨c1,rfl,h1⟩
  all_goals (exfalso;repeat' (split at hc))<;>simp at hc
 obtain⟨c1,rfl,h1⟩:=this
 intro b k cs
 have key:∀m,∀s,μ s=m→∀fr H nx,I s fr H nx→∀a w,Holds w0 M0 c0 lo n fr H nx a w→
  ∃e a' w',LQ w0 M0 c0 lo n Q e a' w'∧Arrives P (lone (b.at a (.code c1:: .inLoop c1::k)) cs w) b k cs e a' w':=by
  intro m
  induction m using Nat.strongRecOn with
  |_ m ih=>
   intro s hs fr H nx hI a w hh
   obtain⟨e,a1,w1,hq,harr⟩:=round s fr H nx hI c1 h1 w0 M0 c0 a w hh b (.inLoop c1::k) cs
   obtain⟨x',fr',H',nx',rfl,hQ,hh'⟩:=hq
   cases x' with
   |normal=>
    obtain⟨s',hlt,fr2,hless,hI'⟩:=hQ
    obtain⟨e2,a2,w2,hq2,harr2⟩:=ih (μ s') (by omega) s' rfl fr2 H' nx' hI' a1 w1 (hh'.less hless)
    exact⟨e2,a2,w2,hq2, .of_steps (Steps.trans harr (.one step_inLoop)) harr2⟩
   |exit id=>exact⟨_,a1,w1,⟨.exit id,fr',H',nx',rfl,hQ,hh'⟩, .pass (x:= .inLoop c1) rfl (fun _ _=> .inl (by simp[Ex.to])) harr⟩
   |ret=>exact⟨_,a1,w1,⟨.ret,fr',H',nx',rfl,hQ,hh'⟩, .pass (x:= .inLoop c1) rfl (fun _ _=> .inl (by simp[Ex.to])) harr⟩
 obtain⟨fr',hless,hI⟩:=h0
 obtain⟨e,a',w',hq,harr⟩:=key _ s0 rfl fr' H nx hI a w (hh.less hless)
 exact⟨e,a',w',hq, .of_steps (.one step_loop) harr⟩
def iK (fr:Fr):Fr→Prop
 |[]=>True
 |(t,v)::r=>cJ fr t=v∧iK fr r
theorem fG {fr:Fr}:∀{fr':Fr},iK fr fr'→∀t,cJ fr' t= .any∨cJ fr' t=cJ fr t
 |[],_,t=> .inl rfl
 |(d,v)::r,h,t=>by
  simp only[cJ]
  by_cases ht:t=d
  ·subst ht;rw[if_pos rfl];exact .inr h.1.symm
  ·rw[if_neg ht];exact fG h.2 t
theorem fy.fr {n lo:Nat} {x:LC} {fr:Fr} {H:Hp} {nx:Nat} {Q:QT} {σ:Type} (F:σ→Fr) (I:σ→Hp→Nat→Prop) (μ:σ→Nat) (s0:σ) (h0:iK fr (F s0)) (h1:I s0 H nx)
 (round:∀s H nx,I s H nx→W P n lo x (F s) H nx (hP (fun fr' H' nx'=>∃s',μ s'<μ s∧iK fr' (F s')∧I s' H' nx') Q)):fy P n lo x fr H nx Q:=by
 refine fy.inv (fun s fr H nx=>fr=F s∧I s H nx) μ s0 ⟨F s0,fG h0,rfl,h1⟩ ?_
 rintro s fr H nx ⟨rfl,hI⟩
 refine(ep (round s H nx hI)).mono ?_
 intro e fr' H' nx' hh
 cases e with
 |normal=>
  obtain⟨s',h2,h3,h4⟩:=hh
  exact⟨s',h2,F s',fG h3,rfl,h4⟩
 |exit id=>exact hh
 |ret=>exact hh
end
end Go.cQ
end
