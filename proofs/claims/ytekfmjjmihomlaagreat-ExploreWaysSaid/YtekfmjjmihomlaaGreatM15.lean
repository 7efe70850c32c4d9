import Derived.Test.YtekfmjjmihomlaaGreatM9
section
/- A run by reduction alone: the code is walked by the reducer; what is to be shown stands out as questions. -/
set_option linter.unusedSimpArgs false
set_option linter.unusedVariables false
namespace Go.cV
open Go.RowKit
structure Ask (p:Prop):Prop where
 ok:p
def dj:Option Bool→Prop→Prop
 |none,p=>Ask p
 |some g,p=>Ask (g=true→p)
def Gd:Option Bool→Prop
 |none=>True
 |some g=>g=true
theorem cR {g:Option Bool} {p:Prop}:dj g p↔(Gd g→p):=by
 cases g with
 |none=>exact⟨fun h _=>h.ok,fun h=>⟨h trivial⟩⟩
 |some g=>exact⟨fun h=>h.ok,fun h=>⟨h⟩⟩
abbrev Ov:=List (Nat×Option Bool×AV)
def oZ:Ov→Fr→Nat→Option Bool×AV
 |[],fr,t=>(none,cY fr t)
 |(d,c,v)::r,fr,t=>bif Nat.beq t d then(c,v) else oZ r fr t
def gO (ov:Ov) (d:Option Nat) (c:Option Bool) (v:AV):Ov:=
 match d with
 |some d=>(d,c,v)::ov
 |none=>ov
def gh:Ov→Fr→Fr
 |[],fr=>fr
 |(d,none,v)::r,fr=>(d,v)::gh r fr
 |(d,some _,_)::r,fr=>(d, .any)::gh r fr
def ef (ov:Ov) (fr:Fr):dv→Option Bool×AV
 | .t n=>oZ ov fr n
 | .c v=>(none, .sc v)
 | .f n=>(none, .fn (.func n) [] [])
 | .m nm n=>match oZ ov fr n with
  |(g, .lJ t v)=>(g, .fn (.method nm) [.lJ t v] [])
  |(g,_)=>(g, .any)
theorem pU {t d:Nat} (h:¬t=d):Nat.beq t d=false:=by
 cases hb:Nat.beq t d with
 |false=>rfl
 |true=>exact absurd (Nat.eq_of_beq_eq_true hb) h
def oO (f:Fr) (ov:Ov) (fr:Fr):Prop:=
 ∀t,match oZ ov fr t with
  |(none,v)=>cY f t=v
  |(some q,v)=>(q=true→cY f t=v)∧(q=false→cY f t= .sc undef)
theorem oO.refl (fr:Fr):oO fr [] fr:=fun _=>rfl
theorem oO.put {f:Fr} {ov:Ov} {fr:Fr} (h:oO f ov fr) (d:Option Nat) (v:AV):oO (fG f d v) (gO ov d none v) fr:=by
 cases d with
 |none=>exact h
 |some d=>
  intro t
  simp only[gO,fG,oZ,cY]
  by_cases ht:t=d
  ·subst ht;simp
  ·have:Nat.beq t d=false:=pU ht
   rw[this,if_neg ht];exact h t
theorem oO.qt {f:Fr} {ov:Ov} {fr:Fr} (h:oO f ov fr) (d:Option Nat) {q:Bool} {u v:AV} (h1:q=true→u=v) (h2:q=false→u= .sc undef):oO (fG f d u) (gO ov d (some q) v) fr:=by
 cases d with
 |none=>exact h
 |some d=>
  intro t
  simp only[gO,fG,oZ,cY]
  by_cases ht:t=d
  ·subst ht;simpa using⟨h1,h2⟩
  ·have:Nat.beq t d=false:=pU ht
   rw[this,if_neg ht];exact h t
theorem oO.raw {f:Fr} {ov:Ov} {fr:Fr} (h:oO f ov fr) (x:dv) (hq:∀q,(ef ov fr x).1=some q→q=true):ev f x=(ef ov fr x).2:=by
 cases x with
 |t n=>
  have:=h n
  simp only[ev,ef] at hq ⊢
  split at this
  ·rename_i v he;rw[this,he]
  ·rename_i q v he;rw[he] at hq ⊢;exact this.1 (hq q rfl)
 |c v=>rfl
 |f n=>rfl
 |m nm n=>
  have:=h n
  simp only[ev,ef] at hq ⊢
  generalize oZ ov fr n=x at this hq ⊢
  obtain⟨g,v⟩:=x
  have hv:cY f n=v:=by
   cases g with
   |none=>exact this
   |some q=>
    refine this.1 (hq q ?_)
    cases v<;>rfl
  rw[hv]
  cases v<;>rfl
theorem mY {fr:Fr} {t:Nat}:∀{ov:Ov},cY (gh ov fr) t= .any∨∃v,oZ ov fr t=(none,v)∧cY (gh ov fr) t=v
 |[]=> .inr ⟨_,rfl,rfl⟩
 |(d,none,v)::r=>by
  simp only[gh,cY,oZ]
  by_cases ht:t=d
  ·subst ht;simp
  ·have:Nat.beq t d=false:=pU ht
   rw[this,if_neg ht];exact mY
 |(d,some q,v)::r=>by
  simp only[gh,cY,oZ]
  by_cases ht:t=d
  ·subst ht;simp
  ·have:Nat.beq t d=false:=pU ht
   rw[this,if_neg ht];exact mY
abbrev Raw:=dv→Option Bool×AV
def dB (g:Option Bool) (R:Raw) (x:dv) (K:AV→Prop):Prop:=
 match R x with
 |(none,v)=>K v
 |(some q,v)=>dj g (q=true)∧K v
def C5 (R:Raw) (x:dv):Prop:=∀q,(R x).1=some q→q=true
theorem cG {g:Option Bool} {R:Raw} {x:dv} {K:AV→Prop} (h:dB g R x K):(Gd g→C5 R x)∧K (R x).2:=by
 unfold dB at h
 split at h
 ·rename_i v he;rw[he];exact⟨fun _ q hq=>(by rw[he] at hq;cases hq),h⟩
 ·rename_i q v he
  rw[he]
  exact⟨fun hg q' hq=>(by rw[he] at hq;cases hq;exact cR.1 h.1 hg),h.2⟩
def yK (K:List AV→Prop):Prop:=K []
def vL (g:Option Bool) (R:Raw) (x:dv) (_:List dv) (ih:(List AV→Prop)→Prop) (K:List AV→Prop):Prop:=dB g R x fun a=>ih fun as=>K (a::as)
noncomputable def ja (g:Option Bool) (R:Raw) (xs:List dv):(List AV→Prop)→Prop:=List.rec (motive:=fun _=>(List AV→Prop)→Prop) yK (vL g R) xs
theorem eu {g:Option Bool} {R:Raw}:∀{xs:List dv} {K:List AV→Prop},ja g R xs K→(Gd g→∀x∈xs,C5 R x)∧K (xs.map fun x=>(R x).2)
 |[],K,h=>⟨fun _ _ h=>(by cases h),h⟩
 |x::r,K,h=>by
  obtain⟨h1,h2⟩:=cG h
  obtain⟨h3,h4⟩:=eu h2
  refine⟨fun hg y hy=> ?_,h4⟩
  rcases List.mem_cons.1 hy with rfl|hy
  ·exact h1 hg
  ·exact h3 hg y hy
theorem kL {f:Fr} {R:Raw}:∀{xs:List dv},(∀x∈xs,ev f x=(R x).2)→ot f xs=xs.map fun x=>(R x).2
 |[],_=>rfl
 |x::r,h=>by
  simp only[ot,List.map_cons]
  rw[h x (by simp),kL fun y hy=>h y (by simp[hy])]
def fq (v:AV) (K:AV→Prop):Prop:=
 match v with
 | .sc v=>K (.sc v)
 | .any=>K .any
 | .im a b c=>K (.im a b c)
 | .ip a b c d e=>K (.ip a b c d e)
 | .sl a b=>K (.sl a b)
 | .pt a b c d=>K (.pt a b c d)
 | .zc=>K .zc
 | .agg a=>K (.agg a)
 | .dH a=>K (.dH a)
 | .fn a b c=>K (.fn a b c)
 | .lJ a b=>K (.lJ a b)
 | .mp a=>K (.mp a)
 | .ab=>K .ab
 | .sv a b c d=>K (.sv a b c d)
theorem ee (v:AV) (K:AV→Prop):fq v K=K v:=by cases v<;>rfl
def yO (K:List AV→Prop):Prop:=K []
def vO (a:AV) (_:List AV) (ih:(List AV→Prop)→Prop) (K:List AV→Prop):Prop:=ih fun r'=>K (a::r')
noncomputable def oY (l:List AV):(List AV→Prop)→Prop:=List.rec (motive:=fun _=>(List AV→Prop)→Prop) yO vO l
theorem iD:∀(l:List AV) (K:List AV→Prop),oY l K=K l
 |[],_=>rfl
 |a::r,K=>iD r fun r'=>K (a::r')
structure gH (H:Hp) (b:Nat) (K:TypeId→Nat→AV→List AV→Prop):Prop where
 ok:∃e sz d es,bd H b=some (.row e sz d es)∧K e sz d es
theorem gH.of {H:Hp} {b:Nat} {K:TypeId→Nat→AV→List AV→Prop} {e:TypeId} {sz:Nat} {d:AV} {es:List AV} (h:bd H b=some (.row e sz d es)) (k:K e sz d es):gH H b K:=⟨⟨e,sz,d,es,h,k⟩⟩
structure oM (es:List AV) (i:Nat) (d:AV) (K:AV→Prop):Prop where
 ok:K (es.getD i d)
theorem oM.of {es:List AV} {i:Nat} {d:AV} {K:AV→Prop} {e:AV} (h:es.getD i d=e) (k:K e):oM es i d K:=⟨by rw[h];exact k⟩
structure jU {α:Type} (x:Option α) (K:α→Prop):Prop where
 ok:∃a,x=some a∧K a
theorem jU.of {α:Type} {x:Option α} {K:α→Prop} {a:α} (h:x=some a) (k:K a):jU x K:=⟨⟨a,h,k⟩⟩
structure jG {α:Type} (g:Option Bool) (x:Option α) (K:α→Prop):Prop where
 ok:∃a,(Gd g→x=some a)∧K a
theorem jG.of {α:Type} {g:Option Bool} {x:Option α} {K:α→Prop} {a:α} (h:Gd g→x=some a) (k:K a):jG g x K:=⟨⟨a,h,k⟩⟩
structure oj (H:Hp) (b:Nat) (K:TypeId→AV→List AV→Prop):Prop where
 ok:∃e d es,bd H b=some (.row e 0 d (mapA es))∧K e d es
theorem oj.of {H:Hp} {b:Nat} {K:TypeId→AV→List AV→Prop} {e:TypeId} {d:AV} {es:List AV} (h:bd H b=some (.row e 0 d (mapA es))) (k:K e d es):oj H b K:=⟨⟨e,d,es,h,k⟩⟩
def BH (H:Hp) (v:AV) (K:Nat→TypeId→AV→List AV→Prop):Prop:=
 match v with
 | .mp b=>oj H b (K b)
 |_=>False
theorem kE {H:Hp} {v:AV} {K:Nat→TypeId→AV→List AV→Prop} (h:BH H v K):∃b e d es,mapOf H v=some (b,e,d,es)∧K b e d es:=by
 cases v<;>simp only[BH] at h
 obtain⟨e,d,es,h1,h2⟩:=h.ok
 exact⟨_,e,d,es,by simp only[mapOf,h1,mapA],h2⟩
structure rV (g:Option Bool) (k:IntKind) (n:Int) (K:Int→Prop):Prop where
 ok:∃m,(Gd g→k.wrap n=m)∧K m
theorem rV.of {g:Option Bool} {k:IntKind} {n:Int} {K:Int→Prop} {m:Int} (h:Gd g→k.wrap n=m) (hK:K m):rV g k n K:=⟨⟨m,h,hK⟩⟩
section
variable (g:Option Bool) (H:Hp)
def QZ (ag:Bool) (k:Nat) (e:AV) (sz off:Nat) (K:AV→Prop):Prop:=
 match ag with
 |true=>match e with
  | .agg cs=>bif Nat.beq off 0&&Nat.beq k sz then K (.agg cs) else dj g (off+k≤cs.length)∧K (.agg ((cs.drop off).take k))
  |_=>False
 |false=>match e with
  | .agg cs=>oM cs off .any fun v=>fq v K
  | .any=>K .any
  |e=>bif one e then fq e K else False
def lookW (v:AV) (K:Nat→AV→Nat→Prop):Prop:=
 match v with
 | .ip sz d es i off=>oM es i d fun e=>K sz e off
 | .pt b len i off=>gH H b fun _ sz d es=>dj g (es.length=len)∧oM es i d fun e=>K sz e off
 |_=>False
def qO (k:Nat) (v:AV) (K:List AV→Prop):Prop:=
 match v with
 | .im sz _ es=>bif Nat.beq sz k then K es else False
 | .sl b len=>gH H b fun _ sz _ es=>dj g (es.length=len∧sz=k)∧K es
 | .sc (.slice none 0 0)=>K []
 | .zc=>K []
 | .sv b len lo n=>gH H b fun _ sz _ es=>dj g (es.length=len∧sz=k)∧K ((es.drop lo).take n)
 |_=>False
noncomputable def oH (R:Raw) (id:Nat) (op:dJ) (K:AV→Option (Nat×eT)→Prop):Prop:=
 match op with
 | .mv x=>dB g R x fun a=>fq a fun a=>K a none
 | .pick c a b=>dB g R c fun v=>match v with
  | .sc (.bool t)=>
   let rest:=fun(_:Unit)=>fq (nz t (R a).2 (R b).2) fun v=>K v none
   let r2:=fun(_:Unit)=>match(R b).1 with
    |none=>rest ()
    |some q=>dj g (t=false→q=true)∧rest ()
   match(R a).1 with
   |none=>r2 ()
   |some q=>dj g (t=true→q=true)∧r2 ()
  |_=>False
 | .alloc e sz ag z=>dj g (z.length=sz)∧K (.pt id 1 0 0) (some (id, .row e sz (fU ag z) [fU ag z]))
 | .box e sz ag x=>dB g R x fun v=>dj g (fits ag sz v=true)∧K (.pt id 1 0 0) (some (id, .row e sz .any [v]))
 | .OI z parts=>ja g R (parts.map (·.2.2)) fun as=>jU (ow (z.map .sc) (List.zipWith (fun p a=>(p.1,p.2.1,a)) parts as)) fun cs=>K (.agg cs) none
 | .L9 e sz ag z n parts=>ja g R (parts.map (·.2)) fun as=>
  dj g (z.length=sz∧(List.zipWith (fun p a=>(p.1,a)) parts as).all (fun p=>decide (p.1<n)&&fits ag sz p.2)=true)∧
  K (.sl id n) (some (id, .row e sz (fU ag z) ((List.zipWith (fun p a=>(p.1,a)) parts as).foldl (fun l p=>l.set p.1 p.2) (List.replicate n (fU ag z)))))
 | .ld ag k x=>dB g R x fun v=>lookW g H v fun sz e off=>QZ g ag k e sz off fun r=>K r none
 | .st ag k x y=>dB g R x fun v=>dB g R y fun yv=>match v with
  | .pt b len i off=>gH H b fun e sz d es=>dj g (es.length=len)∧oM es i d fun gK=>jU (N3 ag k gK yv sz off) fun e'=>K .any (some (b, .row e sz d (es.set i e')))
  |_=>False
 | .NT x=>dB g R x fun v=>match v with
  | .pt b len i off=>K (.pt b len i off) none
  | .ip sz d es i off=>K (.ip sz d es i off) none
  | .fn (.func f) p q=>K (.fn (.func f) p q) none
  | .lJ t v=>K (.lJ t v) none
  |_=>False
 | .bin op x y=>dB g R x fun a=>dB g R y fun b=>match op,a,b with
  | .add, .sc (.int k a), .sc (.int k' b)=>dj g (k=k')∧rV g k (a+b) fun m=>K (.sc (.int k m)) none
  | .sub, .sc (.int k a), .sc (.int k' b)=>dj g (k=k')∧rV g k (a - b) fun m=>K (.sc (.int k m)) none
  | .mul, .sc (.int k a), .sc (.int k' b)=>dj g (k=k')∧rV g k (a * b) fun m=>K (.sc (.int k m)) none
  | .eql, .sc (.int k a), .sc (.int k' b)=>dj g (k=k')∧K (.sc (.bool (decide (a=b)))) none
  | .neq, .sc (.int k a), .sc (.int k' b)=>dj g (k=k')∧K (.sc (.bool (decide (a≠b)))) none
  | .lss, .sc (.int k a), .sc (.int k' b)=>dj g (k=k')∧K (.sc (.bool (decide (a<b)))) none
  | .leq, .sc (.int k a), .sc (.int k' b)=>dj g (k=k')∧K (.sc (.bool (decide (a≤b)))) none
  | .gtr, .sc (.int k a), .sc (.int k' b)=>dj g (k=k')∧K (.sc (.bool (decide (b<a)))) none
  | .geq, .sc (.int k a), .sc (.int k' b)=>dj g (k=k')∧K (.sc (.bool (decide (b≤a)))) none
  | .quo, .sc (.int k a), .sc (.int k' b)=>dj g (k=k'∧b≠0)∧K (.sc (.int k (k.wrap (a.tdiv b)))) none
  | .rem, .sc (.int k a), .sc (.int k' b)=>dj g (k=k'∧b≠0)∧K (.sc (.int k (a.tmod b))) none
  | .and, .sc (.int k a), .sc (.int k' b)=>dj g (k=k')∧K (.sc (.int k (k.wrap (BitVec.ofInt k.bits a&&& BitVec.ofInt k.bits b).toNat))) none
  | .or, .sc (.int k a), .sc (.int k' b)=>dj g (k=k')∧K (.sc (.int k (k.wrap (BitVec.ofInt k.bits a|||BitVec.ofInt k.bits b).toNat))) none
  | .xor, .sc (.int k a), .sc (.int k' b)=>dj g (k=k')∧K (.sc (.int k (k.wrap (BitVec.ofInt k.bits a^^^BitVec.ofInt k.bits b).toNat))) none
  | .andNot, .sc (.int k a), .sc (.int k' b)=>dj g (k=k')∧K (.sc (.int k (k.wrap (BitVec.ofInt k.bits a&&& ~~~(BitVec.ofInt k.bits b)).toNat))) none
  | .shl, .sc (.int k a), .sc (.int _ b)=>dj g (0≤b)∧K (.sc (.int k (k.wrap (a * 2^(min b.toNat k.bits))))) none
  | .shr, .sc (.int k a), .sc (.int _ b)=>dj g (0≤b)∧K (.sc (.int k (a.fdiv (2^(min b.toNat k.bits))))) none
  |_,_,_=>False
 | .OJ neg x y=>dB g R x fun a=>dB g R y fun b=>match a,b with
  | .sc (.bool p), .sc (.bool q)=>(match neg with
   |true=>K (.sc (.bool (p != q))) none
   |false=>K (.sc (.bool (p==q))) none)
  |_,_=>False
 | .sS neg x y=>dB g R x fun a=>dB g R y fun b=>match a,b with
  | .sc (.string p), .sc (.string q)=>(match neg with
   |true=>K (.sc (.bool (p != q))) none
   |false=>K (.sc (.bool (p==q))) none)
  |_,_=>False
 | .BR op x y=>dB g R x fun a=>dB g R y fun b=>match a,b with
  | .sc (.string p), .sc (.string q)=>(match op with
   | .add=>dj g (p.size+q.size≤9223372036854775807)∧K (.sc (.string (p++q))) none
   | .lss=>K (.sc (.bool (Op.bytesLess p.toList q.toList))) none
   |_=>False)
  |_,_=>False
 | .JI sz ag z x=>dB g R x fun v=>match v with
  | .sv b len lo n=>gH H b fun e s d es=>dj g (es.length=len∧s=sz∧lo+n≤len)∧K (.dH []) (some (b, .row e s d (es.take lo++List.replicate n (fU ag z)++es.drop (lo+n))))
  |_=>False
 | .M5 x=>dB g R x fun v=>qO g H 1 v fun xs=>jG g (kH xs) fun ns=>K (.sc (.string (DQ ns))) none
 | .un op x=>dB g R x fun a=>match op,a with
  | .not, .sc (.bool b)=>K (.sc (.bool !b)) none
  | .neg, .sc (.int k n)=>rV g k (0 - n) fun m=>K (.sc (.int k m)) none
  |_,_=>False
 | .OZ k x=>dB g R x fun a=>match a with
  | .sc (.int _ n)=>rV g k n fun m=>K (.sc (.int k m)) none
  |_=>False
 | .fa off x=>dB g R x fun a=>match a with
  | .ip sz d es i o=>dj g (o+off<sz)∧K (.ip sz d es i (o+off)) none
  | .pt b len i o=>gH H b fun _ sz _ es=>dj g (es.length=len∧o+off<sz)∧K (.pt b len i (o+off)) none
  |_=>False
 | .ia k n x i=>dB g R x fun v=>dB g R i fun iv=>match iv with
  | .sc (.int _ j)=>
   (match n with
    |none=>match v with
     | .im sz d es=>dj g (k=sz)∧dj g (0≤j∧j<es.length)∧K (.ip sz d es j.toNat 0) none
     | .sl b len=>gH H b fun _ sz _ es=>dj g (es.length=len∧k=sz)∧dj g (0≤j∧j<len)∧K (.pt b len j.toNat 0) none
     | .sv b len lo m=>gH H b fun _ sz _ es=>dj g (es.length=len∧k=sz)∧dj g (0≤j∧j<m)∧K (.pt b len (lo+j.toNat) 0) none
     |_=>False
    |some m=>match v with
     | .ip sz d es i off=>dj g (off+m * k≤sz)∧dj g (0≤j∧j<m)∧K (.ip sz d es i (off+j.toNat * k)) none
     | .pt b len i off=>gH H b fun _ sz _ es=>dj g (es.length=len∧off+m * k≤sz)∧dj g (0≤j∧j<m)∧K (.pt b len i (off+j.toNat * k)) none
     |_=>False)
  |_=>False
 | .O7 off k ag x=>dB g R x fun v=>match v with
  | .agg cs=>(match ag with
   |true=>dj g (off+k≤cs.length)∧K (.agg ((cs.drop off).take k)) none
   |false=>dj g (off+k≤cs.length∧k=1)∧oM cs off .any fun v=>fq v fun v=>K v none)
  |_=>False
 | .ix k ag n x i=>dB g R x fun v=>dB g R i fun iv=>match v,iv with
  | .agg cs, .sc (.int _ j)=>dj g (n * k=cs.length)∧dj g (0≤j∧j<n)∧(match ag with
   |true=>K (.agg ((cs.drop (j.toNat * k)).take k)) none
   |false=>dj g (k=1)∧oM cs (j.toNat * k) .any fun v=>fq v fun v=>K v none)
  |_,_=>False
 | .PG x i=>dB g R x fun v=>dB g R i fun iv=>match v,iv with
  | .sc (.string s), .sc (.int _ j)=>dj g (0≤j∧j<s.size)∧K (.sc (.int .u8 (s.data.toList.getD j.toNat 0).toNat)) none
  |_,_=>False
 | .lens x=>dB g R x fun v=>match v with
  | .sc (.string s)=>K (.sc (.int .i64 s.size)) none
  |_=>False
 | .NQ e sz bytes ag z l c=>dB g R l fun lv=>dB g R c fun cv=>match lv,cv with
  | .sc (.int _ n), .sc (.int _ m)=>dj g (z.length=sz∧n=m)∧dj g (0≤n∧n * bytes≤281474976710656∧n≤9223372036854775807)∧
   K (.sl id n.toNat) (some (id, .row e sz (fU ag z) (List.replicate n.toNat (fU ag z))))
  |_,_=>False
 | .ext i x=>dB g R x fun v=>match v with
  | .dH vs=>dj g (i<vs.length)∧oM vs i .any fun v=>fq v fun v=>K v none
  |_=>False
 | .ON f first caps=>ja g R first fun a=>ja g R caps fun b=>K (.fn f a b) none
 | .PL t x=>dB g R x fun v=>K (.lJ t v) none
 | .len x=>dB g R x fun v=>match v with
  | .im _ _ es=>K (.sc (.int .i64 (es.length:Int))) none
  | .sl b len=>gH H b fun _ _ _ es=>dj g (es.length=len)∧K (.sc (.int .i64 (len:Int))) none
  | .sc (.slice none 0 0)=>K (.sc (.int .i64 0)) none
  | .zc=>K (.sc (.int .i64 0)) none
  | .sv _ _ _ n=>K (.sc (.int .i64 (n:Int))) none
  |_=>False
 | .app e sz bytes ag z s x=>dB g R s fun sv=>dB g R x fun xv=>qO g H sz xv fun xs=>dj g (z.length=sz)∧match sv with
  | .sc (.slice none 0 0)=>dj g (xs.length * bytes≤iR)∧K (.sl id xs.length) (some (id, .row e sz (fU ag z) xs))
  | .sl b len=>gH H b fun e' sz' d es=>dj g (es.length=len∧e'=e∧sz'=sz)∧dj g ((len+xs.length) * bytes≤iR)∧K (.sl b (len+xs.length)) (some (b, .row e sz d (es++xs)))
  |_=>False
 | .EH e bytes z s x=>dB g R s fun sv=>dB g R x fun xv=>match xv with
  | .sc (.string q)=>(match sv with
   | .sc (.slice none 0 0)=>dj g ((cF q).length * bytes≤iR)∧K (.sl id (cF q).length) (some (id, .row e 1 z (cF q)))
   | .sl b len=>gH H b fun e' sz' d es=>dj g (es.length=len∧e'=e∧sz'=1)∧dj g ((len+(cF q).length) * bytes≤iR)∧K (.sl b (len+(cF q).length)) (some (b, .row e 1 d (es++cF q)))
   |_=>False)
  |_=>False
 | .C3 neg x=>dB g R x fun v=>match v with
  | .pt _ _ _ _=>K (.sc (.bool neg)) none
  | .ip _ _ _ _ _=>K (.sc (.bool neg)) none
  | .sc (.pointer none)=>K (.sc (.bool !neg)) none
  |_=>False
 | .wy neg x=>dB g R x fun v=>jU (ql H v) fun t=>fq (pH neg t) fun v=>K v none
 | .eqs neg ks x y=>dB g R x fun a=>dB g R y fun b=>match a,b with
  | .agg as, .agg bs=>jU (yH ks as bs) fun t=>(match neg with
   |true=>K (.sc (.bool !t)) none
   |false=>K (.sc (.bool t)) none)
  |_,_=>False
 | .NZ sz x lo hi=>dB g R x fun v=>ja g R (lo.toList++hi.toList) fun bs=>
  jU (rC H sz (match lo with|some _=>bs[0]?|none=>none) (match hi with|some _=>(match lo with|some _=>bs[1]?|none=>bs[0]?)|none=>none) v) fun r=>fq r fun r=>K r none
 | .JQ sz x y=>dB g R x fun xv=>dB g R y fun yv=>match xv with
  | .sl b len=>qO g H sz yv fun xs=>gH H b fun e s d es=>dj g (es.length=len∧s=sz)∧
   K (.sc (.int .i64 (Nat.min xs.length len:Nat))) (some (b, .row e s d (xs.take (Nat.min xs.length len)++es.drop (Nat.min xs.length len))))
  |_=>False
 | .call _ _=>False
 | .MJ kt=>K (.mp id) (some (id, .row kt 0 .any (mapA [])))
 | .KQ str ag z ok x k=>dB g R x fun v=>dB g R k fun kv=>match kv with
  | .sc kv=>BH H v fun _ _ _ es=>dj g (jw str kv=true)∧jG g (uH str kv es (fU ag z)) fun p=>match ok with
   |true=>K (.dH [p.1, .sc (.bool p.2)]) none
   |false=>fq p.1 fun v=>K v none
  |_=>False
 | .D3 str x k y=>dB g R x fun v=>dB g R k fun kv=>dB g R y fun yv=>match kv with
  | .sc kv=>BH H v fun b e d es=>dj g (jw str kv=true)∧jG g (wu str kv es yv) fun es'=>K .any (some (b, .row e 0 d (mapA es')))
  |_=>False
 | .yX x=>dB g R x fun v=>BH H v fun _ _ _ es=>K (.sc (.int .i64 (es.length:Nat))) none
 | .del str x k=>dB g R x fun v=>dB g R k fun kv=>match kv with
  | .sc kv=>BH H v fun b e d es=>dj g (jw str kv=true)∧jG g (PK str kv es) fun es'=>K (.dH []) (some (b, .row e 0 d (mapA es')))
  |_=>False
 | .BQ sz v=>K (.agg (List.replicate sz (.sc v))) none
 | .uo e sz v=>K (.pt id 1 0 0) (some (id, .row e sz (.agg (List.replicate sz (.sc v))) [.agg (List.replicate sz (.sc v))]))
 | .PV t ok ag z x=>dB g R x fun v=>match v with
  | .lJ t' v=>(bif Nat.beq t' t then(match ok with
   |true=>K (.dH [v, .sc (.bool true)]) none
   |false=>fq v fun v=>K v none) else(match ok with
   |true=>K (.dH [fU ag z, .sc (.bool false)]) none
   |false=>False))
  |_=>False
end
theorem zt {f:Fr} {R:Raw}:∀{ps:List (Nat×Nat×dv)},(∀x∈ps.map (·.2.2),ev f x=(R x).2)→MD f ps=List.zipWith (fun p a=>(p.1,p.2.1,a)) ps ((ps.map (·.2.2)).map fun x=>(R x).2)
 |[],_=>rfl
 |(i,j,x)::ps,h=>by
  simp only[MD,List.map_cons,List.zipWith_cons_cons]
  rw[h x (by simp),zt fun y hy=>h y (by simp only[List.map_cons,List.mem_cons];exact .inr hy)]
theorem zw {f:Fr} {R:Raw}:∀{ps:List (Nat×dv)},(∀x∈ps.map (·.2),ev f x=(R x).2)→zu f ps=List.zipWith (fun p a=>(p.1,a)) ps ((ps.map (·.2)).map fun x=>(R x).2)
 |[],_=>rfl
 |(i,x)::ps,h=>by
  simp only[zu,List.map_cons,List.zipWith_cons_cons]
  rw[h x (by simp),zw fun y hy=>h y (by simp only[List.map_cons,List.mem_cons];exact .inr hy)]
theorem CM {g:Option Bool} {ag:Bool} {k:Nat} {e:AV} {sz off:Nat} {K:AV→Prop} (h:QZ g ag k e sz off K):∃r,K r∧(Gd g→vi ag k e sz off=some r):=by
 unfold QZ at h
 cases ag with
 |true=>
  simp only at h
  cases e
  case agg cs=>
   simp only at h
   by_cases hb:off=0∧k=sz
   ·have hb':(Nat.beq off 0&&Nat.beq k sz)=true:=by
     obtain⟨rfl,rfl⟩:=hb;simp
    rw[hb'] at h
    exact⟨_,h,fun _=>by simp[vi,hb.1,hb.2]⟩
   ·have hb':(Nat.beq off 0&&Nat.beq k sz)=false:=by
     cases hc:(Nat.beq off 0&&Nat.beq k sz) with
     |false=>rfl
     |true=>
      rw[Bool.and_eq_true] at hc
      exact absurd ⟨Nat.eq_of_beq_eq_true hc.1,Nat.eq_of_beq_eq_true hc.2⟩ hb
    rw[hb'] at h
    simp only[cond_false] at h
    refine⟨_,h.2,fun hg=> ?_⟩
    have h1:=cR.1 h.1 hg
    simp only[vi,if_true]
    rw[if_neg hb,if_pos h1]
  all_goals exact h.elim
 |false=>
  have gen:∀e:AV,(bif one e then fq e K else False)→(vi false k e sz off=if one e then some e else none)→∃r,K r∧(Gd g→vi false k e sz off=some r):=by
   intro e h1 h2
   cases ho:one e with
   |true=>rw[ho,cond_true,ee] at h1;exact⟨_,h1,fun _=>by rw[h2,ho];rfl⟩
   |false=>rw[ho] at h1;exact h1.elim
  cases e
  case agg cs=>
   simp only at h
   have:=h.ok
   rw[ee] at this
   exact⟨_,this,fun _=>by simp[vi]⟩
  case any=>exact⟨_,h,fun _=>by simp[vi]⟩
  all_goals exact gen _ h rfl
theorem we {g:Option Bool} {H:Hp} {v:AV} {K:Nat→AV→Nat→Prop} (h:lookW g H v K):∃sz e off,K sz e off∧(Gd g→j0 H v=some (sz,e,off)):=by
 unfold lookW at h
 split at h
 ·exact⟨_,_,_,h.ok,fun _=>rfl⟩
 ·obtain⟨e,sz,d,es,h1,h2,h3⟩:=h.ok
  refine⟨_,_,_,h3.ok,fun hg=> ?_⟩
  simp only[j0,h1]
  rw[if_pos (cR.1 h2 hg)]
 ·exact h.elim
theorem kK {g:Option Bool} {H:Hp} {k:Nat} {v:AV} {K:List AV→Prop} (h:qO g H k v K):∃es,K es∧(Gd g→gS H v=some es∧xY H k v=true):=by
 unfold qO at h
 split at h
 ·rename_i sz d es
  cases hb:Nat.beq sz k with
  |true=>rw[hb] at h;exact⟨_,h,fun _=>⟨rfl,by simpa[xY] using hb⟩⟩
  |false=>rw[hb] at h;exact h.elim
 ·obtain⟨e,sz,d,es,h1,h2,h3⟩:=h.ok
  refine⟨_,h3,fun hg=> ?_⟩
  obtain⟨g1,g2⟩:=cR.1 h2 hg
  simp[gS,xY,h1,g1,g2]
 ·exact⟨_,h,fun _=>⟨rfl,rfl⟩⟩
 ·exact⟨_,h,fun _=>⟨rfl,rfl⟩⟩
 ·obtain⟨e,sz,d,es,h1,h2,h3⟩:=h.ok
  refine⟨_,h3,fun hg=> ?_⟩
  obtain⟨g1,g2⟩:=cR.1 h2 hg
  simp[gS,xY,h1,g1,g2]
 ·exact h.elim
set_option maxHeartbeats 4000000 in
theorem j5 {g:Option Bool} {H:Hp} {R:Raw} {id:Nat} {op:dJ} {K:AV→Option (Nat×eT)→Prop} (h:oH g H R id op K):
 ∃r u,K r u∧(Gd g→(op.rd=true→∀x∈op.eD,C5 R x)∧∀f,(∀x,C5 R x→ev f x=(R x).2)→bt id f H op=some (r,u)):=by
 cases op
 case mv x=>
  obtain⟨h1,h2⟩:=cG h
  rw[ee] at h2
  exact⟨_,_,h2,fun hg=>⟨fun hr=>by simp[dJ.rd] at hr,fun f hf=>by simp only[bt,hf x (h1 hg)]⟩⟩
 case pick c a b=>
  obtain⟨h1,h2⟩:=cG h
  split at h2
  ·rename_i t ht
   simp only[ee] at h2
   have key:∀{q:Option Bool} {p:Prop} {A:Prop},(match q with|none=>A|some q=>dj g (p→q=true)∧A)→A∧(Gd g→p→∀q',q=some q'→q'=true):=by
    intro q p A h
    cases q with
    |none=>exact⟨h,fun _ _ _ hq=>by cases hq⟩
    |some q=>exact⟨h.2,fun hg hp q' hq=>by cases hq;exact cR.1 h.1 hg hp⟩
   obtain⟨h3,ha⟩:=key h2
   obtain⟨h4,hb⟩:=key h3
   refine⟨_,_,h4,fun hg=>⟨fun hr=>by simp[dJ.rd] at hr,fun f hf=> ?_⟩⟩
   simp only[bt,hf c (h1 hg),ht]
   congr 2
   cases t with
   |true=>rw[qq,qq,hf a (ha hg rfl)]
   |false=>rw[pE,pE,hf b (hb hg rfl)]
  ·exact h2.elim
 case alloc e sz ag z=>
  refine⟨_,_,h.2,fun hg=>⟨fun hr=>by simp[dJ.rd] at hr,fun f hf=> ?_⟩⟩
  simp only[bt];rw[if_pos (cR.1 h.1 hg)]
 case box e sz ag x=>
  obtain⟨h1,h2⟩:=cG h
  refine⟨_,_,h2.2,fun hg=>⟨fun hr=>by simp[dJ.rd] at hr,fun f hf=> ?_⟩⟩
  simp only[bt,hf x (h1 hg)];rw[if_pos (cR.1 h2.1 hg)]
 case OI z ps=>
  obtain⟨h1,h2⟩:=eu h
  obtain⟨cs,h3,h4⟩:=h2.ok
  refine⟨_,_,h4,fun hg=>⟨fun hr=>by simp[dJ.rd] at hr,fun f hf=> ?_⟩⟩
  simp only[bt]
  rw[zt (R:=R) fun x hx=>hf x (h1 hg x hx),h3]
 case L9 e sz ag z n ps=>
  obtain⟨h1,h2⟩:=eu h
  refine⟨_,_,h2.2,fun hg=>⟨fun hr=>by simp[dJ.rd] at hr,fun f hf=> ?_⟩⟩
  have h3:=cR.1 h2.1 hg
  simp only[bt]
  rw[zw (R:=R) fun x hx=>hf x (h1 hg x hx),if_pos h3]
 case ld ag k x=>
  obtain⟨h1,h2⟩:=cG h
  obtain⟨sz,e,off,h3,h4⟩:=we h2
  obtain⟨r,h5,h6⟩:=CM h3
  refine⟨_,_,h5,fun hg=>⟨fun _ y hy=>by simp[dJ.eD] at hy;subst hy;exact h1 hg,fun f hf=> ?_⟩⟩
  simp only[bt,hf x (h1 hg),h4 hg,h6 hg,Option.map_some]
 case st ag k x y=>
  obtain⟨h1,h2⟩:=cG h
  obtain⟨h3,h4⟩:=cG h2
  split at h4
  ·rename_i b len i off hx
   obtain⟨e,sz,d,es,g1,g2,g3⟩:=h4.ok
   obtain⟨e',g4,g5⟩:=g3.ok.ok
   refine⟨_,_,g5,fun hg=>⟨fun _ z hz=>by simp[dJ.eD] at hz;rcases hz with rfl|rfl;exact h1 hg;exact h3 hg,fun f hf=> ?_⟩⟩
   simp only[bt,hf x (h1 hg),hf y (h3 hg),hx,g1,g4]
   rw[if_pos (cR.1 g2 hg)]
  ·exact h4.elim
 case NT x=>
  obtain⟨h1,h2⟩:=cG h
  split at h2
  all_goals first
   |exact h2.elim
   |(rename_i hx;exact⟨_,_,h2,fun hg=>⟨fun hr=>by simp[dJ.rd] at hr,fun f hf=>by simp only[bt,hf x (h1 hg),hx]⟩⟩)
 case bin op x y=>
  obtain⟨h1,h2⟩:=cG h
  obtain⟨h3,h4⟩:=cG h2
  split at h4
  all_goals first
   |exact h4.elim
   |(rename_i hx hy;obtain⟨q1,q2⟩:=h4;obtain⟨m,q3,q4⟩:=q2.ok;refine⟨_,_,q4,fun hg=>⟨fun hr=>by simp[dJ.rd] at hr,fun f hf=> ?_⟩⟩;simp only[bt,hf x (h1 hg),hf y (h3 hg),hx,hy,BP];rw[if_pos (cR.1 q1 hg),q3 hg];rfl)
   |(rename_i hx hy;refine⟨_,_,h4.2,fun hg=>⟨fun hr=>by simp[dJ.rd] at hr,fun f hf=> ?_⟩⟩;simp only[bt,hf x (h1 hg),hf y (h3 hg),hx,hy,BP];rw[if_pos (cR.1 h4.1 hg)];rfl)
 case OJ neg x y=>
  obtain⟨h1,h2⟩:=cG h
  obtain⟨h3,h4⟩:=cG h2
  split at h4
  ·rename_i p q hx hy
   cases neg
   all_goals exact⟨_,_,h4,fun hg=>⟨fun hr=>by simp[dJ.rd] at hr,fun f hf=>by simp[bt,hf x (h1 hg),hf y (h3 hg),hx,hy]⟩⟩
  ·exact h4.elim
 case sS neg x y=>
  obtain⟨h1,h2⟩:=cG h
  obtain⟨h3,h4⟩:=cG h2
  split at h4
  ·rename_i p q hx hy
   cases neg
   all_goals exact⟨_,_,h4,fun hg=>⟨fun hr=>by simp[dJ.rd] at hr,fun f hf=>by simp[bt,hf x (h1 hg),hf y (h3 hg),hx,hy]⟩⟩
  ·exact h4.elim
 case BR op x y=>
  obtain⟨h1,h2⟩:=cG h
  obtain⟨h3,h4⟩:=cG h2
  split at h4
  ·rename_i p q hx hy
   cases op
   case add=>exact⟨_,_,h4.2,fun hg=>⟨fun hr=>by simp[dJ.rd] at hr,fun f hf=>by simp only[bt,hf x (h1 hg),hf y (h3 hg),hx,hy,IP];rw[if_pos (cR.1 h4.1 hg)];rfl⟩⟩
   case lss=>exact⟨_,_,h4,fun hg=>⟨fun hr=>by simp[dJ.rd] at hr,fun f hf=>by simp only[bt,hf x (h1 hg),hf y (h3 hg),hx,hy,IP];rfl⟩⟩
   all_goals exact h4.elim
  ·exact h4.elim
 case JI sz ag z x=>
  obtain⟨h1,h2⟩:=cG h
  split at h2
  ·rename_i b len lo n hx
   obtain⟨e,s,d,es,q1,q2,q3⟩:=h2.ok
   exact⟨_,_,q3,fun hg=>⟨fun hr y hy=>by simp[dJ.eD] at hy;subst hy;exact h1 hg,fun f hf=>by
    simp only[bt,hf x (h1 hg),hx,q1];rw[if_pos (cR.1 q2 hg)]⟩⟩
  ·exact h2.elim
 case M5 x=>
  obtain⟨h1,h2⟩:=cG h
  obtain⟨xs,h3,h4⟩:=kK h2
  obtain⟨ns,h5,h6⟩:=h3.ok
  exact⟨_,_,h6,fun hg=>⟨fun hr y hy=>by simp[dJ.eD] at hy;subst hy;exact h1 hg,fun f hf=>by
   obtain⟨q1,q2⟩:=h4 hg
   simp only[bt,hf x (h1 hg),q1,q2,if_true,h5 hg,Option.map_some]⟩⟩
 case un op x=>
  obtain⟨h1,h2⟩:=cG h
  split at h2
  all_goals first
   |exact h2.elim
   |(rename_i hx;obtain⟨m,q3,q4⟩:=h2.ok;exact⟨_,_,q4,fun hg=>⟨fun hr=>by simp[dJ.rd] at hr,fun f hf=>by simp only[bt,hf x (h1 hg),hx,PX,Option.map_some,q3 hg]⟩⟩)
   |(rename_i hx;exact⟨_,_,h2,fun hg=>⟨fun hr=>by simp[dJ.rd] at hr,fun f hf=>by simp only[bt,hf x (h1 hg),hx,PX,Option.map_some]⟩⟩)
 case OZ k x=>
  obtain⟨h1,h2⟩:=cG h
  split at h2
  all_goals first
   |exact h2.elim
   |(rename_i hx;obtain⟨m,q3,q4⟩:=h2.ok;exact⟨_,_,q4,fun hg=>⟨fun hr=>by simp[dJ.rd] at hr,fun f hf=>by simp only[bt,hf x (h1 hg),hx,q3 hg]⟩⟩)
 case fa off x=>
  obtain⟨h1,h2⟩:=cG h
  have hr:Gd g→((dJ.fa off x).rd=true→∀y∈(dJ.fa off x).eD,C5 R y):=fun hg _ y hy=>by simp[dJ.eD] at hy;subst hy;exact h1 hg
  split at h2
  ·rename_i hx
   refine⟨_,_,h2.2,fun hg=>⟨hr hg,fun f hf=> ?_⟩⟩
   simp only[bt,hf x (h1 hg),hx];rw[if_pos (cR.1 h2.1 hg)]
  ·rename_i hx
   obtain⟨e,sz,d,es,g1,g2,g3⟩:=h2.ok
   refine⟨_,_,g3,fun hg=>⟨hr hg,fun f hf=> ?_⟩⟩
   simp only[bt,hf x (h1 hg),hx,g1];rw[if_pos (cR.1 g2 hg)]
  ·exact h2.elim
 case ia k n x i=>
  obtain⟨h1,h2⟩:=cG h
  obtain⟨h3,h4⟩:=cG h2
  have hr:Gd g→((dJ.ia k n x i).rd=true→∀y∈(dJ.ia k n x i).eD,C5 R y):=fun hg _ y hy=>by simp[dJ.eD] at hy;rcases hy with rfl|rfl;exact h1 hg;exact h3 hg
  split at h4
  ·rename_i kk j hi
   cases n with
   |none=>
    simp only at h4
    split at h4
    ·rename_i hx
     refine⟨_,_,h4.2.2,fun hg=>⟨hr hg,fun f hf=> ?_⟩⟩
     simp only[bt,hf x (h1 hg),hf i (h3 hg),hx,hi,D2]
     rw[if_pos ⟨cR.1 h4.1 hg,cR.1 h4.2.1 hg⟩];rfl
    ·rename_i hx
     obtain⟨e,sz,d,es,g1,g2,g3,g4⟩:=h4.ok
     refine⟨_,_,g4,fun hg=>⟨hr hg,fun f hf=> ?_⟩⟩
     obtain⟨q1,q2⟩:=cR.1 g2 hg
     simp only[bt,hf x (h1 hg),hf i (h3 hg),hx,hi,D2,g1]
     rw[if_pos ⟨q1,q2,cR.1 g3 hg⟩];rfl
    ·rename_i hx
     obtain⟨e,sz,d,es,g1,g2,g3,g4⟩:=h4.ok
     refine⟨_,_,g4,fun hg=>⟨hr hg,fun f hf=> ?_⟩⟩
     obtain⟨q1,q2⟩:=cR.1 g2 hg
     simp only[bt,hf x (h1 hg),hf i (h3 hg),hx,hi,D2,g1]
     rw[if_pos ⟨q1,q2,cR.1 g3 hg⟩];rfl
    ·exact h4.elim
   |some m=>
    simp only at h4
    split at h4
    ·rename_i hx
     refine⟨_,_,h4.2.2,fun hg=>⟨hr hg,fun f hf=> ?_⟩⟩
     simp only[bt,hf x (h1 hg),hf i (h3 hg),hx,hi,D2]
     rw[if_pos ⟨cR.1 h4.1 hg,cR.1 h4.2.1 hg⟩];rfl
    ·rename_i hx
     obtain⟨e,sz,d,es,g1,g2,g3,g4⟩:=h4.ok
     refine⟨_,_,g4,fun hg=>⟨hr hg,fun f hf=> ?_⟩⟩
     obtain⟨q1,q2⟩:=cR.1 g2 hg
     simp only[bt,hf x (h1 hg),hf i (h3 hg),hx,hi,D2,g1]
     rw[if_pos ⟨q1,q2,cR.1 g3 hg⟩];rfl
    ·exact h4.elim
  ·exact h4.elim
 case O7 off k ag x=>
  obtain⟨h1,h2⟩:=cG h
  split at h2
  ·rename_i cs hx
   cases ag with
   |true=>
    refine⟨_,_,h2.2,fun hg=>⟨fun hr=>by simp[dJ.rd] at hr,fun f hf=> ?_⟩⟩
    simp only[bt,hf x (h1 hg),hx,if_true];rw[if_pos (cR.1 h2.1 hg)]
   |false=>
    have h3:=h2.2.ok
    rw[ee] at h3
    refine⟨_,_,h3,fun hg=>⟨fun hr=>by simp[dJ.rd] at hr,fun f hf=> ?_⟩⟩
    obtain⟨q1,q2⟩:=cR.1 h2.1 hg
    simp only[bt,hf x (h1 hg),hx,Bool.false_eq_true,if_false];rw[if_pos q1,if_pos q2]
  ·exact h2.elim
 case ix k ag n x i=>
  obtain⟨h1,h2⟩:=cG h
  obtain⟨h3,h4⟩:=cG h2
  split at h4
  ·rename_i cs kk j hx hi
   obtain⟨p1,p2,p3⟩:=h4
   cases ag with
   |true=>
    refine⟨_,_,p3,fun hg=>⟨fun hr=>by simp[dJ.rd] at hr,fun f hf=> ?_⟩⟩
    have q2:=cR.1 p2 hg
    simp only[bt,hf x (h1 hg),hf i (h3 hg),hx,hi,if_true];rw[if_pos ⟨q2.1,q2.2,cR.1 p1 hg⟩]
   |false=>
    have h5:=p3.2.ok
    rw[ee] at h5
    refine⟨_,_,h5,fun hg=>⟨fun hr=>by simp[dJ.rd] at hr,fun f hf=> ?_⟩⟩
    have q2:=cR.1 p2 hg
    simp only[bt,hf x (h1 hg),hf i (h3 hg),hx,hi,Bool.false_eq_true,if_false];rw[if_pos ⟨q2.1,q2.2,cR.1 p1 hg⟩,if_pos (cR.1 p3.1 hg)]
  ·exact h4.elim
 case PG x i=>
  obtain⟨h1,h2⟩:=cG h
  obtain⟨h3,h4⟩:=cG h2
  split at h4
  ·rename_i hx hi
   refine⟨_,_,h4.2,fun hg=>⟨fun hr=>by simp[dJ.rd] at hr,fun f hf=> ?_⟩⟩
   simp only[bt,hf x (h1 hg),hf i (h3 hg),hx,hi];rw[if_pos (cR.1 h4.1 hg)]
  ·exact h4.elim
 case lens x=>
  obtain⟨h1,h2⟩:=cG h
  split at h2
  all_goals first
   |exact h2.elim
   |(rename_i hx;exact⟨_,_,h2,fun hg=>⟨fun hr=>by simp[dJ.rd] at hr,fun f hf=>by simp only[bt,hf x (h1 hg),hx]⟩⟩)
 case NQ e sz bytes ag z l c=>
  obtain⟨h1,h2⟩:=cG h
  obtain⟨h3,h4⟩:=cG h2
  split at h4
  ·rename_i hx hi
   refine⟨_,_,h4.2.2,fun hg=>⟨fun hr=>by simp[dJ.rd] at hr,fun f hf=> ?_⟩⟩
   obtain⟨q1,q2⟩:=cR.1 h4.1 hg
   obtain⟨q3,q4,q5⟩:=cR.1 h4.2.1 hg
   simp only[bt,hf l (h1 hg),hf c (h3 hg),hx,hi];rw[if_pos ⟨q1,q3,q2,q4,q5⟩]
  ·exact h4.elim
 case ext i x=>
  obtain⟨h1,h2⟩:=cG h
  split at h2
  ·rename_i hx
   have h3:=h2.2.ok
   rw[ee] at h3
   refine⟨_,_,h3,fun hg=>⟨fun hr=>by simp[dJ.rd] at hr,fun f hf=> ?_⟩⟩
   simp only[bt,hf x (h1 hg),hx];rw[if_pos (cR.1 h2.1 hg)]
  ·exact h2.elim
 case ON fn first caps=>
  obtain⟨h1,h2⟩:=eu h
  obtain⟨h3,h4⟩:=eu h2
  refine⟨_,_,h4,fun hg=>⟨fun hr=>by simp[dJ.rd] at hr,fun f hf=> ?_⟩⟩
  simp only[bt]
  rw[kL (R:=R) fun x hx=>hf x (h1 hg x hx),kL (R:=R) fun x hx=>hf x (h3 hg x hx)]
 case PL t x=>
  obtain⟨h1,h2⟩:=cG h
  exact⟨_,_,h2,fun hg=>⟨fun hr=>by simp[dJ.rd] at hr,fun f hf=>by simp only[bt,hf x (h1 hg)]⟩⟩
 case len x=>
  obtain⟨h1,h2⟩:=cG h
  have hr:Gd g→((dJ.len x).rd=true→∀y∈(dJ.len x).eD,C5 R y):=fun hg _ y hy=>by simp[dJ.eD] at hy;subst hy;exact h1 hg
  split at h2
  ·rename_i hx;exact⟨_,_,h2,fun hg=>⟨hr hg,fun f hf=>by simp only[bt,hf x (h1 hg),hx,qb]⟩⟩
  ·rename_i hx
   obtain⟨e,sz,d,es,g1,g2,g3⟩:=h2.ok
   refine⟨_,_,g3,fun hg=>⟨hr hg,fun f hf=> ?_⟩⟩
   simp only[bt,hf x (h1 hg),hx,qb,g1];rw[if_pos (cR.1 g2 hg)]
  ·rename_i hx;exact⟨_,_,h2,fun hg=>⟨hr hg,fun f hf=>by simp[bt,hf x (h1 hg),hx,qb]⟩⟩
  ·rename_i hx;exact⟨_,_,h2,fun hg=>⟨hr hg,fun f hf=>by simp[bt,hf x (h1 hg),hx,qb]⟩⟩
  ·rename_i hx;exact⟨_,_,h2,fun hg=>⟨hr hg,fun f hf=>by simp only[bt,hf x (h1 hg),hx,qb]⟩⟩
  ·exact h2.elim
 case app e sz bytes ag z s x=>
  obtain⟨h1,h2⟩:=cG h
  obtain⟨h3,h4⟩:=cG h2
  obtain⟨xs,⟨h5,h5'⟩,h6⟩:=kK h4
  have hr:Gd g→((dJ.app e sz bytes ag z s x).rd=true→∀y∈(dJ.app e sz bytes ag z s x).eD,C5 R y):=fun hg _ y hy=>by simp[dJ.eD] at hy;rcases hy with rfl|rfl;exact h1 hg;exact h3 hg
  split at h5'
  ·rename_i hx
   refine⟨_,_,h5'.2,fun hg=>⟨hr hg,fun f hf=> ?_⟩⟩
   obtain⟨q1,q2⟩:=h6 hg
   simp only[bt,hf s (h1 hg),hf x (h3 hg),hx,q1];rw[if_pos ⟨q2,cR.1 h5 hg⟩,if_pos (cR.1 h5'.1 hg)]
  ·rename_i hx
   obtain⟨e',sz',d,es,g1,g2,g3,g4⟩:=h5'.ok
   refine⟨_,_,g4,fun hg=>⟨hr hg,fun f hf=> ?_⟩⟩
   obtain⟨q1,q2⟩:=h6 hg
   obtain⟨q3,q4,q5⟩:=cR.1 g2 hg
   simp only[bt,hf s (h1 hg),hf x (h3 hg),hx,q1,g1];rw[if_pos ⟨q2,cR.1 h5 hg⟩,if_pos ⟨q3,q4,q5,cR.1 g3 hg⟩]
  ·exact h5'.elim
 case EH e bytes z s x=>
  obtain⟨h1,h2⟩:=cG h
  obtain⟨h3,h4⟩:=cG h2
  have hr:Gd g→((dJ.EH e bytes z s x).rd=true→∀y∈(dJ.EH e bytes z s x).eD,C5 R y):=fun hg _ y hy=>by simp[dJ.eD] at hy;rcases hy with rfl|rfl;exact h1 hg;exact h3 hg
  split at h4
  ·rename_i q hq
   split at h4
   ·rename_i hx
    refine⟨_,_,h4.2,fun hg=>⟨hr hg,fun f hf=> ?_⟩⟩
    simp only[bt,hf s (h1 hg),hf x (h3 hg),hx,hq];rw[if_pos (cR.1 h4.1 hg)]
   ·rename_i hx
    obtain⟨e',sz',d,es,g1,g2,g3,g4⟩:=h4.ok
    refine⟨_,_,g4,fun hg=>⟨hr hg,fun f hf=> ?_⟩⟩
    obtain⟨q3,q4,q5⟩:=cR.1 g2 hg
    simp only[bt,hf s (h1 hg),hf x (h3 hg),hx,hq,g1];rw[if_pos ⟨q3,q4,q5,cR.1 g3 hg⟩]
   ·exact h4.elim
  ·exact h4.elim
 case C3 neg x=>
  obtain⟨h1,h2⟩:=cG h
  split at h2
  all_goals first
   |exact h2.elim
   |(rename_i hx;exact⟨_,_,h2,fun hg=>⟨fun hr=>by simp[dJ.rd] at hr,fun f hf=>by simp only[bt,hf x (h1 hg),hx]⟩⟩)
 case wy neg x=>
  obtain⟨h1,h2⟩:=cG h
  obtain⟨t,h3,h4⟩:=h2.ok
  rw[ee] at h4
  refine⟨_,_,h4,fun hg=>⟨fun _ y hy=>by simp[dJ.eD] at hy;subst hy;exact h1 hg,fun f hf=> ?_⟩⟩
  simp only[bt,hf x (h1 hg),h3]
 case eqs neg ks x y=>
  obtain⟨h1,h2⟩:=cG h
  obtain⟨h3,h4⟩:=cG h2
  split at h4
  ·rename_i hx hy
   obtain⟨t,g1,g2⟩:=h4.ok
   cases neg
   all_goals exact⟨_,_,g2,fun hg=>⟨fun hr=>by simp[dJ.rd] at hr,fun f hf=>by simp[bt,hf x (h1 hg),hf y (h3 hg),hx,hy,g1]⟩⟩
  ·exact h4.elim
 case NZ sz x lo hi=>
  obtain⟨h1,h2⟩:=cG h
  obtain⟨h3,h4⟩:=eu h2
  obtain⟨r,g1,g2⟩:=h4.ok
  rw[ee] at g2
  refine⟨_,_,g2,fun hg=>⟨fun _ y hy=> ?_,fun f hf=> ?_⟩⟩
  ·simp only[dJ.eD,List.mem_append,List.mem_singleton] at hy
   rcases hy with(rfl|hy)|hy
   ·exact h1 hg
   ·exact h3 hg y (by simp only[List.mem_append];exact .inl hy)
   ·exact h3 hg y (by simp only[List.mem_append];exact .inr hy)
  ·simp only[bt,hf x (h1 hg)]
   have e1:∀y∈lo.toList++hi.toList,ev f y=(R y).2:=fun y hy=>hf y (h3 hg y hy)
   cases lo<;>cases hi<;>simp_all
 case JQ sz x y=>
  obtain⟨h1,h2⟩:=cG h
  obtain⟨h3,h4⟩:=cG h2
  split at h4
  ·rename_i b len hx
   obtain⟨xs,h5,h6⟩:=kK h4
   obtain⟨e,s,d,es,g1,g2,g3⟩:=h5.ok
   refine⟨_,_,g3,fun hg=>⟨fun _ z hz=>by simp[dJ.eD] at hz;rcases hz with rfl|rfl;exact h1 hg;exact h3 hg,fun f hf=> ?_⟩⟩
   obtain⟨q1,q2⟩:=h6 hg
   obtain⟨q3,q4⟩:=cR.1 g2 hg
   simp only[bt,hf x (h1 hg),hf y (h3 hg),hx,q1,g1];rw[if_pos ⟨q3,q4,q2⟩]
  ·exact h4.elim
 case call f as=>exact h.elim
 case MJ kt=>exact⟨_,_,h,fun hg=>⟨fun hr=>by simp[dJ.rd] at hr,fun f hf=>rfl⟩⟩
 case BQ sz v=>exact⟨_,_,h,fun hg=>⟨fun hr=>by simp[dJ.rd] at hr,fun f hf=>rfl⟩⟩
 case uo e sz v=>exact⟨_,_,h,fun hg=>⟨fun hr=>by simp[dJ.rd] at hr,fun f hf=>rfl⟩⟩
 case yX x=>
  obtain⟨h1,h2⟩:=cG h
  obtain⟨b,e,d,es,h3,h4⟩:=kE h2
  exact⟨_,_,h4,fun hg=>⟨fun _ y hy=>by simp[dJ.eD] at hy;subst hy;exact h1 hg,fun f hf=>by simp only[bt,hf x (h1 hg),h3]⟩⟩
 case KQ str ag z ok x k=>
  obtain⟨h1,h2⟩:=cG h
  obtain⟨h3,h4⟩:=cG h2
  have hr:Gd g→((dJ.KQ str ag z ok x k).rd=true→∀y∈(dJ.KQ str ag z ok x k).eD,C5 R y):=fun hg _ y hy=>by simp[dJ.eD] at hy;rcases hy with rfl|rfl;exact h1 hg;exact h3 hg
  split at h4
  ·rename_i kv hk
   obtain⟨b,e,d,es,h5,h6,h7⟩:=kE h4
   obtain⟨p,h8,h9⟩:=h7.ok
   cases ok with
   |true=>
    refine⟨_,_,h9,fun hg=>⟨hr hg,fun f hf=> ?_⟩⟩
    have h10:=h8 hg
    unfold uH at h10
    simp only[bt,hf x (h1 hg),hf k (h3 hg),h5,hk]
    rw[if_pos (cR.1 h6 hg)]
    split at h10<;>simp only[Option.some.injEq,reduceCtorEq] at h10
    ·subst h10;simp_all
    ·subst h10;simp_all
   |false=>
    simp only[ee] at h9
    refine⟨_,_,h9,fun hg=>⟨hr hg,fun f hf=> ?_⟩⟩
    have h10:=h8 hg
    unfold uH at h10
    simp only[bt,hf x (h1 hg),hf k (h3 hg),h5,hk]
    rw[if_pos (cR.1 h6 hg)]
    split at h10<;>simp only[Option.some.injEq,reduceCtorEq] at h10
    ·subst h10;simp_all
    ·subst h10;simp_all
  ·exact h4.elim
 case D3 str x k y=>
  obtain⟨h1,h2⟩:=cG h
  obtain⟨h3,h4⟩:=cG h2
  obtain⟨h3',h4'⟩:=cG h4
  have hr:Gd g→((dJ.D3 str x k y).rd=true→∀w∈(dJ.D3 str x k y).eD,C5 R w):=fun hg _ w hy=>by simp[dJ.eD] at hy;rcases hy with rfl|rfl|rfl;exact h1 hg;exact h3 hg;exact h3' hg
  split at h4'
  ·rename_i kv hk
   obtain⟨b,e,d,es,h5,h6,h7⟩:=kE h4'
   obtain⟨p,h8,h9⟩:=h7.ok
   refine⟨_,_,h9,fun hg=>⟨hr hg,fun f hf=> ?_⟩⟩
   have h10:=h8 hg
   unfold wu at h10
   simp only[bt,hf x (h1 hg),hf k (h3 hg),hf y (h3' hg),h5,hk]
   rw[if_pos (cR.1 h6 hg)]
   split at h10<;>simp only[Option.some.injEq,reduceCtorEq] at h10
   ·subst h10;simp_all[xg]
   ·subst h10;simp_all[xg]
  ·exact h4'.elim
 case del str x k=>
  obtain⟨h1,h2⟩:=cG h
  obtain⟨h3,h4⟩:=cG h2
  have hr:Gd g→((dJ.del str x k).rd=true→∀y∈(dJ.del str x k).eD,C5 R y):=fun hg _ y hy=>by simp[dJ.eD] at hy;rcases hy with rfl|rfl;exact h1 hg;exact h3 hg
  split at h4
  ·rename_i kv hk
   obtain⟨b,e,d,es,h5,h6,h7⟩:=kE h4
   obtain⟨p,h8,h9⟩:=h7.ok
   refine⟨_,_,h9,fun hg=>⟨hr hg,fun f hf=> ?_⟩⟩
   have h10:=h8 hg
   unfold PK at h10
   simp only[bt,hf x (h1 hg),hf k (h3 hg),h5,hk]
   rw[if_pos (cR.1 h6 hg)]
   split at h10<;>simp only[Option.some.injEq,reduceCtorEq] at h10
   ·subst h10;simp_all
   ·subst h10;simp_all
  ·exact h4.elim
 case PV t ok ag z x=>
  obtain⟨h1,h2⟩:=cG h
  split at h2
  ·rename_i t' v hx
   cases hb:Nat.beq t' t with
   |true=>
    rw[hb] at h2
    have e:=Nat.eq_of_beq_eq_true hb
    cases ok with
    |true=>
     simp only[cond_true] at h2
     exact⟨_,_,h2,fun hg=>⟨fun hr=>by simp[dJ.rd] at hr,fun f hf=>by simp only[bt,hf x (h1 hg),hx];rw[if_pos e];rfl⟩⟩
    |false=>
     simp only[cond_true,ee] at h2
     exact⟨_,_,h2,fun hg=>⟨fun hr=>by simp[dJ.rd] at hr,fun f hf=>by simp only[bt,hf x (h1 hg),hx];rw[if_pos e];rfl⟩⟩
   |false=>
    rw[hb] at h2
    have e:¬t'=t:=fun e=>by rw[e] at hb;simp at hb
    cases ok with
    |true=>
     simp only[cond_false] at h2
     exact⟨_,_,h2,fun hg=>⟨fun hr=>by simp[dJ.rd] at hr,fun f hf=>by simp only[bt,hf x (h1 hg),hx];rw[if_neg e];rfl⟩⟩
    |false=>exact h2.elim
  ·exact h2.elim
end Go.cV
/- Code as a whole, run by reduction alone; it is so. -/
namespace Go.cV
open Go.RowKit
structure fE (t:Bool) (A B:Prop):Prop where
 ok:(t=true→A)∧(t=false→B)
theorem fE.lt {A B:Prop} (h:A):fE true A B:=⟨⟨fun _=>h,fun h=>(by cases h)⟩⟩
theorem fE.lf {A B:Prop} (h:B):fE false A B:=⟨⟨fun h=>(by cases h),fun _=>h⟩⟩
theorem fE.of {t:Bool} {A B:Prop} (h1:t=true→A) (h2:t=false→B):fE t A B:=⟨⟨h1,h2⟩⟩
structure eH (t want:Bool) (A B J:Prop):Prop where
 ok:((t=want→A)∧(t≠want→B))∨J
theorem eH.tt {A B J:Prop} (h:A):eH true true A B J:=⟨.inl ⟨fun _=>h,fun h=>absurd rfl h⟩⟩
theorem eH.join {t want:Bool} {A B J:Prop} (h:J):eH t want A B J:=⟨.inr h⟩
theorem eH.split {t want:Bool} {A B J:Prop} (h1:t=want→A) (h2:t= !want→B):eH t want A B J:=⟨.inl ⟨h1,fun h=>h2 (by cases t<;>cases want<;>simp_all)⟩⟩
structure gQ (P:Program) (f:FuncId) (args:List AV) (H:Hp) (nx:Nat) (K:AV→Hp→Nat→Prop):Prop where
 ok:cJ P f args H nx K
structure nF (P:Program) (g:Bool) (f:FuncId) (args:List AV) (H:Hp) (nx:Nat) (K:AV→Prop):Prop where
 ok:∃r,(g=true→∀(K':AV→Hp→Nat→Prop),K' r H (nx+1)→cJ P f args H nx K')∧K r
structure jT (P:Program) (id:Nat) (f:FuncId) (args:List AV) (H:Hp) (K:AV→Option (Nat×eT)→List Nat→Prop):Prop where
 ok:∃r u S,mH P id (.fn (.func f) [] []) args H r u S∧K r u S
structure OR (P:Program) (t:TypeId) (v:AV) (nm:String) (args:List AV) (H:Hp) (nx:Nat) (K:AV→Hp→Nat→Prop):Prop where
 ok:sB P t v nm args H nx K
structure sA (P:Program) (g:Bool) (id:Nat) (f:FuncId) (args:List AV) (H:Hp) (K:AV→List Nat→Prop):Prop where
 ok:∃r S,(g=true→mH P id (.fn (.func f) [] []) args H r none S)∧K r S
theorem Pure.M7 {P:Program} {f:FuncId} {args:List AV} {R:AV→Prop} {H:Hp} {nx:Nat} {K:AV→Hp→Nat→Prop} (h:Pure P f args R) (hf:cP 0 args) (hK:∀r,R r→K r H (nx+1)):cJ P f args H nx K:=by
 have:=h.cy (H:=H) (nx:=nx) (K:=fun r H' n=>∃n',n≤n'∧K r H' n') hf fun r hr=>⟨_,Nat.le_succ _,hK r hr⟩
 refine⟨this.1,fun w0 c vs a1 a2 a3 a4=>(this.2 w0 c vs a1 a2 a3 a4).mono ?_⟩
 rintro e w' ⟨v,r,H',nx',ρ,U,he,⟨n',hn,hR⟩,hU,hrest⟩
 exact⟨v,r,H',n',ρ,U,he,hR,fun b hb=>Nat.lt_of_lt_of_le (hU b hb) hn,hrest⟩
theorem gQ.pure {P:Program} {f:FuncId} {args:List AV} {R:AV→Prop} {H:Hp} {nx:Nat} {K:AV→Hp→Nat→Prop} (h:Pure P f args R) (hf:cP 0 args) (hK:∀r,R r→K r H nx):gQ P f args H nx K:=⟨h.cy hf hK⟩
theorem gQ.I3 {P:Program} {f:FuncId} {args:List AV} {r:AV} {H:Hp} {nx:Nat} {K:AV→Hp→Nat→Prop} (h:Pure P f args (fun x=>x=r)) (hf:cP 0 args) (hK:K r H nx):gQ P f args H nx K:=⟨h.cy hf fun x hx=>by rw[hx];exact hK⟩
theorem gQ.of {P:Program} {f:FuncId} {args:List AV} {H:Hp} {nx:Nat} {R K:AV→Hp→Nat→Prop} (h:cJ P f args H nx R) (hK:∀r H' nx',R r H' nx'→K r H' nx'):gQ P f args H nx K:=⟨h.mono hK⟩
theorem nF.I3 {P:Program} {g:Bool} {f:FuncId} {args:List AV} {r:AV} {H:Hp} {nx:Nat} {K:AV→Prop} (h:g=true→Pure P f args (fun x=>x=r)) (hf:cP 0 args) (hK:K r):nF P g f args H nx K:=
 ⟨⟨r,fun hg K' hK'=>(h hg).M7 hf fun x hx=>by rw[hx];exact hK',hK⟩⟩
theorem jT.I3 {P:Program} {id:Nat} {f:FuncId} {args:List AV} {H:Hp} {r:AV} {K:AV→Option (Nat×eT)→List Nat→Prop} (h:Pure P f args (fun x=>x=r)) (hf:cP 0 args) (hK:K r none []):jT P id f args H K:=
 ⟨⟨r,none,[],Pure.H7 (by simpa using hf) (by simpa using h),hK⟩⟩
theorem sA.I3 {P:Program} {g:Bool} {id:Nat} {f:FuncId} {args:List AV} {H:Hp} {r:AV} {K:AV→List Nat→Prop} (h:g=true→Pure P f args (fun x=>x=r)) (hf:cP 0 args) (hK:K r []):sA P g id f args H K:=
 ⟨⟨r,[],fun hg=>Pure.H7 (by simpa using hf) (by simpa using h hg),hK⟩⟩
theorem jT.fresh {P:Program} {id:Nat} {f:FuncId} {args:List AV} {H:Hp} {r:AV} {u:Option (Nat×eT)} (S:List Nat) {K:AV→Option (Nat×eT)→List Nat→Prop}
 (h:∀H1,(∀b∈S,bd H1 b=bd H b)→nE P f args H1 id (fun r' H'=>r'=r∧H'=dF H1 u)) (hu:∀b q,u=some (b,q)→b=id) (hK:K r u S):jT P id f args H K:=
 ⟨⟨r,u,S,⟨by simpa using h,hu⟩,hK⟩⟩
section
variable (P:Program)
noncomputable def ug (nx:Nat) (R:Raw) (H:Hp) (op:dJ) (K:AV→Hp→Nat→Prop):Prop:=
 match op with
 | .call f args=>dB none R f fun fv=>ja none R args fun as=>match fv with
  | .fn (.func g) first caps=>oY (first++as++caps) fun as=>gQ P g as H nx K
  | .fn (.method nm) [.lJ t v] []=>oY as fun as=>OR P t v nm as H nx K
  |_=>False
 |op=>oH none H R nx op fun r u=>K r (dF H u) (nx+1)
noncomputable def kx (nx:Nat) (g:Bool) (R:Raw) (H:Hp) (op:dJ) (K:AV→Prop):Prop:=
 match op with
 | .call f args=>dB (some g) R f fun fv=>ja (some g) R args fun as=>match fv with
  | .fn (.func q) first caps=>oY (first++as++caps) fun as=>nF P g q as H nx K
  |_=>False
 |op=>oH (some g) H R nx op fun r u=>match u with
  |none=>K r
  |some _=>False
abbrev zk:=Nat→Ov→Fr→Hp→(Ov→Hp→Nat→Prop)→Prop
def ui (nx:Nat) (ov:Ov) (_:Fr) (H:Hp) (K:Ov→Hp→Nat→Prop):Prop:=K ov H nx
noncomputable def oQ (g:gE) (_:List gE) (ih:zk) (nx:Nat) (ov:Ov) (fr:Fr) (H:Hp) (K:Ov→Hp→Nat→Prop):Prop:=match g.guard with
 |none=>ug P nx (ef ov fr) H g.op fun r H' nx'=>ih nx' (gO ov g.dst none r) fr H' K
 |some (d,want)=>match oZ ov fr d with
  |(none, .sc (.bool t))=>eH t want (ug P nx (ef ov fr) H g.op fun r H' nx'=>ih nx' (gO ov g.dst none r) fr H' K) (ih (nx+1) (gO ov g.dst none (.sc undef)) fr H K)
   (match want with
    |true=>kx P nx t (ef ov fr) H g.op fun r=>ih (nx+1) (gO ov g.dst (some t) r) fr H K
    |false=>kx P nx (!t) (ef ov fr) H g.op fun r=>ih (nx+1) (gO ov g.dst (some !t) r) fr H K)
  |(some q, .sc (.bool t))=>(match want with
   |true=>kx P nx (q&&t) (ef ov fr) H g.op fun r=>ih (nx+1) (gO ov g.dst (some (q&&t)) r) fr H K
   |false=>kx P nx (q&& !t) (ef ov fr) H g.op fun r=>ih (nx+1) (gO ov g.dst (some (q&& !t)) r) fr H K)
  |(none, .sc (.tuple _))=>ih (nx+1) (gO ov g.dst none (.sc undef)) fr H K
  |_=>False
noncomputable def BK (nx:Nat) (gs:List gE) (ov:Ov) (fr:Fr) (H:Hp) (K:Ov→Hp→Nat→Prop):Prop:=List.rec (motive:=fun _=>zk) ui (oQ P) gs nx ov fr H K
def CK (R:Raw) (op:dJ):List Nat:=if op.rd then op.eD.flatMap (fun x=>iE (R x).2) else[]
noncomputable def mO (id:Nat) (R:Raw) (H:Hp) (op:dJ) (K:AV→Option (Nat×eT)→List Nat→Prop):Prop:=
 match op with
 | .call f args=>dB none R f fun fv=>ja none R args fun as=>match fv with
  | .fn (.func g) first caps=>oY (first++as++caps) fun as=>jT P id g as H K
  |_=>False
 |op=>oH none H R id op fun r u=>K r u (CK R op)
noncomputable def iP (id:Nat) (g:Bool) (R:Raw) (H:Hp) (op:dJ) (K:AV→List Nat→Prop):Prop:=
 match op with
 | .call f args=>dB (some g) R f fun fv=>ja (some g) R args fun as=>match fv with
  | .fn (.func q) first caps=>oY (first++as++caps) fun as=>sA P g id q as H K
  |_=>False
 |op=>oH (some g) H R id op fun r u=>match u with
  |none=>K r (CK R op)
  |some _=>False
abbrev P4:=Nat→Ov→Fr→Hp→Tr→(Ov→Hp→Tr→Prop)→Prop
def D8 (_:Nat) (ov:Ov) (_:Fr) (H:Hp) (tr:Tr) (K:Ov→Hp→Tr→Prop):Prop:=K ov H tr
noncomputable def nJ (g:gE) (_:List gE) (ih:P4) (id:Nat) (ov:Ov) (fr:Fr) (H:Hp) (tr:Tr) (K:Ov→Hp→Tr→Prop):Prop:=match g.guard with
 |none=>mO P id (ef ov fr) H g.op fun r u S=>ih (id+1) (gO ov g.dst none r) fr (dF H u) (tr++[(S,u.map (·.1))]) K
 |some (d,want)=>match oZ ov fr d with
  |(none, .sc (.bool t))=>eH t want (mO P id (ef ov fr) H g.op fun r u S=>ih (id+1) (gO ov g.dst none r) fr (dF H u) (tr++[(S,u.map (·.1))]) K) (ih (id+1) (gO ov g.dst none (.sc undef)) fr H (tr++[([],none)]) K)
   (match want with
    |true=>iP P id t (ef ov fr) H g.op fun r S=>ih (id+1) (gO ov g.dst (some t) r) fr H (tr++[(S,none)]) K
    |false=>iP P id (!t) (ef ov fr) H g.op fun r S=>ih (id+1) (gO ov g.dst (some !t) r) fr H (tr++[(S,none)]) K)
  |(some q, .sc (.bool t))=>(match want with
   |true=>iP P id (q&&t) (ef ov fr) H g.op fun r S=>ih (id+1) (gO ov g.dst (some (q&&t)) r) fr H (tr++[(S,none)]) K
   |false=>iP P id (q&& !t) (ef ov fr) H g.op fun r S=>ih (id+1) (gO ov g.dst (some (q&& !t)) r) fr H (tr++[(S,none)]) K)
  |(none, .sc (.tuple _))=>ih (id+1) (gO ov g.dst none (.sc undef)) fr H (tr++[([],none)]) K
  |_=>False
noncomputable def WD (id:Nat) (gs:List gE) (ov:Ov) (fr:Fr) (H:Hp) (tr:Tr) (K:Ov→Hp→Tr→Prop):Prop:=List.rec (motive:=fun _=>P4) D8 (nJ P) gs id ov fr H tr K
noncomputable def NV (S:List Nat):(List Nat→Prop)→Prop:=List.rec (motive:=fun _=>(List Nat→Prop)→Prop) (fun K=>K []) (fun b _ ih K=>ih fun S'=>K (b::S')) S
theorem qm:∀(S:List Nat) (K:List Nat→Prop),NV S K=K S
 |[],_=>rfl
 |b::S,K=>qm S fun S'=>K (b::S')
def uW (u:Option (Nat×eT)) (K:Option Nat→Prop):Prop:=match u with
 |none=>K none
 |some (b,_)=>K (some b)
theorem PW (u:Option (Nat×eT)) (K:Option Nat→Prop):uW u K=K (u.map (·.1)):=by
 cases u<;>rfl
noncomputable def tS (g:gE) (_:List gE) (ih:P4) (id:Nat) (ov:Ov) (fr:Fr) (H:Hp) (tr:Tr) (K:Ov→Hp→Tr→Prop):Prop:=match g.guard with
 |none=>mO P id (ef ov fr) H g.op fun r u S=>NV S fun S=>uW u fun x=>ih (id+1) (gO ov g.dst none r) fr (dF H u) ((S,x)::tr) K
 |some (d,want)=>match oZ ov fr d with
  |(none, .sc (.bool t))=>eH t want (mO P id (ef ov fr) H g.op fun r u S=>NV S fun S=>uW u fun x=>ih (id+1) (gO ov g.dst none r) fr (dF H u) ((S,x)::tr) K) (ih (id+1) (gO ov g.dst none (.sc undef)) fr H (([],none)::tr) K)
   (match want with
    |true=>iP P id t (ef ov fr) H g.op fun r S=>NV S fun S=>ih (id+1) (gO ov g.dst (some t) r) fr H ((S,none)::tr) K
    |false=>iP P id (!t) (ef ov fr) H g.op fun r S=>NV S fun S=>ih (id+1) (gO ov g.dst (some !t) r) fr H ((S,none)::tr) K)
  |(some q, .sc (.bool t))=>(match want with
   |true=>iP P id (q&&t) (ef ov fr) H g.op fun r S=>NV S fun S=>ih (id+1) (gO ov g.dst (some (q&&t)) r) fr H ((S,none)::tr) K
   |false=>iP P id (q&& !t) (ef ov fr) H g.op fun r S=>NV S fun S=>ih (id+1) (gO ov g.dst (some (q&& !t)) r) fr H ((S,none)::tr) K)
  |(none, .sc (.tuple _))=>ih (id+1) (gO ov g.dst none (.sc undef)) fr H (([],none)::tr) K
  |_=>False
noncomputable def WE (id:Nat) (gs:List gE) (ov:Ov) (fr:Fr) (H:Hp) (tr:Tr) (K:Ov→Hp→Tr→Prop):Prop:=List.rec (motive:=fun _=>P4) D8 (tS P) gs id ov fr H tr K
theorem uf:∀(gs:List gE) (id:Nat) (ov:Ov) (fr:Fr) (H:Hp) (tr:Tr) (K:Ov→Hp→Tr→Prop),WE P id gs ov fr H tr K=WD P id gs ov fr H tr.reverse fun ov H t=>K ov H t.reverse
 |[],id,ov,fr,H,tr,K=>by
  show K ov H tr=K ov H tr.reverse.reverse
  rw[List.reverse_reverse]
 |g::gs,id,ov,fr,H,tr,K=>by
  have ih:=uf gs
  show tS P g gs (fun id ov fr H tr K=>WE P id gs ov fr H tr K) id ov fr H tr K=nJ P g gs (fun id ov fr H tr K=>WD P id gs ov fr H tr K) id ov fr H tr.reverse fun ov H t=>K ov H t.reverse
  simp only[tS,nJ,qm,PW,ih,List.reverse_cons]
noncomputable def I8 (s:pK) (_:List pK) (ih:zk) (nx:Nat) (ov:Ov) (fr:Fr) (H:Hp) (K:Ov→Hp→Nat→Prop):Prop:=match s.ops with
 |[g]=>BK P nx [g] ov fr H fun ov' H' nx'=>ih nx' ov' fr H' K
 |gs=>WE P nx gs ov fr H [] fun ov' H' tr=>(match s.ps with
  |[]=>ih (nx+gs.length) ov' fr H' K
  |p::ps=>Ask (iC tr.reverse (p::ps))∧ih (nx+gs.length) ov' fr H' K)
noncomputable def WS (nx:Nat) (segs:List pK) (ov:Ov) (fr:Fr) (H:Hp) (K:Ov→Hp→Nat→Prop):Prop:=List.rec (motive:=fun _=>zk) ui (I8 P) segs nx ov fr H K
structure iH (n lo:Nat) (x:LC) (fr:Fr) (H:Hp) (nx:Nat) (Q:QT):Prop where
 ok:WL P n lo (.loop x) fr H nx Q
abbrev WT:=Fr→Hp→Nat→QT→Prop
def MY (fr:Fr) (H:Hp) (nx:Nat) (Q:QT):Prop:=Q .normal fr H nx
noncomputable def D9 (gs:List gE) (fr:Fr) (H:Hp) (nx:Nat) (Q:QT):Prop:=BK P nx gs [] fr H fun ov H' nx'=>Q .normal (gh ov fr) H' nx'
structure fY (segs:List pK) (fr:Fr) (H:Hp) (nx:Nat) (Q:QT):Prop where
 ok:∀n lo,WL P n lo (.drawn segs) fr H nx Q
def JA (segs:List pK) (fr:Fr) (H:Hp) (nx:Nat) (Q:QT):Prop:=fY P segs fr H nx Q
def OT (_ _:LC) (ia ib:WT) (fr:Fr) (H:Hp) (nx:Nat) (Q:QT):Prop:=ia fr H nx (jQ (fun fr H nx=>ib fr H nx Q) Q)
def xn (c:dv) (_ _:LC) (ia ib:WT) (fr:Fr) (H:Hp) (nx:Nat) (Q:QT):Prop:=match ev fr c with
 | .sc (.bool t)=>fE t (ia fr H nx Q) (ib fr H nx Q)
 | .ab=>ia fr H nx Q∧ib fr H nx Q
 |_=>False
def I9 (id:Nat) (_:LC) (ia:WT) (fr:Fr) (H:Hp) (nx:Nat) (Q:QT):Prop:=ia fr H nx (tg id Q)
def MX (n lo:Nat) (a:LC) (_:WT) (fr:Fr) (H:Hp) (nx:Nat) (Q:QT):Prop:=iH P n lo a fr H nx Q
def MW (id:Nat) (fr:Fr) (H:Hp) (nx:Nat) (Q:QT):Prop:=Q (.exit id) fr H nx
def OS (fr:Fr) (H:Hp) (nx:Nat) (Q:QT):Prop:=Q .ret fr H nx
noncomputable def W (n lo:Nat) (lc:LC):WT:=LC.rec (motive:=fun _=>WT) MY (D9 P) (JA P) OT xn I9 (MX P n lo) MW OS lc
end
section
variable {P:Program}
theorem oq {nx:Nat} {ov:Ov} {f fr:Fr} {H:Hp} {op:dJ} {K:AV→Hp→Nat→Prop} (hF:oO f ov fr) (h:ug P nx (ef ov fr) H op K):db P nx f H op K:=by
 by_cases hc:∃g as,op= .call g as
 ·obtain⟨fo,as,rfl⟩:=hc
  simp only[ug] at h
  obtain⟨h1,h2⟩:=cG h
  obtain⟨h3,h4⟩:=eu h2
  simp only[db]
  rw[hF.raw fo (h1 trivial),kL (R:=ef ov fr) fun x hx=>hF.raw x (h3 trivial x hx)]
  split at h4
  ·rename_i he
   rw[he]
   rw[iD] at h4
   exact h4.ok
  ·rename_i he
   rw[he]
   rw[iD] at h4
   exact h4.ok
  ·exact h4.elim
 ·have e1:ug P nx (ef ov fr) H op K=oH none H (ef ov fr) nx op fun r u=>K r (dF H u) (nx+1):=by cases op<;>first|rfl|exact absurd ⟨_,_,rfl⟩ hc
  have e2:db P nx f H op K=jS (bt nx f H op) fun p=>K p.1 (dF H p.2) (nx+1):=by cases op<;>first|rfl|exact absurd ⟨_,_,rfl⟩ hc
  rw[e1] at h
  obtain⟨r,u,h1,h2⟩:=j5 h
  rw[e2,(h2 trivial).2 f fun x hx=>hF.raw x hx]
  exact h1
theorem tU {nx:Nat} {g:Bool} {ov:Ov} {fr:Fr} {H:Hp} {op:dJ} {K:AV→Prop} (h:kx P nx g (ef ov fr) H op K):
 ∃r,K r∧(g=true→∀f,oO f ov fr→∀K':AV→Hp→Nat→Prop,K' r H (nx+1)→db P nx f H op K'):=by
 by_cases hc:∃g as,op= .call g as
 ·obtain⟨fo,as,rfl⟩:=hc
  simp only[kx] at h
  obtain⟨h1,h2⟩:=cG h
  obtain⟨h3,h4⟩:=eu h2
  split at h4
  ·rename_i he
   rw[iD] at h4
   obtain⟨r,h5,h6⟩:=h4.ok
   refine⟨r,h6,fun hg f hF K' hK'=> ?_⟩
   simp only[db]
   rw[hF.raw fo (h1 hg),kL (R:=ef ov fr) fun x hx=>hF.raw x (h3 hg x hx),he]
   exact h5 hg K' hK'
  ·exact h4.elim
 ·have e1:kx P nx g (ef ov fr) H op K=oH (some g) H (ef ov fr) nx op fun r u=>match u with|none=>K r|some _=>False:=by cases op<;>first|rfl|exact absurd ⟨_,_,rfl⟩ hc
  rw[e1] at h
  obtain⟨r,u,h1,h2⟩:=j5 h
  cases u with
  |some p=>exact h1.elim
  |none=>
   refine⟨r,h1,fun hg f hF K' hK'=> ?_⟩
   have e2:db P nx f H op K'=jS (bt nx f H op) fun p=>K' p.1 (dF H p.2) (nx+1):=by cases op<;>first|rfl|exact absurd ⟨_,_,rfl⟩ hc
   rw[e2,(h2 hg).2 f fun x hx=>hF.raw x hx]
   exact hK'
theorem fN:∀{gs:List gE} {nx:Nat} {ov:Ov} {f fr:Fr} {H:Hp} {K:Ov→Hp→Nat→Prop},oO f ov fr→BK P nx gs ov fr H K→eU P nx gs f H (fun f1 H1 nx1=>∃ov1,oO f1 ov1 fr∧K ov1 H1 nx1)
 |[],nx,ov,f,fr,H,K,hF,h=>⟨ov,hF,h⟩
 |g::gs,nx,ov,f,fr,H,K,hF,h=>by
  have join:∀{q t:Bool} {d:Nat} {want:Bool},g.guard=some (d,want)→(q=true→cY f d= .sc (.bool t))→(q=false→cY f d= .sc undef)→∀{gg:Bool},(gg=true↔(q=true∧t=want))→
   (kx P nx gg (ef ov fr) H g.op fun r=>BK P (nx+1) gs (gO ov g.dst (some gg) r) fr H K)→eU P nx (g::gs) f H (fun f1 H1 nx1=>∃ov1,oO f1 ov1 fr∧K ov1 H1 nx1):=by
   intro q t d want hg hq1 hq2 gg hgg hJ
   obtain⟨r,h1,h2⟩:=tU hJ
   simp only[eU,hg,dD]
   cases q with
   |true=>
    simp only[hq1 rfl]
    by_cases ht:t=want
    ·rw[if_pos ht]
     have hgt:=hgg.2 ⟨rfl,ht⟩
     exact h2 hgt f hF _ (fN (hF.qt g.dst (u:=r) (fun _=>rfl) fun h=>by rw[hgt] at h;cases h) h1)
    ·rw[if_neg ht]
     have hgf:gg=false:=by cases hgg':gg<;>simp_all
     exact fN (hF.qt g.dst (u:= .sc undef) (fun h=>by rw[hgf] at h;cases h) fun _=>rfl) h1
   |false=>
    simp only[hq2 rfl]
    have hgf:gg=false:=by cases hgg':gg<;>simp_all
    have:=fN (hF.qt g.dst (u:= .sc undef) (q:=gg) (fun h=>by rw[hgf] at h;cases h) fun _=>rfl) h1
    exact this
  have h:oQ P g gs (fun nx ov fr H K=>BK P nx gs ov fr H K) nx ov fr H K:=h
  simp only[oQ] at h
  split at h
  ·rename_i hg
   simp only[eU,hg,dD]
   exact(oq hF h).mono fun r H' nx' hh=>fN (hF.put g.dst r) hh
  ·rename_i d want hg
   have hd:=hF d
   split at h
   ·rename_i t he
    rw[he] at hd
    simp only at hd
    rcases h.ok with⟨hA,hB⟩|hJ
    ·simp only[eU,hg,dD,hd]
     by_cases ht:t=want
     ·rw[if_pos ht]
      exact(oq hF (hA ht)).mono fun r H' nx' hh=>fN (hF.put g.dst r) hh
     ·rw[if_neg ht]
      exact fN (hF.put g.dst _) (hB ht)
    ·cases want with
     |true=>exact join (q:=true) hg (fun _=>hd) (fun h=>by cases h) (gg:=t) (by simp) hJ
     |false=>exact join (q:=true) hg (fun _=>hd) (fun h=>by cases h) (gg:= !t) (by simp) hJ
   ·rename_i q t he
    rw[he] at hd
    simp only at hd
    cases want with
    |true=>exact join hg hd.1 hd.2 (gg:=q&&t) (by simp) h
    |false=>exact join hg hd.1 hd.2 (gg:=q&& !t) (by simp) h
   ·rename_i v he
    rw[he] at hd
    simp only at hd
    simp only[eU,hg,dD,hd]
    exact fN (hF.put g.dst _) h
   ·exact h.elim
def BI:Tr→Tr→Prop
 |[],[]=>True
 |a::r,b::s=>(∀x∈a.1,x∈b.1)∧a.2=b.2∧BI r s
 |_,_=>False
theorem BI.snoc {a b:List Nat} {u:Option Nat} (h1:∀x∈a,x∈b):∀{r s:Tr},BI r s→BI (r++[(a,u)]) (s++[(b,u)])
 |[],[],_=>⟨h1,rfl,trivial⟩
 |x::r,y::s,h=>⟨h.1,h.2.1,BI.snoc h1 h.2.2⟩
 |[],_::_,h=>h.elim
 |_::_,[],h=>h.elim
theorem BI.get:∀{r s:Tr},BI r s→∀k,(∀x∈(r.getD k ([],none)).1,x∈(s.getD k ([],none)).1)∧(r.getD k ([],none)).2=(s.getD k ([],none)).2
 |[],[],_,k=>by simp
 |x::r,y::s,h,0=>⟨h.1,h.2.1⟩
 |x::r,y::s,h,k+1=>by simpa using BI.get h.2.2 k
 |[],_::_,h,_=>h.elim
 |_::_,[],h,_=>h.elim
theorem BI.BZ {r s:Tr} (h:BI r s) {ps:List (Nat×Nat)} (hf:iC s ps):iC r ps:=by
 intro p hp
 obtain⟨h1,h2,h3⟩:=hf p hp
 obtain⟨a1,a2⟩:=h.get p.1
 obtain⟨b1,b2⟩:=h.get p.2
 exact⟨fun b hb hm=>h1 b (by rw[←a2];exact hb) (b1 b hm),fun b hb hm=>h2 b (by rw[←b2];exact hb) (a1 b hm),fun b hb=>h3 b ⟨by rw[←a2];exact hb.1,by rw[←b2];exact hb.2⟩⟩
theorem AE {ov:Ov} {f fr:Fr} {op:dJ} (hF:oO f ov fr) (h:op.rd=true→∀y∈op.eD,C5 (ef ov fr) y):∀x∈eK f op,x∈CK (ef ov fr) op:=by
 intro x hx
 unfold eK at hx
 unfold CK
 split at hx
 ·rename_i hr
  rw[if_pos hr]
  obtain⟨y,hy,hm⟩:=List.mem_flatMap.1 hx
  exact List.mem_flatMap.2 ⟨y,hy,by rw[←hF.raw y (h hr y hy)];exact hm⟩
 ·cases hx
theorem nK {id:Nat} {ov:Ov} {fr:Fr} {H:Hp} {op:dJ} {K:AV→Option (Nat×eT)→List Nat→Prop} (h:mO P id (ef ov fr) H op K) {f:Fr} (hF:oO f ov fr):
 jV P id f H op (fun r u S'=>∃S,(∀x∈S',x∈S)∧K r u S):=by
 by_cases hc:∃g as,op= .call g as
 ·obtain⟨fo,as,rfl⟩:=hc
  simp only[mO] at h
  obtain⟨h1,h2⟩:=cG h
  obtain⟨h3,h4⟩:=eu h2
  split at h4
  ·rename_i he
   rw[iD] at h4
   obtain⟨r,u,S,h5,h6⟩:=h4.ok
   refine⟨r,u,S, ?_,S,fun _ h=>h,h6⟩
   rw[hF.raw fo (h1 trivial),kL (R:=ef ov fr) fun x hx=>hF.raw x (h3 trivial x hx),he]
   simpa[mH] using h5
  ·exact h4.elim
 ·have e1:mO P id (ef ov fr) H op K=oH none H (ef ov fr) id op fun r u=>K r u (CK (ef ov fr) op):=by cases op<;>first|rfl|exact absurd ⟨_,_,rfl⟩ hc
  rw[e1] at h
  obtain⟨r,u,h1,h2⟩:=j5 h
  obtain⟨h3,h4⟩:=h2 trivial
  have e2:∀K',jV P id f H op K'=jS (bt id f H op) fun p=>K' p.1 p.2 (eK f op):=by intro K';cases op<;>first|rfl|exact absurd ⟨_,_,rfl⟩ hc
  rw[e2,h4 f fun x hx=>hF.raw x hx]
  exact⟨_,AE hF h3,h1⟩
theorem tT {id:Nat} {g:Bool} {ov:Ov} {fr:Fr} {H:Hp} {op:dJ} {K:AV→List Nat→Prop} (h:iP P id g (ef ov fr) H op K):
 ∃r S,K r S∧(g=true→∀f,oO f ov fr→∀K':AV→Option (Nat×eT)→List Nat→Prop,(∀S',(∀x∈S',x∈S)→K' r none S')→jV P id f H op K'):=by
 by_cases hc:∃g as,op= .call g as
 ·obtain⟨fo,as,rfl⟩:=hc
  simp only[iP] at h
  obtain⟨h1,h2⟩:=cG h
  obtain⟨h3,h4⟩:=eu h2
  split at h4
  ·rename_i he
   rw[iD] at h4
   obtain⟨r,S,h5,h6⟩:=h4.ok
   refine⟨r,S,h6,fun hg f hF K' hK'=>⟨r,none,S, ?_,hK' S fun _ h=>h⟩⟩
   rw[hF.raw fo (h1 hg),kL (R:=ef ov fr) fun x hx=>hF.raw x (h3 hg x hx),he]
   simpa[mH] using h5 hg
  ·exact h4.elim
 ·have e1:iP P id g (ef ov fr) H op K=oH (some g) H (ef ov fr) id op fun r u=>match u with|none=>K r (CK (ef ov fr) op)|some _=>False:=by cases op<;>first|rfl|exact absurd ⟨_,_,rfl⟩ hc
  rw[e1] at h
  obtain⟨r,u,h1,h2⟩:=j5 h
  cases u with
  |some p=>exact h1.elim
  |none=>
   refine⟨r,_,h1,fun hg f hF K' hK'=> ?_⟩
   obtain⟨h3,h4⟩:=h2 hg
   have e2:jV P id f H op K'=jS (bt id f H op) fun p=>K' p.1 p.2 (eK f op):=by cases op<;>first|rfl|exact absurd ⟨_,_,rfl⟩ hc
   rw[e2,h4 f fun x hx=>hF.raw x hx]
   exact hK' _ (AE hF h3)
theorem fZ:∀{gs:List gE} {id:Nat} {ov:Ov} {f fr:Fr} {H:Hp} {tr tr':Tr} {K:Ov→Hp→Tr→Prop},oO f ov fr→BI tr' tr→WD P id gs ov fr H tr K→hX P id gs f H tr' (fun f1 H1 tr1=>∃ov1 trj,oO f1 ov1 fr∧BI tr1 trj∧K ov1 H1 trj)
 |[],id,ov,f,fr,H,tr,tr',K,hF,hT,h=>⟨ov,tr,hF,hT,h⟩
 |g::gs,id,ov,f,fr,H,tr,tr',K,hF,hT,h=>by
  have join:∀{q t:Bool} {d:Nat} {want:Bool},g.guard=some (d,want)→(q=true→cY f d= .sc (.bool t))→(q=false→cY f d= .sc undef)→∀{gg:Bool},(gg=true↔(q=true∧t=want))→
   (iP P id gg (ef ov fr) H g.op fun r S=>WD P (id+1) gs (gO ov g.dst (some gg) r) fr H (tr++[(S,none)]) K)→hX P id (g::gs) f H tr' (fun f1 H1 tr1=>∃ov1 trj,oO f1 ov1 fr∧BI tr1 trj∧K ov1 H1 trj):=by
   intro q t d want hg hq1 hq2 gg hgg hJ
   obtain⟨r,S,h1,h2⟩:=tT hJ
   simp only[hX,hg,dD]
   cases q with
   |true=>
    simp only[hq1 rfl]
    by_cases ht:t=want
    ·rw[if_pos ht]
     have hgt:=hgg.2 ⟨rfl,ht⟩
     refine h2 hgt f hF _ fun S' hS=> ?_
     exact fZ (hF.qt g.dst (u:=r) (fun _=>rfl) fun h=>by rw[hgt] at h;cases h) (hT.snoc hS) h1
    ·rw[if_neg ht]
     have hgf:gg=false:=by cases hgg':gg<;>simp_all
     exact fZ (hF.qt g.dst (u:= .sc undef) (fun h=>by rw[hgf] at h;cases h) fun _=>rfl) (hT.snoc (a:=[]) (b:=S) (fun _ h=>by cases h)) h1
   |false=>
    simp only[hq2 rfl]
    have hgf:gg=false:=by cases hgg':gg<;>simp_all
    have:=fZ (hF.qt g.dst (u:= .sc undef) (q:=gg) (fun h=>by rw[hgf] at h;cases h) fun _=>rfl) (hT.snoc (a:=[]) (b:=S) (fun _ h=>by cases h)) h1
    exact this
  have h:nJ P g gs (fun id ov fr H tr K=>WD P id gs ov fr H tr K) id ov fr H tr K:=h
  simp only[nJ] at h
  split at h
  ·rename_i hg
   simp only[hX,hg,dD]
   refine(nK h hF).mono ?_
   rintro r u S' ⟨S,hS,hh⟩
   exact fZ (hF.put g.dst r) (hT.snoc hS) hh
  ·rename_i d want hg
   have hd:=hF d
   split at h
   ·rename_i t he
    rw[he] at hd
    simp only at hd
    rcases h.ok with⟨hA,hB⟩|hJ
    ·simp only[hX,hg,dD,hd]
     by_cases ht:t=want
     ·rw[if_pos ht]
      refine(nK (hA ht) hF).mono ?_
      rintro r u S' ⟨S,hS,hh⟩
      exact fZ (hF.put g.dst r) (hT.snoc hS) hh
     ·rw[if_neg ht]
      exact fZ (hF.put g.dst _) (hT.snoc (a:=[]) (b:=[]) (fun _ h=>h)) (hB ht)
    ·cases want with
     |true=>exact join (q:=true) hg (fun _=>hd) (fun h=>by cases h) (gg:=t) (by simp) hJ
     |false=>exact join (q:=true) hg (fun _=>hd) (fun h=>by cases h) (gg:= !t) (by simp) hJ
   ·rename_i q t he
    rw[he] at hd
    simp only at hd
    cases want with
    |true=>exact join hg hd.1 hd.2 (gg:=q&&t) (by simp) h
    |false=>exact join hg hd.1 hd.2 (gg:=q&& !t) (by simp) h
   ·rename_i v he
    rw[he] at hd
    simp only at hd
    simp only[hX,hg,dD,hd]
    exact fZ (hF.put g.dst _) (hT.snoc (a:=[]) (b:=[]) (fun _ h=>h)) h
   ·exact h.elim
theorem jk:∀{segs:List pK} {nx:Nat} {ov:Ov} {f fr:Fr} {H:Hp} {K:Ov→Hp→Nat→Prop},oO f ov fr→WS P nx segs ov fr H K→gN P nx segs f H (fun f1 H1 nx1=>∃ov1,oO f1 ov1 fr∧K ov1 H1 nx1)
 |[],nx,ov,f,fr,H,K,hF,h=>⟨ov,hF,h⟩
 |⟨[g],ps⟩::rest,nx,ov,f,fr,H,K,hF,h=>by
  have h:BK P nx [g] ov fr H fun ov' H' nx'=>WS P nx' rest ov' fr H' K:=h
  refine eU.mono (K':=fun a b c=>gN P c rest a b _) (fN hF h) ?_
  rintro f1 H1 nx1 ⟨ov1,h1,h2⟩
  exact jk h1 h2
 |⟨[],[]⟩::rest,nx,ov,f,fr,H,K,hF,h=>by
  have h:WE P nx [] ov fr H [] fun ov' H' _=>WS P (nx+0) rest ov' fr H' K:=h
  rw[uf,List.reverse_nil] at h
  simp only[gN]
  refine hX.mono (fZ hF (tr':=[]) (tr:=[]) trivial h) ?_
  rintro f1 H1 tr1 ⟨ov1,trj,h1,h2,h3⟩
  exact⟨(fun p hp=>by cases hp),jk h1 h3⟩
 |⟨[],p::ps⟩::rest,nx,ov,f,fr,H,K,hF,h=>by
  have h:WE P nx [] ov fr H [] fun ov' H' tr=>Ask (iC tr.reverse (p::ps))∧WS P (nx+0) rest ov' fr H' K:=h
  rw[uf,List.reverse_nil] at h
  simp only[List.reverse_reverse] at h
  simp only[gN]
  refine hX.mono (fZ hF (tr':=[]) (tr:=[]) trivial h) ?_
  rintro f1 H1 tr1 ⟨ov1,trj,h1,h2,h3⟩
  exact⟨h2.BZ h3.1.ok,jk h1 h3.2⟩
 |⟨g1::g2::gs,[]⟩::rest,nx,ov,f,fr,H,K,hF,h=>by
  have h:WE P nx (g1::g2::gs) ov fr H [] fun ov' H' _=>WS P (nx+(g1::g2::gs).length) rest ov' fr H' K:=h
  rw[uf,List.reverse_nil] at h
  simp only[gN]
  refine hX.mono (fZ hF (tr':=[]) (tr:=[]) trivial h) ?_
  rintro f1 H1 tr1 ⟨ov1,trj,h1,h2,h3⟩
  exact⟨(fun p hp=>by cases hp),jk h1 h3⟩
 |⟨g1::g2::gs,p::ps⟩::rest,nx,ov,f,fr,H,K,hF,h=>by
  have h:WE P nx (g1::g2::gs) ov fr H [] fun ov' H' tr=>Ask (iC tr.reverse (p::ps))∧WS P (nx+(g1::g2::gs).length) rest ov' fr H' K:=h
  rw[uf,List.reverse_nil] at h
  simp only[List.reverse_reverse] at h
  simp only[gN]
  refine hX.mono (fZ hF (tr':=[]) (tr:=[]) trivial h) ?_
  rintro f1 H1 tr1 ⟨ov1,trj,h1,h2,h3⟩
  exact⟨h2.BZ h3.1.ok,jk h1 h3.2⟩
theorem Holds.less {w0:World} {M0:Nat→Prop} {c0:Cx} {lo n:Nat} {fr fr':Fr} {H:Hp} {nx:Nat} {a:Act} {w:World} (h:Holds w0 M0 c0 lo n fr H nx a w) (hf:∀t,cY fr' t= .any∨cY fr' t=cY fr t):Holds w0 M0 c0 lo n fr' H nx a w:=by
 obtain⟨h1,h2,ρ,U,hU,hS,hF,hT⟩:=h
 refine⟨h1,h2,ρ,U,hU,hS,fun t=> ?_,hT⟩
 rcases hf t with h|h
 ·rw[h,VR];trivial
 ·rw[h];exact hF t
theorem WL.less {n lo:Nat} {lc:LC} {fr:Fr} {H:Hp} {nx:Nat} {Q:QT} (h:WL P n lo lc fr H nx (fun e f H nx=>∃f',(∀t,cY f' t= .any∨cY f' t=cY f t)∧Q e f' H nx)):WL P n lo lc fr H nx Q:=
 fun code hc w0 M0 c0 a w hh=>Code.wp_mono (fun _ _ _ ⟨x,f,H,nx,he,⟨f',h1,h2⟩,hhh⟩=>⟨x,f',H,nx,he,h2,hhh.less h1⟩) (h code hc w0 M0 c0 a w hh)
theorem oO.less {f:Fr} {ov:Ov} {fr:Fr} (h:oO f ov fr) (t:Nat):cY (gh ov fr) t= .any∨cY (gh ov fr) t=cY f t:=by
 rcases mY (ov:=ov) (fr:=fr) (t:=t) with h1|⟨v,h1,h2⟩
 ·exact .inl h1
 ·have:=h t
  rw[h1] at this
  exact .inr (h2.trans this.symm)
theorem fY.of {segs:List pK} {fr:Fr} {H:Hp} {nx:Nat} {Q:QT} (h:WS P nx segs [] fr H fun ov H' nx'=>Q .normal (gh ov fr) H' nx'):fY P segs fr H nx Q:=
 ⟨fun _ _=>WL.less (WL.drawn (gN.mono (jk (oO.refl fr) h) fun _ _ _ ⟨_,h1,h2⟩=>⟨_,h1.less,h2⟩))⟩
theorem fg {n lo:Nat}:∀{lc:LC} {fr:Fr} {H:Hp} {nx:Nat} {Q:QT},W P n lo lc fr H nx Q→WL P n lo lc fr H nx Q
 | .skip,_,_,_,_,h=>WL.skip h
 | .ret,_,_,_,_,h=>WL.ret h
 | .exit _,_,_,_,_,h=>WL.exit h
 | .region gs,fr,H,nx,Q,h=>WL.less (WL.region (eU.mono (fN (oO.refl fr) h) fun _ _ _ ⟨_,h1,h2⟩=>⟨_,h1.less,h2⟩))
 | .drawn segs,fr,H,nx,Q,h=>fY.ok (P:=P) h n lo
 | .seq a b,fr,H,nx,Q,h=>WL.seq ((fg (lc:=a) (Q:=jQ (fun fr H nx=>W P n lo b fr H nx Q) Q) h).mono fun e fr H nx hh=>by
  cases e with
  |normal=>exact fg (lc:=b) hh
  |exit id=>exact hh
  |ret=>exact hh)
 | .cond c a b,fr,H,nx,Q,h=>by
  have h:xn c a b (W P n lo a) (W P n lo b) fr H nx Q:=h
  simp only[xn] at h
  split at h
  ·rename_i t ht
   exact WL.cond ht (fun h1=>fg (lc:=a) (h.ok.1 h1)) (fun h1=>fg (lc:=b) (h.ok.2 h1))
  ·rename_i ht
   exact WL.M9 ht (fg (lc:=a) h.1) (fg (lc:=b) h.2)
  ·exact h.elim
 | .block id a,fr,H,nx,Q,h=>WL.block (fg (lc:=a) h)
 | .loop a,fr,H,nx,Q,h=>h.ok
theorem iH.inv {n lo:Nat} {x:LC} {fr:Fr} {H:Hp} {nx:Nat} {Q:QT} {σ:Type} (I:σ→Fr→Hp→Nat→Prop) (μ:σ→Nat) (s0:σ) (h0:∃fr',(∀t,cY fr' t= .any∨cY fr' t=cY fr t)∧I s0 fr' H nx)
 (round:∀s fr H nx,I s fr H nx→WL P n lo x fr H nx (jQ (fun fr' H' nx'=>∃s',μ s'<μ s∧∃fr2,(∀t,cY fr2 t= .any∨cY fr2 t=cY fr' t)∧I s' fr2 H' nx') Q)):iH P n lo x fr H nx Q:=by
 refine⟨fun code hc w0 M0 c0 a w hh=> ?_⟩
 have:∃c1,code= .loop c1∧cp P n c1=some x:=by
  cases code<;>simp only[cp] at hc
  case loop c1=>
   simp only[Option.map_eq_some_iff,LC.loop.injEq] at hc
   obtain⟨x',h1,rfl⟩:=hc
   exact⟨c1,rfl,h1⟩
  all_goals (exfalso;repeat' (split at hc))<;>simp at hc
 obtain⟨c1,rfl,h1⟩:=this
 intro b k cs
 have key:∀m,∀s,μ s=m→∀fr H nx,I s fr H nx→∀a w,Holds w0 M0 c0 lo n fr H nx a w→
  ∃e a' w',LQ w0 M0 c0 lo n Q e a' w'∧Arrives P (lone (b.at a (.code c1:: .inLoop c1::k)) cs w) b k cs e a' w':=by
  intro m
  induction m using Nat.strongRecOn with
  |_ m ih=>
   intro s hs fr H nx hI a w hh
   obtain⟨e,a1,w1,hq,harr⟩:=round s fr H nx hI c1 h1 w0 M0 c0 a w hh b (.inLoop c1::k) cs
   obtain⟨x',fr',H',nx',rfl,hQ,hh'⟩:=hq
   cases x' with
   |normal=>
    obtain⟨s',hlt,fr2,hless,hI'⟩:=hQ
    obtain⟨e2,a2,w2,hq2,harr2⟩:=ih (μ s') (by omega) s' rfl fr2 H' nx' hI' a1 w1 (hh'.less hless)
    exact⟨e2,a2,w2,hq2, .of_steps (Steps.trans harr (.one step_inLoop)) harr2⟩
   |exit id=>exact⟨_,a1,w1,⟨.exit id,fr',H',nx',rfl,hQ,hh'⟩, .pass (x:= .inLoop c1) rfl (fun _ _=> .inl (by simp[Ex.to])) harr⟩
   |ret=>exact⟨_,a1,w1,⟨.ret,fr',H',nx',rfl,hQ,hh'⟩, .pass (x:= .inLoop c1) rfl (fun _ _=> .inl (by simp[Ex.to])) harr⟩
 obtain⟨fr',hless,hI⟩:=h0
 obtain⟨e,a',w',hq,harr⟩:=key _ s0 rfl fr' H nx hI a w (hh.less hless)
 exact⟨e,a',w',hq, .of_steps (.one step_loop) harr⟩
def jZ (fr:Fr):Fr→Prop
 |[]=>True
 |(t,v)::r=>cY fr t=v∧jZ fr r
theorem gF {fr:Fr}:∀{fr':Fr},jZ fr fr'→∀t,cY fr' t= .any∨cY fr' t=cY fr t
 |[],_,t=> .inl rfl
 |(d,v)::r,h,t=>by
  simp only[cY]
  by_cases ht:t=d
  ·subst ht;rw[if_pos rfl];exact .inr h.1.symm
  ·rw[if_neg ht];exact gF h.2 t
theorem iH.fr {n lo:Nat} {x:LC} {fr:Fr} {H:Hp} {nx:Nat} {Q:QT} {σ:Type} (F:σ→Fr) (I:σ→Hp→Nat→Prop) (μ:σ→Nat) (s0:σ) (h0:jZ fr (F s0)) (h1:I s0 H nx)
 (round:∀s H nx,I s H nx→W P n lo x (F s) H nx (jQ (fun fr' H' nx'=>∃s',μ s'<μ s∧jZ fr' (F s')∧I s' H' nx') Q)):iH P n lo x fr H nx Q:=by
 refine iH.inv (fun s fr H nx=>fr=F s∧I s H nx) μ s0 ⟨F s0,gF h0,rfl,h1⟩ ?_
 rintro s fr H nx ⟨rfl,hI⟩
 refine(fg (round s H nx hI)).mono ?_
 intro e fr' H' nx' hh
 cases e with
 |normal=>
  obtain⟨s',h2,h3,h4⟩:=hh
  exact⟨s',h2,F s',gF h3,rfl,h4⟩
 |exit id=>exact hh
 |ret=>exact hh
end
end Go.cV
end
