import Derived.Test.YtmonponfppdgfaaGreatDoorM8
section
/- A run by reduction alone: the code is walked by the reducer; what is to be shown stands out as questions. -/
set_option linter.unusedSimpArgs false
set_option linter.unusedVariables false
namespace Go.Abs
open Go.RowKit
structure Ask (p:Prop):Prop where
 ok:p
def askG:Option Bool→Prop→Prop
 | none,p => Ask p
 | some g,p => Ask (g = true→p)
def Gd:Option Bool→Prop
 | none => True
 | some g => g = true
theorem askG_iff {g:Option Bool} {p:Prop}:askG g p ↔ (Gd g→p):=by
 cases g with
 | none => exact ⟨fun h _ => h.ok,fun h => ⟨h trivial⟩⟩
 | some g => exact ⟨fun h => h.ok,fun h => ⟨h⟩⟩
abbrev Ov:=List (Nat × Option Bool × AV)
def getO:Ov→Fr→Nat→Option Bool × AV
 | [],fr,t => (none,getF fr t)
 | (d,c,v) :: r,fr,t => bif Nat.beq t d then (c,v) else getO r fr t
def putO (ov:Ov) (d:Option Nat) (c:Option Bool) (v:AV):Ov :=
 match d with
 | some d => (d,c,v) :: ov
 | none => ov
def plainO:Ov→Fr→Fr
 | [],fr => fr
 | (d,none,v) :: r,fr => (d,v) :: plainO r fr
 | (d,some _,_) :: r,fr => (d,.any) :: plainO r fr
def rawO (ov:Ov) (fr:Fr):Opd→Option Bool × AV
 | .t n => getO ov fr n
 | .c v => (none,.sc v)
 | .f n => (none,.fn (.func n) [] [])
 | .m nm n => match getO ov fr n with
  | (g,.ifc t v) => (g,.fn (.method nm) [.ifc t v] [])
  | (g,_) => (g,.any)
theorem beqN_ne {t d:Nat} (h:¬ t = d):Nat.beq t d = false:=by
 cases hb:Nat.beq t d with
 | false => rfl
 | true => exact absurd (Nat.eq_of_beq_eq_true hb) h
def FrJ (f:Fr) (ov:Ov) (fr:Fr):Prop :=
 ∀ t,match getO ov fr t with
  | (none,v) => getF f t = v
  | (some q,v) => (q = true→getF f t = v)∧(q = false→getF f t = .sc undef)
theorem FrJ.refl (fr:Fr):FrJ fr [] fr:=fun _ => rfl
theorem FrJ.put {f:Fr} {ov:Ov} {fr:Fr} (h:FrJ f ov fr) (d:Option Nat) (v:AV):FrJ (putF f d v) (putO ov d none v) fr:=by
 cases d with
 | none => exact h
 | some d =>
  intro t
  simp only [putO,putF,getO,getF]
  by_cases ht:t = d
  ·subst ht;simp
  ·have:Nat.beq t d = false:=beqN_ne ht
   rw [this,if_neg ht];exact h t
theorem FrJ.putG {f:Fr} {ov:Ov} {fr:Fr} (h:FrJ f ov fr) (d:Option Nat) {q:Bool} {u v:AV} (h1:q = true→u = v) (h2:q = false→u = .sc undef):FrJ (putF f d u) (putO ov d (some q) v) fr:=by
 cases d with
 | none => exact h
 | some d =>
  intro t
  simp only [putO,putF,getO,getF]
  by_cases ht:t = d
  ·subst ht;simpa using ⟨h1,h2⟩
  ·have:Nat.beq t d = false:=beqN_ne ht
   rw [this,if_neg ht];exact h t
theorem FrJ.raw {f:Fr} {ov:Ov} {fr:Fr} (h:FrJ f ov fr) (x:Opd) (hq:∀ q,(rawO ov fr x).1 = some q→q = true):ev f x = (rawO ov fr x).2:=by
 cases x with
 | t n =>
  have:=h n
  simp only [ev,rawO] at hq ⊢
  split at this
  ·rename_i v he;rw [this,he]
  ·rename_i q v he;rw [he] at hq ⊢;exact this.1 (hq q rfl)
 | c v => rfl
 | f n => rfl
 | m nm n =>
  have:=h n
  simp only [ev,rawO] at hq ⊢
  generalize getO ov fr n = x at this hq ⊢
  obtain ⟨g,v⟩:=x
  have hv:getF f n = v:=by
   cases g with
   | none => exact this
   | some q =>
    refine this.1 (hq q ?_)
    cases v <;> rfl
  rw [hv]
  cases v <;> rfl
theorem getO_plain {fr:Fr} {t:Nat}:∀ {ov:Ov},getF (plainO ov fr) t = .any ∨ ∃ v,getO ov fr t = (none,v)∧getF (plainO ov fr) t = v
 | [] => .inr ⟨_,rfl,rfl⟩
 | (d,none,v) :: r => by
  simp only [plainO,getF,getO]
  by_cases ht:t = d
  ·subst ht;simp
  ·have:Nat.beq t d = false:=beqN_ne ht
   rw [this,if_neg ht];exact getO_plain
 | (d,some q,v) :: r => by
  simp only [plainO,getF,getO]
  by_cases ht:t = d
  ·subst ht;simp
  ·have:Nat.beq t d = false:=beqN_ne ht
   rw [this,if_neg ht];exact getO_plain
abbrev Raw:=Opd→Option Bool × AV
def fetch (g:Option Bool) (R:Raw) (x:Opd) (K:AV→Prop):Prop :=
 match R x with
 | (none,v) => K v
 | (some q,v) => askG g (q = true)∧K v
def okO (R:Raw) (x:Opd):Prop:=∀ q,(R x).1 = some q→q = true
theorem fetch_iff {g:Option Bool} {R:Raw} {x:Opd} {K:AV→Prop} (h:fetch g R x K):(Gd g→okO R x)∧K (R x).2:=by
 unfold fetch at h
 split at h
 ·rename_i v he;rw [he];exact ⟨fun _ q hq => (by rw [he] at hq;cases hq),h⟩
 ·rename_i q v he
  rw [he]
  exact ⟨fun hg q' hq => (by rw [he] at hq;cases hq;exact askG_iff.1 h.1 hg),h.2⟩
def fetchL_nil (K:List AV→Prop):Prop:=K []
def fetchL_cons (g:Option Bool) (R:Raw) (x:Opd) (_:List Opd) (ih:(List AV→Prop)→Prop) (K:List AV→Prop):Prop:=fetch g R x fun a => ih fun as => K (a :: as)
noncomputable def fetchL (g:Option Bool) (R:Raw) (xs:List Opd):(List AV→Prop)→Prop:=List.rec (motive:=fun _ => (List AV→Prop)→Prop) fetchL_nil (fetchL_cons g R) xs
theorem fetchL_iff {g:Option Bool} {R:Raw}:∀ {xs:List Opd} {K:List AV→Prop},fetchL g R xs K→(Gd g→∀ x ∈ xs,okO R x)∧K (xs.map fun x => (R x).2)
 | [],K,h => ⟨fun _ _ h => (by cases h),h⟩
 | x :: r,K,h => by
  obtain ⟨h1,h2⟩:=fetch_iff h
  obtain ⟨h3,h4⟩:=fetchL_iff h2
  refine ⟨fun hg y hy => ?_,h4⟩
  rcases List.mem_cons.1 hy with rfl|hy
  ·exact h1 hg
  ·exact h3 hg y hy
theorem evL_map {f:Fr} {R:Raw}:∀ {xs:List Opd},(∀ x ∈ xs,ev f x = (R x).2)→evL f xs = xs.map fun x => (R x).2
 | [],_ => rfl
 | x :: r,h => by
  simp only [evL,List.map_cons]
  rw [h x (by simp),evL_map fun y hy => h y (by simp [hy])]
def forceA (v:AV) (K:AV→Prop):Prop :=
 match v with
 | .sc v => K (.sc v)
 | .any => K .any
 | .im a b c => K (.im a b c)
 | .ip a b c d e => K (.ip a b c d e)
 | .sl a b => K (.sl a b)
 | .pt a b c d => K (.pt a b c d)
 | .zc => K .zc
 | .agg a => K (.agg a)
 | .tup a => K (.tup a)
 | .fn a b c => K (.fn a b c)
 | .ifc a b => K (.ifc a b)
 | .mp a => K (.mp a)
 | .ab => K .ab
 | .sv a b c d => K (.sv a b c d)
theorem forceA_eq (v:AV) (K:AV→Prop):forceA v K = K v:=by cases v <;> rfl
def forceL_nil (K:List AV→Prop):Prop:=K []
def forceL_cons (a:AV) (_:List AV) (ih:(List AV→Prop)→Prop) (K:List AV→Prop):Prop:=ih fun r' => K (a :: r')
noncomputable def forceL (l:List AV):(List AV→Prop)→Prop:=List.rec (motive:=fun _ => (List AV→Prop)→Prop) forceL_nil forceL_cons l
theorem forceL_eq:∀ (l:List AV) (K:List AV→Prop),forceL l K = K l
 | [],_ => rfl
 | a :: r,K => forceL_eq r fun r' => K (a :: r')
structure AtRow (H:Hp) (b:Nat) (K:TypeId→Nat→AV→List AV→Prop):Prop where
 ok:∃ e sz d es,getH H b = some (.row e sz d es)∧K e sz d es
theorem AtRow.of {H:Hp} {b:Nat} {K:TypeId→Nat→AV→List AV→Prop} {e:TypeId} {sz:Nat} {d:AV} {es:List AV} (h:getH H b = some (.row e sz d es)) (k:K e sz d es):AtRow H b K:=⟨⟨e,sz,d,es,h,k⟩⟩
structure Elem (es:List AV) (i:Nat) (d:AV) (K:AV→Prop):Prop where
 ok:K (es.getD i d)
theorem Elem.of {es:List AV} {i:Nat} {d:AV} {K:AV→Prop} {e:AV} (h:es.getD i d = e) (k:K e):Elem es i d K:=⟨by rw [h];exact k⟩
structure Gives {α:Type} (x:Option α) (K:α→Prop):Prop where
 ok:∃ a,x = some a∧K a
theorem Gives.of {α:Type} {x:Option α} {K:α→Prop} {a:α} (h:x = some a) (k:K a):Gives x K:=⟨⟨a,h,k⟩⟩
structure GivesG {α:Type} (g:Option Bool) (x:Option α) (K:α→Prop):Prop where
 ok:∃ a,(Gd g→x = some a)∧K a
theorem GivesG.of {α:Type} {g:Option Bool} {x:Option α} {K:α→Prop} {a:α} (h:Gd g→x = some a) (k:K a):GivesG g x K:=⟨⟨a,h,k⟩⟩
structure AtMap (H:Hp) (b:Nat) (K:TypeId→AV→List AV→Prop):Prop where
 ok:∃ e d es,getH H b = some (.row e 0 d (mapA es))∧K e d es
theorem AtMap.of {H:Hp} {b:Nat} {K:TypeId→AV→List AV→Prop} {e:TypeId} {d:AV} {es:List AV} (h:getH H b = some (.row e 0 d (mapA es))) (k:K e d es):AtMap H b K:=⟨⟨e,d,es,h,k⟩⟩
def MapW (H:Hp) (v:AV) (K:Nat→TypeId→AV→List AV→Prop):Prop :=
 match v with
 | .mp b => AtMap H b (K b)
 | _ => False
theorem MapW_sound {H:Hp} {v:AV} {K:Nat→TypeId→AV→List AV→Prop} (h:MapW H v K):∃ b e d es,mapOf H v = some (b,e,d,es)∧K b e d es:=by
 cases v <;> simp only [MapW] at h
 obtain ⟨e,d,es,h1,h2⟩:=h.ok
 exact ⟨_,e,d,es,by simp only [mapOf,h1,mapA],h2⟩
structure Ari (g:Option Bool) (k:IntKind) (n:Int) (K:Int→Prop):Prop where
 ok:∃ m,(Gd g→k.wrap n = m)∧K m
theorem Ari.of {g:Option Bool} {k:IntKind} {n:Int} {K:Int→Prop} {m:Int} (h:Gd g→k.wrap n = m) (hK:K m):Ari g k n K:=⟨⟨m,h,hK⟩⟩
section
variable (g:Option Bool) (H:Hp)
def ldW (ag:Bool) (k:Nat) (e:AV) (sz off:Nat) (K:AV→Prop):Prop :=
 match ag with
 | true => match e with
  | .agg cs => bif Nat.beq off 0 && Nat.beq k sz then K (.agg cs) else askG g (off + k ≤ cs.length)∧K (.agg ((cs.drop off).take k))
  | _ => False
 | false => match e with
  | .agg cs => Elem cs off .any fun v => forceA v K
  | .any => K .any
  | e => bif one e then forceA e K else False
def lookW (v:AV) (K:Nat→AV→Nat→Prop):Prop :=
 match v with
 | .ip sz d es i off => Elem es i d fun e => K sz e off
 | .pt b len i off => AtRow H b fun _ sz d es => askG g (es.length = len)∧Elem es i d fun e => K sz e off
 | _ => False
def elemsW (k:Nat) (v:AV) (K:List AV→Prop):Prop :=
 match v with
 | .im sz _ es => bif Nat.beq sz k then K es else False
 | .sl b len => AtRow H b fun _ sz _ es => askG g (es.length = len∧sz = k)∧K es
 | .sc (.slice none 0 0) => K []
 | .zc => K []
 | .sv b len lo n => AtRow H b fun _ sz _ es => askG g (es.length = len∧sz = k)∧K ((es.drop lo).take n)
 | _ => False
noncomputable def stepW (R:Raw) (id:Nat) (op:LOp) (K:AV→Option (Nat × Blk)→Prop):Prop :=
 match op with
 | .mv x => fetch g R x fun a => forceA a fun a => K a none
 | .pick c a b => fetch g R c fun v => match v with
  | .sc (.bool t) =>
   let rest:=fun (_:Unit) => forceA (pickA t (R a).2 (R b).2) fun v => K v none
   let r2:=fun (_:Unit) => match (R b).1 with
    | none => rest ()
    | some q => askG g (t = false→q = true)∧rest ()
   match (R a).1 with
   | none => r2 ()
   | some q => askG g (t = true→q = true)∧r2 ()
  | _ => False
 | .alloc e sz ag z => askG g (z.length = sz)∧K (.pt id 1 0 0) (some (id,.row e sz (zav ag z) [zav ag z]))
 | .box e sz ag x => fetch g R x fun v => askG g (fits ag sz v = true)∧K (.pt id 1 0 0) (some (id,.row e sz .any [v]))
 | .bld z parts => fetchL g R (parts.map (·.2.2)) fun as => Gives (fillA (z.map .sc) (List.zipWith (fun p a => (p.1,p.2.1,a)) parts as)) fun cs => K (.agg cs) none
 | .bsl e sz ag z n parts => fetchL g R (parts.map (·.2)) fun as =>
   askG g (z.length = sz∧(List.zipWith (fun p a => (p.1,a)) parts as).all (fun p => decide (p.1 < n) && fits ag sz p.2) = true) ∧
   K (.sl id n) (some (id,.row e sz (zav ag z) ((List.zipWith (fun p a => (p.1,a)) parts as).foldl (fun l p => l.set p.1 p.2) (List.replicate n (zav ag z)))))
 | .ld ag k x => fetch g R x fun v => lookW g H v fun sz e off => ldW g ag k e sz off fun r => K r none
 | .st ag k x y => fetch g R x fun v => fetch g R y fun yv => match v with
  | .pt b len i off => AtRow H b fun e sz d es => askG g (es.length = len)∧Elem es i d fun old => Gives (stE ag k old yv sz off) fun e' => K .any (some (b,.row e sz d (es.set i e')))
  | _ => False
 | .nck x => fetch g R x fun v => match v with
  | .pt b len i off => K (.pt b len i off) none
  | .ip sz d es i off => K (.ip sz d es i off) none
  | .fn (.func f) p q => K (.fn (.func f) p q) none
  | .ifc t v => K (.ifc t v) none
  | _ => False
 | .bin op x y => fetch g R x fun a => fetch g R y fun b => match op,a,b with
  | .add,.sc (.int k a),.sc (.int k' b) => askG g (k = k')∧Ari g k (a + b) fun m => K (.sc (.int k m)) none
  | .sub,.sc (.int k a),.sc (.int k' b) => askG g (k = k')∧Ari g k (a - b) fun m => K (.sc (.int k m)) none
  | .mul,.sc (.int k a),.sc (.int k' b) => askG g (k = k')∧Ari g k (a * b) fun m => K (.sc (.int k m)) none
  | .eql,.sc (.int k a),.sc (.int k' b) => askG g (k = k')∧K (.sc (.bool (decide (a = b)))) none
  | .neq,.sc (.int k a),.sc (.int k' b) => askG g (k = k')∧K (.sc (.bool (decide (a ≠ b)))) none
  | .lss,.sc (.int k a),.sc (.int k' b) => askG g (k = k')∧K (.sc (.bool (decide (a < b)))) none
  | .leq,.sc (.int k a),.sc (.int k' b) => askG g (k = k')∧K (.sc (.bool (decide (a ≤ b)))) none
  | .gtr,.sc (.int k a),.sc (.int k' b) => askG g (k = k')∧K (.sc (.bool (decide (b < a)))) none
  | .geq,.sc (.int k a),.sc (.int k' b) => askG g (k = k')∧K (.sc (.bool (decide (b ≤ a)))) none
  | .quo,.sc (.int k a),.sc (.int k' b) => askG g (k = k'∧b ≠ 0)∧K (.sc (.int k (k.wrap (a.tdiv b)))) none
  | .rem,.sc (.int k a),.sc (.int k' b) => askG g (k = k'∧b ≠ 0)∧K (.sc (.int k (a.tmod b))) none
  | .and,.sc (.int k a),.sc (.int k' b) => askG g (k = k')∧K (.sc (.int k (k.wrap (BitVec.ofInt k.bits a &&& BitVec.ofInt k.bits b).toNat))) none
  | .or,.sc (.int k a),.sc (.int k' b) => askG g (k = k')∧K (.sc (.int k (k.wrap (BitVec.ofInt k.bits a ||| BitVec.ofInt k.bits b).toNat))) none
  | .xor,.sc (.int k a),.sc (.int k' b) => askG g (k = k')∧K (.sc (.int k (k.wrap (BitVec.ofInt k.bits a ^^^ BitVec.ofInt k.bits b).toNat))) none
  | .andNot,.sc (.int k a),.sc (.int k' b) => askG g (k = k')∧K (.sc (.int k (k.wrap (BitVec.ofInt k.bits a &&& ~~~(BitVec.ofInt k.bits b)).toNat))) none
  | .shl,.sc (.int k a),.sc (.int _ b) => askG g (0 ≤ b)∧K (.sc (.int k (k.wrap (a * 2 ^ (min b.toNat k.bits))))) none
  | .shr,.sc (.int k a),.sc (.int _ b) => askG g (0 ≤ b)∧K (.sc (.int k (a.fdiv (2 ^ (min b.toNat k.bits))))) none
  | _,_,_ => False
 | .eqb neg x y => fetch g R x fun a => fetch g R y fun b => match a,b with
  | .sc (.bool p),.sc (.bool q) => (match neg with
   | true => K (.sc (.bool (p != q))) none
   | false => K (.sc (.bool (p == q))) none)
  | _,_ => False
 | .eqstr neg x y => fetch g R x fun a => fetch g R y fun b => match a,b with
  | .sc (.string p),.sc (.string q) => (match neg with
   | true => K (.sc (.bool (p != q))) none
   | false => K (.sc (.bool (p == q))) none)
  | _,_ => False
 | .un op x => fetch g R x fun a => match op,a with
  | .not,.sc (.bool b) => K (.sc (.bool !b)) none
  | .neg,.sc (.int k n) => Ari g k (0 - n) fun m => K (.sc (.int k m)) none
  | _,_ => False
 | .cvt k x => fetch g R x fun a => match a with
  | .sc (.int _ n) => Ari g k n fun m => K (.sc (.int k m)) none
  | _ => False
 | .fa off x => fetch g R x fun a => match a with
  | .ip sz d es i o => askG g (o + off < sz)∧K (.ip sz d es i (o + off)) none
  | .pt b len i o => AtRow H b fun _ sz _ es => askG g (es.length = len∧o + off < sz)∧K (.pt b len i (o + off)) none
  | _ => False
 | .ia k n x i => fetch g R x fun v => fetch g R i fun iv => match iv with
  | .sc (.int _ j) =>
   (match n with
    | none => match v with
     | .im sz d es => askG g (k = sz)∧askG g (0 ≤ j∧j < es.length)∧K (.ip sz d es j.toNat 0) none
     | .sl b len => AtRow H b fun _ sz _ es => askG g (es.length = len∧k = sz)∧askG g (0 ≤ j∧j < len)∧K (.pt b len j.toNat 0) none
     | .sv b len lo m => AtRow H b fun _ sz _ es => askG g (es.length = len∧k = sz)∧askG g (0 ≤ j∧j < m)∧K (.pt b len (lo + j.toNat) 0) none
     | _ => False
    | some m => match v with
     | .ip sz d es i off => askG g (off + m * k ≤ sz)∧askG g (0 ≤ j∧j < m)∧K (.ip sz d es i (off + j.toNat * k)) none
     | .pt b len i off => AtRow H b fun _ sz _ es => askG g (es.length = len∧off + m * k ≤ sz)∧askG g (0 ≤ j∧j < m)∧K (.pt b len i (off + j.toNat * k)) none
     | _ => False)
  | _ => False
 | .fld off k ag x => fetch g R x fun v => match v with
  | .agg cs => (match ag with
   | true => askG g (off + k ≤ cs.length)∧K (.agg ((cs.drop off).take k)) none
   | false => askG g (off + k ≤ cs.length∧k = 1)∧Elem cs off .any fun v => forceA v fun v => K v none)
  | _ => False
 | .ix k ag n x i => fetch g R x fun v => fetch g R i fun iv => match v,iv with
  | .agg cs,.sc (.int _ j) => askG g (n * k = cs.length)∧askG g (0 ≤ j∧j < n)∧(match ag with
   | true => K (.agg ((cs.drop (j.toNat * k)).take k)) none
   | false => askG g (k = 1)∧Elem cs (j.toNat * k) .any fun v => forceA v fun v => K v none)
  | _,_ => False
 | .ixs x i => fetch g R x fun v => fetch g R i fun iv => match v,iv with
  | .sc (.string s),.sc (.int _ j) => askG g (0 ≤ j∧j < s.size)∧K (.sc (.int .u8 (s.data.toList.getD j.toNat 0).toNat)) none
  | _,_ => False
 | .lens x => fetch g R x fun v => match v with
  | .sc (.string s) => K (.sc (.int .i64 s.size)) none
  | _ => False
 | .mks e sz bytes ag z l c => fetch g R l fun lv => fetch g R c fun cv => match lv,cv with
  | .sc (.int _ n),.sc (.int _ m) => askG g (z.length = sz∧n = m)∧askG g (0 ≤ n∧n * bytes ≤ 281474976710656∧n ≤ 9223372036854775807) ∧
    K (.sl id n.toNat) (some (id,.row e sz (zav ag z) (List.replicate n.toNat (zav ag z))))
  | _,_ => False
 | .ext i x => fetch g R x fun v => match v with
  | .tup vs => askG g (i < vs.length)∧Elem vs i .any fun v => forceA v fun v => K v none
  | _ => False
 | .mkf f first caps => fetchL g R first fun a => fetchL g R caps fun b => K (.fn f a b) none
 | .mki t x => fetch g R x fun v => K (.ifc t v) none
 | .len x => fetch g R x fun v => match v with
  | .im _ _ es => K (.sc (.int .i64 (es.length:Int))) none
  | .sl b len => AtRow H b fun _ _ _ es => askG g (es.length = len)∧K (.sc (.int .i64 (len:Int))) none
  | .sc (.slice none 0 0) => K (.sc (.int .i64 0)) none
  | .zc => K (.sc (.int .i64 0)) none
  | .sv _ _ _ n => K (.sc (.int .i64 (n:Int))) none
  | _ => False
 | .app e sz bytes ag z s x => fetch g R s fun sv => fetch g R x fun xv => elemsW g H sz xv fun xs => askG g (z.length = sz)∧match sv with
  | .sc (.slice none 0 0) => askG g (xs.length * bytes ≤ maxB)∧K (.sl id xs.length) (some (id,.row e sz (zav ag z) xs))
  | .sl b len => AtRow H b fun e' sz' d es => askG g (es.length = len∧e' = e∧sz' = sz)∧askG g ((len + xs.length) * bytes ≤ maxB)∧K (.sl b (len + xs.length)) (some (b,.row e sz d (es ++ xs)))
  | _ => False
 | .nilp neg x => fetch g R x fun v => match v with
  | .pt _ _ _ _ => K (.sc (.bool neg)) none
  | .ip _ _ _ _ _ => K (.sc (.bool neg)) none
  | .sc (.pointer none) => K (.sc (.bool !neg)) none
  | _ => False
 | .nils neg x => fetch g R x fun v => Gives (nilA H v) fun t => forceA (tellB neg t) fun v => K v none
 | .eqs neg ks x y => fetch g R x fun a => fetch g R y fun b => match a,b with
  | .agg as,.agg bs => Gives (eqC ks as bs) fun t => (match neg with
   | true => K (.sc (.bool !t)) none
   | false => K (.sc (.bool t)) none)
  | _,_ => False
 | .slc sz x lo hi => fetch g R x fun v => fetchL g R (lo.toList ++ hi.toList) fun bs =>
   Gives (slcA H sz (match lo with|some _ => bs[0]?|none => none) (match hi with|some _ => (match lo with|some _ => bs[1]?|none => bs[0]?)|none => none) v) fun r => forceA r fun r => K r none
 | .cpy sz x y => fetch g R x fun xv => fetch g R y fun yv => match xv with
  | .sl b len => elemsW g H sz yv fun xs => AtRow H b fun e s d es => askG g (es.length = len∧s = sz) ∧
    K (.sc (.int .i64 (Nat.min xs.length len:Nat))) (some (b,.row e s d (xs.take (Nat.min xs.length len) ++ es.drop (Nat.min xs.length len))))
  | _ => False
 | .call _ _ => False
 | .mkm kt => K (.mp id) (some (id,.row kt 0 .any (mapA [])))
 | .lku str ag z ok x k => fetch g R x fun v => fetch g R k fun kv => match kv with
  | .sc kv => MapW H v fun _ _ _ es => askG g (keyOk str kv = true)∧GivesG g (mget str kv es (zav ag z)) fun p => match ok with
    | true => K (.tup [p.1,.sc (.bool p.2)]) none
    | false => forceA p.1 fun v => K v none
  | _ => False
 | .mup str x k y => fetch g R x fun v => fetch g R k fun kv => fetch g R y fun yv => match kv with
  | .sc kv => MapW H v fun b e d es => askG g (keyOk str kv = true)∧GivesG g (mput str kv es yv) fun es' => K .any (some (b,.row e 0 d (mapA es')))
  | _ => False
 | .lenm x => fetch g R x fun v => MapW H v fun _ _ _ es => K (.sc (.int .i64 (es.length:Nat))) none
 | .del str x k => fetch g R x fun v => fetch g R k fun kv => match kv with
  | .sc kv => MapW H v fun b e d es => askG g (keyOk str kv = true)∧GivesG g (mdel str kv es) fun es' => K (.tup []) (some (b,.row e 0 d (mapA es')))
  | _ => False
 | .bldu sz v => K (.agg (List.replicate sz (.sc v))) none
 | .allu e sz v => K (.pt id 1 0 0) (some (id,.row e sz (.agg (List.replicate sz (.sc v))) [.agg (List.replicate sz (.sc v))]))
 | .tas t ok ag z x => fetch g R x fun v => match v with
  | .ifc t' v => (bif Nat.beq t' t then (match ok with
    | true => K (.tup [v,.sc (.bool true)]) none
    | false => forceA v fun v => K v none) else (match ok with
    | true => K (.tup [zav ag z,.sc (.bool false)]) none
    | false => False))
  | _ => False
end
theorem evP_zip {f:Fr} {R:Raw}:∀ {ps:List (Nat × Nat × Opd)},(∀ x ∈ ps.map (·.2.2),ev f x = (R x).2)→evP f ps = List.zipWith (fun p a => (p.1,p.2.1,a)) ps ((ps.map (·.2.2)).map fun x => (R x).2)
 | [],_ => rfl
 | (i,j,x) :: ps,h => by
  simp only [evP,List.map_cons,List.zipWith_cons_cons]
  rw [h x (by simp),evP_zip fun y hy => h y (by simp only [List.map_cons,List.mem_cons];exact .inr hy)]
theorem evQ_zip {f:Fr} {R:Raw}:∀ {ps:List (Nat × Opd)},(∀ x ∈ ps.map (·.2),ev f x = (R x).2)→evQ f ps = List.zipWith (fun p a => (p.1,a)) ps ((ps.map (·.2)).map fun x => (R x).2)
 | [],_ => rfl
 | (i,x) :: ps,h => by
  simp only [evQ,List.map_cons,List.zipWith_cons_cons]
  rw [h x (by simp),evQ_zip fun y hy => h y (by simp only [List.map_cons,List.mem_cons];exact .inr hy)]
theorem ldW_sound {g:Option Bool} {ag:Bool} {k:Nat} {e:AV} {sz off:Nat} {K:AV→Prop} (h:ldW g ag k e sz off K):∃ r,K r∧(Gd g→ldE ag k e sz off = some r):=by
 unfold ldW at h
 cases ag with
 | true =>
  simp only at h
  cases e
  case agg cs =>
   simp only at h
   by_cases hb:off = 0∧k = sz
   ·have hb':(Nat.beq off 0 && Nat.beq k sz) = true:=by
     obtain ⟨rfl,rfl⟩:=hb;simp
    rw [hb'] at h
    exact ⟨_,h,fun _ => by simp [ldE,hb.1,hb.2]⟩
   ·have hb':(Nat.beq off 0 && Nat.beq k sz) = false:=by
     cases hc:(Nat.beq off 0 && Nat.beq k sz) with
     | false => rfl
     | true =>
      rw [Bool.and_eq_true] at hc
      exact absurd ⟨Nat.eq_of_beq_eq_true hc.1,Nat.eq_of_beq_eq_true hc.2⟩ hb
    rw [hb'] at h
    simp only [cond_false] at h
    refine ⟨_,h.2,fun hg => ?_⟩
    have h1:=askG_iff.1 h.1 hg
    simp only [ldE,if_true]
    rw [if_neg hb,if_pos h1]
  all_goals exact h.elim
 | false =>
  have gen:∀ e:AV,(bif one e then forceA e K else False)→(ldE false k e sz off = if one e then some e else none)→∃ r,K r∧(Gd g→ldE false k e sz off = some r):=by
   intro e h1 h2
   cases ho:one e with
   | true => rw [ho,cond_true,forceA_eq] at h1;exact ⟨_,h1,fun _ => by rw [h2,ho];rfl⟩
   | false => rw [ho] at h1;exact h1.elim
  cases e
  case agg cs =>
   simp only at h
   have:=h.ok
   rw [forceA_eq] at this
   exact ⟨_,this,fun _ => by simp [ldE]⟩
  case any => exact ⟨_,h,fun _ => by simp [ldE]⟩
  all_goals exact gen _ h rfl
theorem lookW_sound {g:Option Bool} {H:Hp} {v:AV} {K:Nat→AV→Nat→Prop} (h:lookW g H v K):∃ sz e off,K sz e off∧(Gd g→lookA H v = some (sz,e,off)):=by
 unfold lookW at h
 split at h
 ·exact ⟨_,_,_,h.ok,fun _ => rfl⟩
 ·obtain ⟨e,sz,d,es,h1,h2,h3⟩:=h.ok
  refine ⟨_,_,_,h3.ok,fun hg => ?_⟩
  simp only [lookA,h1]
  rw [if_pos (askG_iff.1 h2 hg)]
 ·exact h.elim
theorem elemsW_sound {g:Option Bool} {H:Hp} {k:Nat} {v:AV} {K:List AV→Prop} (h:elemsW g H k v K):∃ es,K es∧(Gd g→elemsA H v = some es∧szA H k v = true):=by
 unfold elemsW at h
 split at h
 ·rename_i sz d es
  cases hb:Nat.beq sz k with
  | true => rw [hb] at h;exact ⟨_,h,fun _ => ⟨rfl,by simpa [szA] using hb⟩⟩
  | false => rw [hb] at h;exact h.elim
 ·obtain ⟨e,sz,d,es,h1,h2,h3⟩:=h.ok
  refine ⟨_,h3,fun hg => ?_⟩
  obtain ⟨g1,g2⟩:=askG_iff.1 h2 hg
  simp [elemsA,szA,h1,g1,g2]
 ·exact ⟨_,h,fun _ => ⟨rfl,rfl⟩⟩
 ·exact ⟨_,h,fun _ => ⟨rfl,rfl⟩⟩
 ·obtain ⟨e,sz,d,es,h1,h2,h3⟩:=h.ok
  refine ⟨_,h3,fun hg => ?_⟩
  obtain ⟨g1,g2⟩:=askG_iff.1 h2 hg
  simp [elemsA,szA,h1,g1,g2]
 ·exact h.elim
set_option maxHeartbeats 4000000 in
theorem stepW_sound {g:Option Bool} {H:Hp} {R:Raw} {id:Nat} {op:LOp} {K:AV→Option (Nat × Blk)→Prop} (h:stepW g H R id op K) :
  ∃ r u,K r u∧(Gd g→(op.rd = true→∀ x ∈ op.opds,okO R x)∧∀ f,(∀ x,okO R x→ev f x = (R x).2)→stepL id f H op = some (r,u)):=by
 cases op
 case mv x =>
  obtain ⟨h1,h2⟩:=fetch_iff h
  rw [forceA_eq] at h2
  exact ⟨_,_,h2,fun hg => ⟨fun hr => by simp [LOp.rd] at hr,fun f hf => by simp only [stepL,hf x (h1 hg)]⟩⟩
 case pick c a b =>
  obtain ⟨h1,h2⟩:=fetch_iff h
  split at h2
  ·rename_i t ht
   simp only [forceA_eq] at h2
   have key:∀ {q:Option Bool} {p:Prop} {A:Prop},(match q with|none => A|some q => askG g (p→q = true)∧A)→A∧(Gd g→p→∀ q',q = some q'→q' = true):=by
    intro q p A h
    cases q with
    | none => exact ⟨h,fun _ _ _ hq => by cases hq⟩
    | some q => exact ⟨h.2,fun hg hp q' hq => by cases hq;exact askG_iff.1 h.1 hg hp⟩
   obtain ⟨h3,ha⟩:=key h2
   obtain ⟨h4,hb⟩:=key h3
   refine ⟨_,_,h4,fun hg => ⟨fun hr => by simp [LOp.rd] at hr,fun f hf => ?_⟩⟩
   simp only [stepL,hf c (h1 hg),ht]
   congr 2
   cases t with
   | true => rw [pickA_true,pickA_true,hf a (ha hg rfl)]
   | false => rw [pickA_false,pickA_false,hf b (hb hg rfl)]
  ·exact h2.elim
 case alloc e sz ag z =>
  refine ⟨_,_,h.2,fun hg => ⟨fun hr => by simp [LOp.rd] at hr,fun f hf => ?_⟩⟩
  simp only [stepL];rw [if_pos (askG_iff.1 h.1 hg)]
 case box e sz ag x =>
  obtain ⟨h1,h2⟩:=fetch_iff h
  refine ⟨_,_,h2.2,fun hg => ⟨fun hr => by simp [LOp.rd] at hr,fun f hf => ?_⟩⟩
  simp only [stepL,hf x (h1 hg)];rw [if_pos (askG_iff.1 h2.1 hg)]
 case bld z ps =>
  obtain ⟨h1,h2⟩:=fetchL_iff h
  obtain ⟨cs,h3,h4⟩:=h2.ok
  refine ⟨_,_,h4,fun hg => ⟨fun hr => by simp [LOp.rd] at hr,fun f hf => ?_⟩⟩
  simp only [stepL]
  rw [evP_zip (R:=R) fun x hx => hf x (h1 hg x hx),h3]
 case bsl e sz ag z n ps =>
  obtain ⟨h1,h2⟩:=fetchL_iff h
  refine ⟨_,_,h2.2,fun hg => ⟨fun hr => by simp [LOp.rd] at hr,fun f hf => ?_⟩⟩
  have h3:=askG_iff.1 h2.1 hg
  simp only [stepL]
  rw [evQ_zip (R:=R) fun x hx => hf x (h1 hg x hx),if_pos h3]
 case ld ag k x =>
  obtain ⟨h1,h2⟩:=fetch_iff h
  obtain ⟨sz,e,off,h3,h4⟩:=lookW_sound h2
  obtain ⟨r,h5,h6⟩:=ldW_sound h3
  refine ⟨_,_,h5,fun hg => ⟨fun _ y hy => by simp [LOp.opds] at hy;subst hy;exact h1 hg,fun f hf => ?_⟩⟩
  simp only [stepL,hf x (h1 hg),h4 hg,h6 hg,Option.map_some]
 case st ag k x y =>
  obtain ⟨h1,h2⟩:=fetch_iff h
  obtain ⟨h3,h4⟩:=fetch_iff h2
  split at h4
  ·rename_i b len i off hx
   obtain ⟨e,sz,d,es,g1,g2,g3⟩:=h4.ok
   obtain ⟨e',g4,g5⟩:=g3.ok.ok
   refine ⟨_,_,g5,fun hg => ⟨fun _ z hz => by simp [LOp.opds] at hz;rcases hz with rfl|rfl;exact h1 hg;exact h3 hg,fun f hf => ?_⟩⟩
   simp only [stepL,hf x (h1 hg),hf y (h3 hg),hx,g1,g4]
   rw [if_pos (askG_iff.1 g2 hg)]
  ·exact h4.elim
 case nck x =>
  obtain ⟨h1,h2⟩:=fetch_iff h
  split at h2
  all_goals first
   | exact h2.elim
   | (rename_i hx;exact ⟨_,_,h2,fun hg => ⟨fun hr => by simp [LOp.rd] at hr,fun f hf => by simp only [stepL,hf x (h1 hg),hx]⟩⟩)
 case bin op x y =>
  obtain ⟨h1,h2⟩:=fetch_iff h
  obtain ⟨h3,h4⟩:=fetch_iff h2
  split at h4
  all_goals first
   | exact h4.elim
   | (rename_i hx hy;obtain ⟨q1,q2⟩:=h4;obtain ⟨m,q3,q4⟩:=q2.ok;refine ⟨_,_,q4,fun hg => ⟨fun hr => by simp [LOp.rd] at hr,fun f hf => ?_⟩⟩;simp only [stepL,hf x (h1 hg),hf y (h3 hg),hx,hy,binA];rw [if_pos (askG_iff.1 q1 hg),q3 hg];rfl)
   | (rename_i hx hy;refine ⟨_,_,h4.2,fun hg => ⟨fun hr => by simp [LOp.rd] at hr,fun f hf => ?_⟩⟩;simp only [stepL,hf x (h1 hg),hf y (h3 hg),hx,hy,binA];rw [if_pos (askG_iff.1 h4.1 hg)];rfl)
 case eqb neg x y =>
  obtain ⟨h1,h2⟩:=fetch_iff h
  obtain ⟨h3,h4⟩:=fetch_iff h2
  split at h4
  ·rename_i p q hx hy
   cases neg
   all_goals exact ⟨_,_,h4,fun hg => ⟨fun hr => by simp [LOp.rd] at hr,fun f hf => by simp [stepL,hf x (h1 hg),hf y (h3 hg),hx,hy]⟩⟩
  ·exact h4.elim
 case eqstr neg x y =>
  obtain ⟨h1,h2⟩:=fetch_iff h
  obtain ⟨h3,h4⟩:=fetch_iff h2
  split at h4
  ·rename_i p q hx hy
   cases neg
   all_goals exact ⟨_,_,h4,fun hg => ⟨fun hr => by simp [LOp.rd] at hr,fun f hf => by simp [stepL,hf x (h1 hg),hf y (h3 hg),hx,hy]⟩⟩
  ·exact h4.elim
 case un op x =>
  obtain ⟨h1,h2⟩:=fetch_iff h
  split at h2
  all_goals first
   | exact h2.elim
   | (rename_i hx;obtain ⟨m,q3,q4⟩:=h2.ok;exact ⟨_,_,q4,fun hg => ⟨fun hr => by simp [LOp.rd] at hr,fun f hf => by simp only [stepL,hf x (h1 hg),hx,unA,Option.map_some,q3 hg]⟩⟩)
   | (rename_i hx;exact ⟨_,_,h2,fun hg => ⟨fun hr => by simp [LOp.rd] at hr,fun f hf => by simp only [stepL,hf x (h1 hg),hx,unA,Option.map_some]⟩⟩)
 case cvt k x =>
  obtain ⟨h1,h2⟩:=fetch_iff h
  split at h2
  all_goals first
   | exact h2.elim
   | (rename_i hx;obtain ⟨m,q3,q4⟩:=h2.ok;exact ⟨_,_,q4,fun hg => ⟨fun hr => by simp [LOp.rd] at hr,fun f hf => by simp only [stepL,hf x (h1 hg),hx,q3 hg]⟩⟩)
 case fa off x =>
  obtain ⟨h1,h2⟩:=fetch_iff h
  have hr:Gd g→((LOp.fa off x).rd = true→∀ y ∈ (LOp.fa off x).opds,okO R y):=fun hg _ y hy => by simp [LOp.opds] at hy;subst hy;exact h1 hg
  split at h2
  ·rename_i hx
   refine ⟨_,_,h2.2,fun hg => ⟨hr hg,fun f hf => ?_⟩⟩
   simp only [stepL,hf x (h1 hg),hx];rw [if_pos (askG_iff.1 h2.1 hg)]
  ·rename_i hx
   obtain ⟨e,sz,d,es,g1,g2,g3⟩:=h2.ok
   refine ⟨_,_,g3,fun hg => ⟨hr hg,fun f hf => ?_⟩⟩
   simp only [stepL,hf x (h1 hg),hx,g1];rw [if_pos (askG_iff.1 g2 hg)]
  ·exact h2.elim
 case ia k n x i =>
  obtain ⟨h1,h2⟩:=fetch_iff h
  obtain ⟨h3,h4⟩:=fetch_iff h2
  have hr:Gd g→((LOp.ia k n x i).rd = true→∀ y ∈ (LOp.ia k n x i).opds,okO R y):=fun hg _ y hy => by simp [LOp.opds] at hy;rcases hy with rfl|rfl;exact h1 hg;exact h3 hg
  split at h4
  ·rename_i kk j hi
   cases n with
   | none =>
    simp only at h4
    split at h4
    ·rename_i hx
     refine ⟨_,_,h4.2.2,fun hg => ⟨hr hg,fun f hf => ?_⟩⟩
     simp only [stepL,hf x (h1 hg),hf i (h3 hg),hx,hi,iaA]
     rw [if_pos ⟨askG_iff.1 h4.1 hg,askG_iff.1 h4.2.1 hg⟩];rfl
    ·rename_i hx
     obtain ⟨e,sz,d,es,g1,g2,g3,g4⟩:=h4.ok
     refine ⟨_,_,g4,fun hg => ⟨hr hg,fun f hf => ?_⟩⟩
     obtain ⟨q1,q2⟩:=askG_iff.1 g2 hg
     simp only [stepL,hf x (h1 hg),hf i (h3 hg),hx,hi,iaA,g1]
     rw [if_pos ⟨q1,q2,askG_iff.1 g3 hg⟩];rfl
    ·rename_i hx
     obtain ⟨e,sz,d,es,g1,g2,g3,g4⟩:=h4.ok
     refine ⟨_,_,g4,fun hg => ⟨hr hg,fun f hf => ?_⟩⟩
     obtain ⟨q1,q2⟩:=askG_iff.1 g2 hg
     simp only [stepL,hf x (h1 hg),hf i (h3 hg),hx,hi,iaA,g1]
     rw [if_pos ⟨q1,q2,askG_iff.1 g3 hg⟩];rfl
    ·exact h4.elim
   | some m =>
    simp only at h4
    split at h4
    ·rename_i hx
     refine ⟨_,_,h4.2.2,fun hg => ⟨hr hg,fun f hf => ?_⟩⟩
     simp only [stepL,hf x (h1 hg),hf i (h3 hg),hx,hi,iaA]
     rw [if_pos ⟨askG_iff.1 h4.1 hg,askG_iff.1 h4.2.1 hg⟩];rfl
    ·rename_i hx
     obtain ⟨e,sz,d,es,g1,g2,g3,g4⟩:=h4.ok
     refine ⟨_,_,g4,fun hg => ⟨hr hg,fun f hf => ?_⟩⟩
     obtain ⟨q1,q2⟩:=askG_iff.1 g2 hg
     simp only [stepL,hf x (h1 hg),hf i (h3 hg),hx,hi,iaA,g1]
     rw [if_pos ⟨q1,q2,askG_iff.1 g3 hg⟩];rfl
    ·exact h4.elim
  ·exact h4.elim
 case fld off k ag x =>
  obtain ⟨h1,h2⟩:=fetch_iff h
  split at h2
  ·rename_i cs hx
   cases ag with
   | true =>
    refine ⟨_,_,h2.2,fun hg => ⟨fun hr => by simp [LOp.rd] at hr,fun f hf => ?_⟩⟩
    simp only [stepL,hf x (h1 hg),hx,if_true];rw [if_pos (askG_iff.1 h2.1 hg)]
   | false =>
    have h3:=h2.2.ok
    rw [forceA_eq] at h3
    refine ⟨_,_,h3,fun hg => ⟨fun hr => by simp [LOp.rd] at hr,fun f hf => ?_⟩⟩
    obtain ⟨q1,q2⟩:=askG_iff.1 h2.1 hg
    simp only [stepL,hf x (h1 hg),hx,Bool.false_eq_true,if_false];rw [if_pos q1,if_pos q2]
  ·exact h2.elim
 case ix k ag n x i =>
  obtain ⟨h1,h2⟩:=fetch_iff h
  obtain ⟨h3,h4⟩:=fetch_iff h2
  split at h4
  ·rename_i cs kk j hx hi
   obtain ⟨p1,p2,p3⟩:=h4
   cases ag with
   | true =>
    refine ⟨_,_,p3,fun hg => ⟨fun hr => by simp [LOp.rd] at hr,fun f hf => ?_⟩⟩
    have q2:=askG_iff.1 p2 hg
    simp only [stepL,hf x (h1 hg),hf i (h3 hg),hx,hi,if_true];rw [if_pos ⟨q2.1,q2.2,askG_iff.1 p1 hg⟩]
   | false =>
    have h5:=p3.2.ok
    rw [forceA_eq] at h5
    refine ⟨_,_,h5,fun hg => ⟨fun hr => by simp [LOp.rd] at hr,fun f hf => ?_⟩⟩
    have q2:=askG_iff.1 p2 hg
    simp only [stepL,hf x (h1 hg),hf i (h3 hg),hx,hi,Bool.false_eq_true,if_false];rw [if_pos ⟨q2.1,q2.2,askG_iff.1 p1 hg⟩,if_pos (askG_iff.1 p3.1 hg)]
  ·exact h4.elim
 case ixs x i =>
  obtain ⟨h1,h2⟩:=fetch_iff h
  obtain ⟨h3,h4⟩:=fetch_iff h2
  split at h4
  ·rename_i hx hi
   refine ⟨_,_,h4.2,fun hg => ⟨fun hr => by simp [LOp.rd] at hr,fun f hf => ?_⟩⟩
   simp only [stepL,hf x (h1 hg),hf i (h3 hg),hx,hi];rw [if_pos (askG_iff.1 h4.1 hg)]
  ·exact h4.elim
 case lens x =>
  obtain ⟨h1,h2⟩:=fetch_iff h
  split at h2
  all_goals first
   | exact h2.elim
   | (rename_i hx;exact ⟨_,_,h2,fun hg => ⟨fun hr => by simp [LOp.rd] at hr,fun f hf => by simp only [stepL,hf x (h1 hg),hx]⟩⟩)
 case mks e sz bytes ag z l c =>
  obtain ⟨h1,h2⟩:=fetch_iff h
  obtain ⟨h3,h4⟩:=fetch_iff h2
  split at h4
  ·rename_i hx hi
   refine ⟨_,_,h4.2.2,fun hg => ⟨fun hr => by simp [LOp.rd] at hr,fun f hf => ?_⟩⟩
   obtain ⟨q1,q2⟩:=askG_iff.1 h4.1 hg
   obtain ⟨q3,q4,q5⟩:=askG_iff.1 h4.2.1 hg
   simp only [stepL,hf l (h1 hg),hf c (h3 hg),hx,hi];rw [if_pos ⟨q1,q3,q2,q4,q5⟩]
  ·exact h4.elim
 case ext i x =>
  obtain ⟨h1,h2⟩:=fetch_iff h
  split at h2
  ·rename_i hx
   have h3:=h2.2.ok
   rw [forceA_eq] at h3
   refine ⟨_,_,h3,fun hg => ⟨fun hr => by simp [LOp.rd] at hr,fun f hf => ?_⟩⟩
   simp only [stepL,hf x (h1 hg),hx];rw [if_pos (askG_iff.1 h2.1 hg)]
  ·exact h2.elim
 case mkf fn first caps =>
  obtain ⟨h1,h2⟩:=fetchL_iff h
  obtain ⟨h3,h4⟩:=fetchL_iff h2
  refine ⟨_,_,h4,fun hg => ⟨fun hr => by simp [LOp.rd] at hr,fun f hf => ?_⟩⟩
  simp only [stepL]
  rw [evL_map (R:=R) fun x hx => hf x (h1 hg x hx),evL_map (R:=R) fun x hx => hf x (h3 hg x hx)]
 case mki t x =>
  obtain ⟨h1,h2⟩:=fetch_iff h
  exact ⟨_,_,h2,fun hg => ⟨fun hr => by simp [LOp.rd] at hr,fun f hf => by simp only [stepL,hf x (h1 hg)]⟩⟩
 case len x =>
  obtain ⟨h1,h2⟩:=fetch_iff h
  have hr:Gd g→((LOp.len x).rd = true→∀ y ∈ (LOp.len x).opds,okO R y):=fun hg _ y hy => by simp [LOp.opds] at hy;subst hy;exact h1 hg
  split at h2
  ·rename_i hx;exact ⟨_,_,h2,fun hg => ⟨hr hg,fun f hf => by simp only [stepL,hf x (h1 hg),hx,lenA]⟩⟩
  ·rename_i hx
   obtain ⟨e,sz,d,es,g1,g2,g3⟩:=h2.ok
   refine ⟨_,_,g3,fun hg => ⟨hr hg,fun f hf => ?_⟩⟩
   simp only [stepL,hf x (h1 hg),hx,lenA,g1];rw [if_pos (askG_iff.1 g2 hg)]
  ·rename_i hx;exact ⟨_,_,h2,fun hg => ⟨hr hg,fun f hf => by simp [stepL,hf x (h1 hg),hx,lenA]⟩⟩
  ·rename_i hx;exact ⟨_,_,h2,fun hg => ⟨hr hg,fun f hf => by simp [stepL,hf x (h1 hg),hx,lenA]⟩⟩
  ·rename_i hx;exact ⟨_,_,h2,fun hg => ⟨hr hg,fun f hf => by simp only [stepL,hf x (h1 hg),hx,lenA]⟩⟩
  ·exact h2.elim
 case app e sz bytes ag z s x =>
  obtain ⟨h1,h2⟩:=fetch_iff h
  obtain ⟨h3,h4⟩:=fetch_iff h2
  obtain ⟨xs,⟨h5,h5'⟩,h6⟩:=elemsW_sound h4
  have hr:Gd g→((LOp.app e sz bytes ag z s x).rd = true→∀ y ∈ (LOp.app e sz bytes ag z s x).opds,okO R y):=fun hg _ y hy => by simp [LOp.opds] at hy;rcases hy with rfl|rfl;exact h1 hg;exact h3 hg
  split at h5'
  ·rename_i hx
   refine ⟨_,_,h5'.2,fun hg => ⟨hr hg,fun f hf => ?_⟩⟩
   obtain ⟨q1,q2⟩:=h6 hg
   simp only [stepL,hf s (h1 hg),hf x (h3 hg),hx,q1];rw [if_pos ⟨q2,askG_iff.1 h5 hg⟩,if_pos (askG_iff.1 h5'.1 hg)]
  ·rename_i hx
   obtain ⟨e',sz',d,es,g1,g2,g3,g4⟩:=h5'.ok
   refine ⟨_,_,g4,fun hg => ⟨hr hg,fun f hf => ?_⟩⟩
   obtain ⟨q1,q2⟩:=h6 hg
   obtain ⟨q3,q4,q5⟩:=askG_iff.1 g2 hg
   simp only [stepL,hf s (h1 hg),hf x (h3 hg),hx,q1,g1];rw [if_pos ⟨q2,askG_iff.1 h5 hg⟩,if_pos ⟨q3,q4,q5,askG_iff.1 g3 hg⟩]
  ·exact h5'.elim
 case nilp neg x =>
  obtain ⟨h1,h2⟩:=fetch_iff h
  split at h2
  all_goals first
   | exact h2.elim
   | (rename_i hx;exact ⟨_,_,h2,fun hg => ⟨fun hr => by simp [LOp.rd] at hr,fun f hf => by simp only [stepL,hf x (h1 hg),hx]⟩⟩)
 case nils neg x =>
  obtain ⟨h1,h2⟩:=fetch_iff h
  obtain ⟨t,h3,h4⟩:=h2.ok
  rw [forceA_eq] at h4
  refine ⟨_,_,h4,fun hg => ⟨fun _ y hy => by simp [LOp.opds] at hy;subst hy;exact h1 hg,fun f hf => ?_⟩⟩
  simp only [stepL,hf x (h1 hg),h3]
 case eqs neg ks x y =>
  obtain ⟨h1,h2⟩:=fetch_iff h
  obtain ⟨h3,h4⟩:=fetch_iff h2
  split at h4
  ·rename_i hx hy
   obtain ⟨t,g1,g2⟩:=h4.ok
   cases neg
   all_goals exact ⟨_,_,g2,fun hg => ⟨fun hr => by simp [LOp.rd] at hr,fun f hf => by simp [stepL,hf x (h1 hg),hf y (h3 hg),hx,hy,g1]⟩⟩
  ·exact h4.elim
 case slc sz x lo hi =>
  obtain ⟨h1,h2⟩:=fetch_iff h
  obtain ⟨h3,h4⟩:=fetchL_iff h2
  obtain ⟨r,g1,g2⟩:=h4.ok
  rw [forceA_eq] at g2
  refine ⟨_,_,g2,fun hg => ⟨fun _ y hy => ?_,fun f hf => ?_⟩⟩
  ·simp only [LOp.opds,List.mem_append,List.mem_singleton] at hy
   rcases hy with (rfl|hy)|hy
   ·exact h1 hg
   ·exact h3 hg y (by simp only [List.mem_append];exact .inl hy)
   ·exact h3 hg y (by simp only [List.mem_append];exact .inr hy)
  ·simp only [stepL,hf x (h1 hg)]
   have e1:∀ y ∈ lo.toList ++ hi.toList,ev f y = (R y).2:=fun y hy => hf y (h3 hg y hy)
   cases lo <;> cases hi <;> simp_all
 case cpy sz x y =>
  obtain ⟨h1,h2⟩:=fetch_iff h
  obtain ⟨h3,h4⟩:=fetch_iff h2
  split at h4
  ·rename_i b len hx
   obtain ⟨xs,h5,h6⟩:=elemsW_sound h4
   obtain ⟨e,s,d,es,g1,g2,g3⟩:=h5.ok
   refine ⟨_,_,g3,fun hg => ⟨fun _ z hz => by simp [LOp.opds] at hz;rcases hz with rfl|rfl;exact h1 hg;exact h3 hg,fun f hf => ?_⟩⟩
   obtain ⟨q1,q2⟩:=h6 hg
   obtain ⟨q3,q4⟩:=askG_iff.1 g2 hg
   simp only [stepL,hf x (h1 hg),hf y (h3 hg),hx,q1,g1];rw [if_pos ⟨q3,q4,q2⟩]
  ·exact h4.elim
 case call f as => exact h.elim
 case mkm kt => exact ⟨_,_,h,fun hg => ⟨fun hr => by simp [LOp.rd] at hr,fun f hf => rfl⟩⟩
 case bldu sz v => exact ⟨_,_,h,fun hg => ⟨fun hr => by simp [LOp.rd] at hr,fun f hf => rfl⟩⟩
 case allu e sz v => exact ⟨_,_,h,fun hg => ⟨fun hr => by simp [LOp.rd] at hr,fun f hf => rfl⟩⟩
 case lenm x =>
  obtain ⟨h1,h2⟩:=fetch_iff h
  obtain ⟨b,e,d,es,h3,h4⟩:=MapW_sound h2
  exact ⟨_,_,h4,fun hg => ⟨fun _ y hy => by simp [LOp.opds] at hy;subst hy;exact h1 hg,fun f hf => by simp only [stepL,hf x (h1 hg),h3]⟩⟩
 case lku str ag z ok x k =>
  obtain ⟨h1,h2⟩:=fetch_iff h
  obtain ⟨h3,h4⟩:=fetch_iff h2
  have hr:Gd g→((LOp.lku str ag z ok x k).rd = true→∀ y ∈ (LOp.lku str ag z ok x k).opds,okO R y):=fun hg _ y hy => by simp [LOp.opds] at hy;rcases hy with rfl|rfl;exact h1 hg;exact h3 hg
  split at h4
  ·rename_i kv hk
   obtain ⟨b,e,d,es,h5,h6,h7⟩:=MapW_sound h4
   obtain ⟨p,h8,h9⟩:=h7.ok
   cases ok with
   | true =>
    refine ⟨_,_,h9,fun hg => ⟨hr hg,fun f hf => ?_⟩⟩
    have h10:=h8 hg
    unfold mget at h10
    simp only [stepL,hf x (h1 hg),hf k (h3 hg),h5,hk]
    rw [if_pos (askG_iff.1 h6 hg)]
    split at h10 <;> simp only [Option.some.injEq,reduceCtorEq] at h10
    ·subst h10;simp_all
    ·subst h10;simp_all
   | false =>
    simp only [forceA_eq] at h9
    refine ⟨_,_,h9,fun hg => ⟨hr hg,fun f hf => ?_⟩⟩
    have h10:=h8 hg
    unfold mget at h10
    simp only [stepL,hf x (h1 hg),hf k (h3 hg),h5,hk]
    rw [if_pos (askG_iff.1 h6 hg)]
    split at h10 <;> simp only [Option.some.injEq,reduceCtorEq] at h10
    ·subst h10;simp_all
    ·subst h10;simp_all
  ·exact h4.elim
 case mup str x k y =>
  obtain ⟨h1,h2⟩:=fetch_iff h
  obtain ⟨h3,h4⟩:=fetch_iff h2
  obtain ⟨h3',h4'⟩:=fetch_iff h4
  have hr:Gd g→((LOp.mup str x k y).rd = true→∀ w ∈ (LOp.mup str x k y).opds,okO R w):=fun hg _ w hy => by simp [LOp.opds] at hy;rcases hy with rfl|rfl|rfl;exact h1 hg;exact h3 hg;exact h3' hg
  split at h4'
  ·rename_i kv hk
   obtain ⟨b,e,d,es,h5,h6,h7⟩:=MapW_sound h4'
   obtain ⟨p,h8,h9⟩:=h7.ok
   refine ⟨_,_,h9,fun hg => ⟨hr hg,fun f hf => ?_⟩⟩
   have h10:=h8 hg
   unfold mput at h10
   simp only [stepL,hf x (h1 hg),hf k (h3 hg),hf y (h3' hg),h5,hk]
   rw [if_pos (askG_iff.1 h6 hg)]
   split at h10 <;> simp only [Option.some.injEq,reduceCtorEq] at h10
   ·subst h10;simp_all [ent]
   ·subst h10;simp_all [ent]
  ·exact h4'.elim
 case del str x k =>
  obtain ⟨h1,h2⟩:=fetch_iff h
  obtain ⟨h3,h4⟩:=fetch_iff h2
  have hr:Gd g→((LOp.del str x k).rd = true→∀ y ∈ (LOp.del str x k).opds,okO R y):=fun hg _ y hy => by simp [LOp.opds] at hy;rcases hy with rfl|rfl;exact h1 hg;exact h3 hg
  split at h4
  ·rename_i kv hk
   obtain ⟨b,e,d,es,h5,h6,h7⟩:=MapW_sound h4
   obtain ⟨p,h8,h9⟩:=h7.ok
   refine ⟨_,_,h9,fun hg => ⟨hr hg,fun f hf => ?_⟩⟩
   have h10:=h8 hg
   unfold mdel at h10
   simp only [stepL,hf x (h1 hg),hf k (h3 hg),h5,hk]
   rw [if_pos (askG_iff.1 h6 hg)]
   split at h10 <;> simp only [Option.some.injEq,reduceCtorEq] at h10
   ·subst h10;simp_all
   ·subst h10;simp_all
  ·exact h4.elim
 case tas t ok ag z x =>
  obtain ⟨h1,h2⟩:=fetch_iff h
  split at h2
  ·rename_i t' v hx
   cases hb:Nat.beq t' t with
   | true =>
    rw [hb] at h2
    have e:=Nat.eq_of_beq_eq_true hb
    cases ok with
    | true =>
     simp only [cond_true] at h2
     exact ⟨_,_,h2,fun hg => ⟨fun hr => by simp [LOp.rd] at hr,fun f hf => by simp only [stepL,hf x (h1 hg),hx];rw [if_pos e];rfl⟩⟩
    | false =>
     simp only [cond_true,forceA_eq] at h2
     exact ⟨_,_,h2,fun hg => ⟨fun hr => by simp [LOp.rd] at hr,fun f hf => by simp only [stepL,hf x (h1 hg),hx];rw [if_pos e];rfl⟩⟩
   | false =>
    rw [hb] at h2
    have e:¬ t' = t:=fun e => by rw [e] at hb;simp at hb
    cases ok with
    | true =>
     simp only [cond_false] at h2
     exact ⟨_,_,h2,fun hg => ⟨fun hr => by simp [LOp.rd] at hr,fun f hf => by simp only [stepL,hf x (h1 hg),hx];rw [if_neg e];rfl⟩⟩
    | false => exact h2.elim
  ·exact h2.elim
end Go.Abs
/- Code as a whole, run by reduction alone; it is so. -/
namespace Go.Abs
open Go.RowKit
structure BoolC (t:Bool) (A B:Prop):Prop where
 ok:(t = true→A)∧(t = false→B)
theorem BoolC.lt {A B:Prop} (h:A):BoolC true A B:=⟨⟨fun _ => h,fun h => (by cases h)⟩⟩
theorem BoolC.lf {A B:Prop} (h:B):BoolC false A B:=⟨⟨fun h => (by cases h),fun _ => h⟩⟩
theorem BoolC.of {t:Bool} {A B:Prop} (h1:t = true→A) (h2:t = false→B):BoolC t A B:=⟨⟨h1,h2⟩⟩
structure GuardW (t want:Bool) (A B J:Prop):Prop where
 ok:((t = want→A)∧(t ≠ want→B)) ∨ J
theorem GuardW.tt {A B J:Prop} (h:A):GuardW true true A B J:=⟨.inl ⟨fun _ => h,fun h => absurd rfl h⟩⟩
theorem GuardW.tf {A B J:Prop} (h:B):GuardW true false A B J:=⟨.inl ⟨fun h => (by cases h),fun _ => h⟩⟩
theorem GuardW.join {t want:Bool} {A B J:Prop} (h:J):GuardW t want A B J:=⟨.inr h⟩
theorem GuardW.split {t want:Bool} {A B J:Prop} (h1:t = want→A) (h2:t = !want→B):GuardW t want A B J:=⟨.inl ⟨h1,fun h => h2 (by cases t <;> cases want <;> simp_all)⟩⟩
structure CallW (P:Program) (f:FuncId) (args:List AV) (H:Hp) (nx:Nat) (K:AV→Hp→Nat→Prop):Prop where
 ok:CallN P f args H nx K
structure CallJ (P:Program) (g:Bool) (f:FuncId) (args:List AV) (H:Hp) (nx:Nat) (K:AV→Prop):Prop where
 ok:∃ r,(g = true→∀ (K':AV→Hp→Nat→Prop),K' r H (nx + 1)→CallN P f args H nx K')∧K r
structure CallE (P:Program) (id:Nat) (f:FuncId) (args:List AV) (H:Hp) (K:AV→Option (Nat × Blk)→List Nat→Prop):Prop where
 ok:∃ r u S,PureK P id (.fn (.func f) [] []) args H r u S∧K r u S
structure MethW (P:Program) (t:TypeId) (v:AV) (nm:String) (args:List AV) (H:Hp) (nx:Nat) (K:AV→Hp→Nat→Prop):Prop where
 ok:CallM P t v nm args H nx K
structure CallF (P:Program) (g:Bool) (id:Nat) (f:FuncId) (args:List AV) (H:Hp) (K:AV→List Nat→Prop):Prop where
 ok:∃ r S,(g = true→PureK P id (.fn (.func f) [] []) args H r none S)∧K r S
theorem Pure.callN1 {P:Program} {f:FuncId} {args:List AV} {R:AV→Prop} {H:Hp} {nx:Nat} {K:AV→Hp→Nat→Prop} (h:Pure P f args R) (hf:fitL 0 args) (hK:∀ r,R r→K r H (nx + 1)):CallN P f args H nx K:=by
 have:=h.callN (H:=H) (nx:=nx) (K:=fun r H' n => ∃ n',n ≤ n'∧K r H' n') hf fun r hr => ⟨_,Nat.le_succ _,hK r hr⟩
 refine ⟨this.1,fun w0 c vs a1 a2 a3 a4 => (this.2 w0 c vs a1 a2 a3 a4).mono ?_⟩
 rintro e w' ⟨v,r,H',nx',ρ,U,he,⟨n',hn,hR⟩,hU,hrest⟩
 exact ⟨v,r,H',n',ρ,U,he,hR,fun b hb => Nat.lt_of_lt_of_le (hU b hb) hn,hrest⟩
theorem CallW.pure {P:Program} {f:FuncId} {args:List AV} {R:AV→Prop} {H:Hp} {nx:Nat} {K:AV→Hp→Nat→Prop} (h:Pure P f args R) (hf:fitL 0 args) (hK:∀ r,R r→K r H nx):CallW P f args H nx K:=⟨h.callN hf hK⟩
theorem CallW.det {P:Program} {f:FuncId} {args:List AV} {r:AV} {H:Hp} {nx:Nat} {K:AV→Hp→Nat→Prop} (h:Pure P f args (fun x => x = r)) (hf:fitL 0 args) (hK:K r H nx):CallW P f args H nx K:=⟨h.callN hf fun x hx => by rw [hx];exact hK⟩
theorem CallW.of {P:Program} {f:FuncId} {args:List AV} {H:Hp} {nx:Nat} {R K:AV→Hp→Nat→Prop} (h:CallN P f args H nx R) (hK:∀ r H' nx',R r H' nx'→K r H' nx'):CallW P f args H nx K:=⟨h.mono hK⟩
theorem CallJ.det {P:Program} {g:Bool} {f:FuncId} {args:List AV} {r:AV} {H:Hp} {nx:Nat} {K:AV→Prop} (h:g = true→Pure P f args (fun x => x = r)) (hf:fitL 0 args) (hK:K r):CallJ P g f args H nx K :=
 ⟨⟨r,fun hg K' hK' => (h hg).callN1 hf fun x hx => by rw [hx];exact hK',hK⟩⟩
theorem CallE.det {P:Program} {id:Nat} {f:FuncId} {args:List AV} {H:Hp} {r:AV} {K:AV→Option (Nat × Blk)→List Nat→Prop} (h:Pure P f args (fun x => x = r)) (hf:fitL 0 args) (hK:K r none []):CallE P id f args H K :=
 ⟨⟨r,none,[],Pure.pureK (by simpa using hf) (by simpa using h),hK⟩⟩
theorem CallF.det {P:Program} {g:Bool} {id:Nat} {f:FuncId} {args:List AV} {H:Hp} {r:AV} {K:AV→List Nat→Prop} (h:g = true→Pure P f args (fun x => x = r)) (hf:fitL 0 args) (hK:K r []):CallF P g id f args H K :=
 ⟨⟨r,[],fun hg => Pure.pureK (by simpa using hf) (by simpa using h hg),hK⟩⟩
theorem CallE.fresh {P:Program} {id:Nat} {f:FuncId} {args:List AV} {H:Hp} {r:AV} {u:Option (Nat × Blk)} (S:List Nat) {K:AV→Option (Nat × Blk)→List Nat→Prop}
  (h:∀ H1,(∀ b ∈ S,getH H1 b = getH H b)→CallH P f args H1 id (fun r' H' => r' = r∧H' = putH H1 u)) (hu:∀ b q,u = some (b,q)→b = id) (hK:K r u S):CallE P id f args H K :=
 ⟨⟨r,u,S,⟨by simpa using h,hu⟩,hK⟩⟩
section
variable (P:Program)
noncomputable def WStep (nx:Nat) (R:Raw) (H:Hp) (op:LOp) (K:AV→Hp→Nat→Prop):Prop :=
 match op with
 | .call f args => fetch none R f fun fv => fetchL none R args fun as => match fv with
  | .fn (.func g) first caps => forceL (first ++ as ++ caps) fun as => CallW P g as H nx K
  | .fn (.method nm) [.ifc t v] [] => forceL as fun as => MethW P t v nm as H nx K
  | _ => False
 | op => stepW none H R nx op fun r u => K r (putH H u) (nx + 1)
noncomputable def WStepJ (nx:Nat) (g:Bool) (R:Raw) (H:Hp) (op:LOp) (K:AV→Prop):Prop :=
 match op with
 | .call f args => fetch (some g) R f fun fv => fetchL (some g) R args fun as => match fv with
  | .fn (.func q) first caps => forceL (first ++ as ++ caps) fun as => CallJ P g q as H nx K
  | _ => False
 | op => stepW (some g) H R nx op fun r u => match u with
  | none => K r
  | some _ => False
abbrev WopsT:=Nat→Ov→Fr→Hp→(Ov→Hp→Nat→Prop)→Prop
def Wops_nil (nx:Nat) (ov:Ov) (_:Fr) (H:Hp) (K:Ov→Hp→Nat→Prop):Prop:=K ov H nx
noncomputable def Wops_cons (g:GOp) (_:List GOp) (ih:WopsT) (nx:Nat) (ov:Ov) (fr:Fr) (H:Hp) (K:Ov→Hp→Nat→Prop):Prop:=match g.guard with
  | none => WStep P nx (rawO ov fr) H g.op fun r H' nx' => ih nx' (putO ov g.dst none r) fr H' K
  | some (d,want) => match getO ov fr d with
   | (none,.sc (.bool t)) => GuardW t want (WStep P nx (rawO ov fr) H g.op fun r H' nx' => ih nx' (putO ov g.dst none r) fr H' K) (ih (nx + 1) (putO ov g.dst none (.sc undef)) fr H K)
     (match want with
      | true => WStepJ P nx t (rawO ov fr) H g.op fun r => ih (nx + 1) (putO ov g.dst (some t) r) fr H K
      | false => WStepJ P nx (!t) (rawO ov fr) H g.op fun r => ih (nx + 1) (putO ov g.dst (some !t) r) fr H K)
   | (some q,.sc (.bool t)) => (match want with
      | true => WStepJ P nx (q && t) (rawO ov fr) H g.op fun r => ih (nx + 1) (putO ov g.dst (some (q && t)) r) fr H K
      | false => WStepJ P nx (q && !t) (rawO ov fr) H g.op fun r => ih (nx + 1) (putO ov g.dst (some (q && !t)) r) fr H K)
   | (none,.sc (.tuple _)) => ih (nx + 1) (putO ov g.dst none (.sc undef)) fr H K
   | _ => False
noncomputable def Wops (nx:Nat) (gs:List GOp) (ov:Ov) (fr:Fr) (H:Hp) (K:Ov→Hp→Nat→Prop):Prop:=List.rec (motive:=fun _ => WopsT) Wops_nil (Wops_cons P) gs nx ov fr H K
def idsJ (R:Raw) (op:LOp):List Nat:=if op.rd then op.opds.flatMap (fun x => idsA (R x).2) else []
noncomputable def WStepE (id:Nat) (R:Raw) (H:Hp) (op:LOp) (K:AV→Option (Nat × Blk)→List Nat→Prop):Prop :=
 match op with
 | .call f args => fetch none R f fun fv => fetchL none R args fun as => match fv with
  | .fn (.func g) first caps => forceL (first ++ as ++ caps) fun as => CallE P id g as H K
  | _ => False
 | op => stepW none H R id op fun r u => K r u (idsJ R op)
noncomputable def WStepF (id:Nat) (g:Bool) (R:Raw) (H:Hp) (op:LOp) (K:AV→List Nat→Prop):Prop :=
 match op with
 | .call f args => fetch (some g) R f fun fv => fetchL (some g) R args fun as => match fv with
  | .fn (.func q) first caps => forceL (first ++ as ++ caps) fun as => CallF P g id q as H K
  | _ => False
 | op => stepW (some g) H R id op fun r u => match u with
  | none => K r (idsJ R op)
  | some _ => False
abbrev WDT:=Nat→Ov→Fr→Hp→Tr→(Ov→Hp→Tr→Prop)→Prop
def WD_nil (_:Nat) (ov:Ov) (_:Fr) (H:Hp) (tr:Tr) (K:Ov→Hp→Tr→Prop):Prop:=K ov H tr
noncomputable def WD_cons (g:GOp) (_:List GOp) (ih:WDT) (id:Nat) (ov:Ov) (fr:Fr) (H:Hp) (tr:Tr) (K:Ov→Hp→Tr→Prop):Prop:=match g.guard with
  | none => WStepE P id (rawO ov fr) H g.op fun r u S => ih (id + 1) (putO ov g.dst none r) fr (putH H u) (tr ++ [(S,u.map (·.1))]) K
  | some (d,want) => match getO ov fr d with
   | (none,.sc (.bool t)) => GuardW t want (WStepE P id (rawO ov fr) H g.op fun r u S => ih (id + 1) (putO ov g.dst none r) fr (putH H u) (tr ++ [(S,u.map (·.1))]) K) (ih (id + 1) (putO ov g.dst none (.sc undef)) fr H (tr ++ [([],none)]) K)
     (match want with
      | true => WStepF P id t (rawO ov fr) H g.op fun r S => ih (id + 1) (putO ov g.dst (some t) r) fr H (tr ++ [(S,none)]) K
      | false => WStepF P id (!t) (rawO ov fr) H g.op fun r S => ih (id + 1) (putO ov g.dst (some !t) r) fr H (tr ++ [(S,none)]) K)
   | (some q,.sc (.bool t)) => (match want with
      | true => WStepF P id (q && t) (rawO ov fr) H g.op fun r S => ih (id + 1) (putO ov g.dst (some (q && t)) r) fr H (tr ++ [(S,none)]) K
      | false => WStepF P id (q && !t) (rawO ov fr) H g.op fun r S => ih (id + 1) (putO ov g.dst (some (q && !t)) r) fr H (tr ++ [(S,none)]) K)
   | (none,.sc (.tuple _)) => ih (id + 1) (putO ov g.dst none (.sc undef)) fr H (tr ++ [([],none)]) K
   | _ => False
noncomputable def WD (id:Nat) (gs:List GOp) (ov:Ov) (fr:Fr) (H:Hp) (tr:Tr) (K:Ov→Hp→Tr→Prop):Prop:=List.rec (motive:=fun _ => WDT) WD_nil (WD_cons P) gs id ov fr H tr K
noncomputable def nsW (S:List Nat):(List Nat→Prop)→Prop:=List.rec (motive:=fun _ => (List Nat→Prop)→Prop) (fun K => K []) (fun b _ ih K => ih fun S' => K (b :: S')) S
theorem nsW_eq:∀ (S:List Nat) (K:List Nat→Prop),nsW S K = K S
 | [],_ => rfl
 | b :: S,K => nsW_eq S fun S' => K (b :: S')
def uW (u:Option (Nat × Blk)) (K:Option Nat→Prop):Prop:=match u with
 | none => K none
 | some (b,_) => K (some b)
theorem uW_eq (u:Option (Nat × Blk)) (K:Option Nat→Prop):uW u K = K (u.map (·.1)):=by
 cases u <;> rfl
noncomputable def WE_cons (g:GOp) (_:List GOp) (ih:WDT) (id:Nat) (ov:Ov) (fr:Fr) (H:Hp) (tr:Tr) (K:Ov→Hp→Tr→Prop):Prop:=match g.guard with
  | none => WStepE P id (rawO ov fr) H g.op fun r u S => nsW S fun S => uW u fun x => ih (id + 1) (putO ov g.dst none r) fr (putH H u) ((S,x) :: tr) K
  | some (d,want) => match getO ov fr d with
   | (none,.sc (.bool t)) => GuardW t want (WStepE P id (rawO ov fr) H g.op fun r u S => nsW S fun S => uW u fun x => ih (id + 1) (putO ov g.dst none r) fr (putH H u) ((S,x) :: tr) K) (ih (id + 1) (putO ov g.dst none (.sc undef)) fr H (([],none) :: tr) K)
     (match want with
      | true => WStepF P id t (rawO ov fr) H g.op fun r S => nsW S fun S => ih (id + 1) (putO ov g.dst (some t) r) fr H ((S,none) :: tr) K
      | false => WStepF P id (!t) (rawO ov fr) H g.op fun r S => nsW S fun S => ih (id + 1) (putO ov g.dst (some !t) r) fr H ((S,none) :: tr) K)
   | (some q,.sc (.bool t)) => (match want with
      | true => WStepF P id (q && t) (rawO ov fr) H g.op fun r S => nsW S fun S => ih (id + 1) (putO ov g.dst (some (q && t)) r) fr H ((S,none) :: tr) K
      | false => WStepF P id (q && !t) (rawO ov fr) H g.op fun r S => nsW S fun S => ih (id + 1) (putO ov g.dst (some (q && !t)) r) fr H ((S,none) :: tr) K)
   | (none,.sc (.tuple _)) => ih (id + 1) (putO ov g.dst none (.sc undef)) fr H (([],none) :: tr) K
   | _ => False
noncomputable def WE (id:Nat) (gs:List GOp) (ov:Ov) (fr:Fr) (H:Hp) (tr:Tr) (K:Ov→Hp→Tr→Prop):Prop:=List.rec (motive:=fun _ => WDT) WD_nil (WE_cons P) gs id ov fr H tr K
theorem WE_eq:∀ (gs:List GOp) (id:Nat) (ov:Ov) (fr:Fr) (H:Hp) (tr:Tr) (K:Ov→Hp→Tr→Prop),WE P id gs ov fr H tr K = WD P id gs ov fr H tr.reverse fun ov H t => K ov H t.reverse
 | [],id,ov,fr,H,tr,K => by
  show K ov H tr = K ov H tr.reverse.reverse
  rw [List.reverse_reverse]
 | g :: gs,id,ov,fr,H,tr,K => by
  have ih:=WE_eq gs
  show WE_cons P g gs (fun id ov fr H tr K => WE P id gs ov fr H tr K) id ov fr H tr K = WD_cons P g gs (fun id ov fr H tr K => WD P id gs ov fr H tr K) id ov fr H tr.reverse fun ov H t => K ov H t.reverse
  simp only [WE_cons,WD_cons,nsW_eq,uW_eq,ih,List.reverse_cons]
noncomputable def WS_cons (s:Seg) (_:List Seg) (ih:WopsT) (nx:Nat) (ov:Ov) (fr:Fr) (H:Hp) (K:Ov→Hp→Nat→Prop):Prop:=match s.ops with
  | [g] => Wops P nx [g] ov fr H fun ov' H' nx' => ih nx' ov' fr H' K
  | gs => WE P nx gs ov fr H [] fun ov' H' tr => (match s.ps with
   | [] => ih (nx + gs.length) ov' fr H' K
   | p :: ps => Ask (farAll tr.reverse (p :: ps))∧ih (nx + gs.length) ov' fr H' K)
noncomputable def WS (nx:Nat) (segs:List Seg) (ov:Ov) (fr:Fr) (H:Hp) (K:Ov→Hp→Nat→Prop):Prop:=List.rec (motive:=fun _ => WopsT) Wops_nil (WS_cons P) segs nx ov fr H K
structure LoopW (n lo:Nat) (x:LC) (fr:Fr) (H:Hp) (nx:Nat) (Q:QT):Prop where
 ok:WL P n lo (.loop x) fr H nx Q
abbrev WT:=Fr→Hp→Nat→QT→Prop
def W_skip (fr:Fr) (H:Hp) (nx:Nat) (Q:QT):Prop:=Q .normal fr H nx
noncomputable def W_region (gs:List GOp) (fr:Fr) (H:Hp) (nx:Nat) (Q:QT):Prop:=Wops P nx gs [] fr H fun ov H' nx' => Q .normal (plainO ov fr) H' nx'
structure DrawnW (segs:List Seg) (fr:Fr) (H:Hp) (nx:Nat) (Q:QT):Prop where
 ok:∀ n lo,WL P n lo (.drawn segs) fr H nx Q
def W_drawn (segs:List Seg) (fr:Fr) (H:Hp) (nx:Nat) (Q:QT):Prop:=DrawnW P segs fr H nx Q
def W_seq (_ _:LC) (ia ib:WT) (fr:Fr) (H:Hp) (nx:Nat) (Q:QT):Prop:=ia fr H nx (thenK (fun fr H nx => ib fr H nx Q) Q)
def W_cond (c:Opd) (_ _:LC) (ia ib:WT) (fr:Fr) (H:Hp) (nx:Nat) (Q:QT):Prop:=match ev fr c with
  | .sc (.bool t) => BoolC t (ia fr H nx Q) (ib fr H nx Q)
  | .ab => ia fr H nx Q∧ib fr H nx Q
  | _ => False
def W_block (id:Nat) (_:LC) (ia:WT) (fr:Fr) (H:Hp) (nx:Nat) (Q:QT):Prop:=ia fr H nx (blockQ id Q)
def W_loop (n lo:Nat) (a:LC) (_:WT) (fr:Fr) (H:Hp) (nx:Nat) (Q:QT):Prop:=LoopW P n lo a fr H nx Q
def W_exit (id:Nat) (fr:Fr) (H:Hp) (nx:Nat) (Q:QT):Prop:=Q (.exit id) fr H nx
def W_ret (fr:Fr) (H:Hp) (nx:Nat) (Q:QT):Prop:=Q .ret fr H nx
noncomputable def W (n lo:Nat) (lc:LC):WT:=LC.rec (motive:=fun _ => WT) W_skip (W_region P) (W_drawn P) W_seq W_cond W_block (W_loop P n lo) W_exit W_ret lc
end
section
variable {P:Program}
theorem WStep_sound {nx:Nat} {ov:Ov} {f fr:Fr} {H:Hp} {op:LOp} {K:AV→Hp→Nat→Prop} (hF:FrJ f ov fr) (h:WStep P nx (rawO ov fr) H op K):StepN P nx f H op K:=by
 by_cases hc:∃ g as,op = .call g as
 ·obtain ⟨fo,as,rfl⟩:=hc
  simp only [WStep] at h
  obtain ⟨h1,h2⟩:=fetch_iff h
  obtain ⟨h3,h4⟩:=fetchL_iff h2
  simp only [StepN]
  rw [hF.raw fo (h1 trivial),evL_map (R:=rawO ov fr) fun x hx => hF.raw x (h3 trivial x hx)]
  split at h4
  ·rename_i he
   rw [he]
   rw [forceL_eq] at h4
   exact h4.ok
  ·rename_i he
   rw [he]
   rw [forceL_eq] at h4
   exact h4.ok
  ·exact h4.elim
 ·have e1:WStep P nx (rawO ov fr) H op K = stepW none H (rawO ov fr) nx op fun r u => K r (putH H u) (nx + 1):=by cases op <;> first|rfl|exact absurd ⟨_,_,rfl⟩ hc
  have e2:StepN P nx f H op K = optK (stepL nx f H op) fun p => K p.1 (putH H p.2) (nx + 1):=by cases op <;> first|rfl|exact absurd ⟨_,_,rfl⟩ hc
  rw [e1] at h
  obtain ⟨r,u,h1,h2⟩:=stepW_sound h
  rw [e2,(h2 trivial).2 f fun x hx => hF.raw x hx]
  exact h1
theorem WStepJ_sound {nx:Nat} {g:Bool} {ov:Ov} {fr:Fr} {H:Hp} {op:LOp} {K:AV→Prop} (h:WStepJ P nx g (rawO ov fr) H op K) :
  ∃ r,K r∧(g = true→∀ f,FrJ f ov fr→∀ K':AV→Hp→Nat→Prop,K' r H (nx + 1)→StepN P nx f H op K'):=by
 by_cases hc:∃ g as,op = .call g as
 ·obtain ⟨fo,as,rfl⟩:=hc
  simp only [WStepJ] at h
  obtain ⟨h1,h2⟩:=fetch_iff h
  obtain ⟨h3,h4⟩:=fetchL_iff h2
  split at h4
  ·rename_i he
   rw [forceL_eq] at h4
   obtain ⟨r,h5,h6⟩:=h4.ok
   refine ⟨r,h6,fun hg f hF K' hK' => ?_⟩
   simp only [StepN]
   rw [hF.raw fo (h1 hg),evL_map (R:=rawO ov fr) fun x hx => hF.raw x (h3 hg x hx),he]
   exact h5 hg K' hK'
  ·exact h4.elim
 ·have e1:WStepJ P nx g (rawO ov fr) H op K = stepW (some g) H (rawO ov fr) nx op fun r u => match u with|none => K r|some _ => False:=by cases op <;> first|rfl|exact absurd ⟨_,_,rfl⟩ hc
  rw [e1] at h
  obtain ⟨r,u,h1,h2⟩:=stepW_sound h
  cases u with
  | some p => exact h1.elim
  | none =>
   refine ⟨r,h1,fun hg f hF K' hK' => ?_⟩
   have e2:StepN P nx f H op K' = optK (stepL nx f H op) fun p => K' p.1 (putH H p.2) (nx + 1):=by cases op <;> first|rfl|exact absurd ⟨_,_,rfl⟩ hc
   rw [e2,(h2 hg).2 f fun x hx => hF.raw x hx]
   exact hK'
theorem Wops_sound:∀ {gs:List GOp} {nx:Nat} {ov:Ov} {f fr:Fr} {H:Hp} {K:Ov→Hp→Nat→Prop},FrJ f ov fr→Wops P nx gs ov fr H K→RunOps P nx gs f H (fun f1 H1 nx1 => ∃ ov1,FrJ f1 ov1 fr∧K ov1 H1 nx1)
 | [],nx,ov,f,fr,H,K,hF,h => ⟨ov,hF,h⟩
 | g :: gs,nx,ov,f,fr,H,K,hF,h => by
  have join:∀ {q t:Bool} {d:Nat} {want:Bool},g.guard = some (d,want)→(q = true→getF f d = .sc (.bool t))→(q = false→getF f d = .sc undef)→∀ {gg:Bool},(gg = true ↔ (q = true∧t = want)) →
    (WStepJ P nx gg (rawO ov fr) H g.op fun r => Wops P (nx + 1) gs (putO ov g.dst (some gg) r) fr H K)→RunOps P nx (g :: gs) f H (fun f1 H1 nx1 => ∃ ov1,FrJ f1 ov1 fr∧K ov1 H1 nx1):=by
   intro q t d want hg hq1 hq2 gg hgg hJ
   obtain ⟨r,h1,h2⟩:=WStepJ_sound hJ
   simp only [RunOps,hg,GuardK]
   cases q with
   | true =>
    simp only [hq1 rfl]
    by_cases ht:t = want
    ·rw [if_pos ht]
     have hgt:=hgg.2 ⟨rfl,ht⟩
     exact h2 hgt f hF _ (Wops_sound (hF.putG g.dst (u:=r) (fun _ => rfl) fun h => by rw [hgt] at h;cases h) h1)
    ·rw [if_neg ht]
     have hgf:gg = false:=by cases hgg':gg <;> simp_all
     exact Wops_sound (hF.putG g.dst (u:=.sc undef) (fun h => by rw [hgf] at h;cases h) fun _ => rfl) h1
   | false =>
    simp only [hq2 rfl]
    have hgf:gg = false:=by cases hgg':gg <;> simp_all
    have:=Wops_sound (hF.putG g.dst (u:=.sc undef) (q:=gg) (fun h => by rw [hgf] at h;cases h) fun _ => rfl) h1
    exact this
  have h:Wops_cons P g gs (fun nx ov fr H K => Wops P nx gs ov fr H K) nx ov fr H K:=h
  simp only [Wops_cons] at h
  split at h
  ·rename_i hg
   simp only [RunOps,hg,GuardK]
   exact (WStep_sound hF h).mono fun r H' nx' hh => Wops_sound (hF.put g.dst r) hh
  ·rename_i d want hg
   have hd:=hF d
   split at h
   ·rename_i t he
    rw [he] at hd
    simp only at hd
    rcases h.ok with ⟨hA,hB⟩|hJ
    ·simp only [RunOps,hg,GuardK,hd]
     by_cases ht:t = want
     ·rw [if_pos ht]
      exact (WStep_sound hF (hA ht)).mono fun r H' nx' hh => Wops_sound (hF.put g.dst r) hh
     ·rw [if_neg ht]
      exact Wops_sound (hF.put g.dst _) (hB ht)
    ·cases want with
     | true => exact join (q:=true) hg (fun _ => hd) (fun h => by cases h) (gg:=t) (by simp) hJ
     | false => exact join (q:=true) hg (fun _ => hd) (fun h => by cases h) (gg:=!t) (by simp) hJ
   ·rename_i q t he
    rw [he] at hd
    simp only at hd
    cases want with
    | true => exact join hg hd.1 hd.2 (gg:=q && t) (by simp) h
    | false => exact join hg hd.1 hd.2 (gg:=q && !t) (by simp) h
   ·rename_i v he
    rw [he] at hd
    simp only at hd
    simp only [RunOps,hg,GuardK,hd]
    exact Wops_sound (hF.put g.dst _) h
   ·exact h.elim
def TrJ:Tr→Tr→Prop
 | [],[] => True
 | a :: r,b :: s => (∀ x ∈ a.1,x ∈ b.1)∧a.2 = b.2∧TrJ r s
 | _,_ => False
theorem TrJ.snoc {a b:List Nat} {u:Option Nat} (h1:∀ x ∈ a,x ∈ b):∀ {r s:Tr},TrJ r s→TrJ (r ++ [(a,u)]) (s ++ [(b,u)])
 | [],[],_ => ⟨h1,rfl,trivial⟩
 | x :: r,y :: s,h => ⟨h.1,h.2.1,TrJ.snoc h1 h.2.2⟩
 | [],_ :: _,h => h.elim
 | _ :: _,[],h => h.elim
theorem TrJ.get:∀ {r s:Tr},TrJ r s→∀ k,(∀ x ∈ (r.getD k ([],none)).1,x ∈ (s.getD k ([],none)).1)∧(r.getD k ([],none)).2 = (s.getD k ([],none)).2
 | [],[],_,k => by simp
 | x :: r,y :: s,h,0 => ⟨h.1,h.2.1⟩
 | x :: r,y :: s,h,k + 1 => by simpa using TrJ.get h.2.2 k
 | [],_ :: _,h,_ => h.elim
 | _ :: _,[],h,_ => h.elim
theorem TrJ.far {r s:Tr} (h:TrJ r s) {ps:List (Nat × Nat)} (hf:farAll s ps):farAll r ps:=by
 intro p hp
 obtain ⟨h1,h2,h3⟩:=hf p hp
 obtain ⟨a1,a2⟩:=h.get p.1
 obtain ⟨b1,b2⟩:=h.get p.2
 exact ⟨fun b hb hm => h1 b (by rw [← a2];exact hb) (b1 b hm),fun b hb hm => h2 b (by rw [← b2];exact hb) (a1 b hm),fun b hb => h3 b ⟨by rw [← a2];exact hb.1,by rw [← b2];exact hb.2⟩⟩
theorem idsJ_of {ov:Ov} {f fr:Fr} {op:LOp} (hF:FrJ f ov fr) (h:op.rd = true→∀ y ∈ op.opds,okO (rawO ov fr) y):∀ x ∈ idsOp f op,x ∈ idsJ (rawO ov fr) op:=by
 intro x hx
 unfold idsOp at hx
 unfold idsJ
 split at hx
 ·rename_i hr
  rw [if_pos hr]
  obtain ⟨y,hy,hm⟩:=List.mem_flatMap.1 hx
  exact List.mem_flatMap.2 ⟨y,hy,by rw [← hF.raw y (h hr y hy)];exact hm⟩
 ·cases hx
theorem WStepE_sound {id:Nat} {ov:Ov} {fr:Fr} {H:Hp} {op:LOp} {K:AV→Option (Nat × Blk)→List Nat→Prop} (h:WStepE P id (rawO ov fr) H op K) {f:Fr} (hF:FrJ f ov fr) :
  StepD P id f H op (fun r u S' => ∃ S,(∀ x ∈ S',x ∈ S)∧K r u S):=by
 by_cases hc:∃ g as,op = .call g as
 ·obtain ⟨fo,as,rfl⟩:=hc
  simp only [WStepE] at h
  obtain ⟨h1,h2⟩:=fetch_iff h
  obtain ⟨h3,h4⟩:=fetchL_iff h2
  split at h4
  ·rename_i he
   rw [forceL_eq] at h4
   obtain ⟨r,u,S,h5,h6⟩:=h4.ok
   refine ⟨r,u,S,?_,S,fun _ h => h,h6⟩
   rw [hF.raw fo (h1 trivial),evL_map (R:=rawO ov fr) fun x hx => hF.raw x (h3 trivial x hx),he]
   simpa [PureK] using h5
  ·exact h4.elim
 ·have e1:WStepE P id (rawO ov fr) H op K = stepW none H (rawO ov fr) id op fun r u => K r u (idsJ (rawO ov fr) op):=by cases op <;> first|rfl|exact absurd ⟨_,_,rfl⟩ hc
  rw [e1] at h
  obtain ⟨r,u,h1,h2⟩:=stepW_sound h
  obtain ⟨h3,h4⟩:=h2 trivial
  have e2:∀ K',StepD P id f H op K' = optK (stepL id f H op) fun p => K' p.1 p.2 (idsOp f op):=by intro K';cases op <;> first|rfl|exact absurd ⟨_,_,rfl⟩ hc
  rw [e2,h4 f fun x hx => hF.raw x hx]
  exact ⟨_,idsJ_of hF h3,h1⟩
theorem WStepF_sound {id:Nat} {g:Bool} {ov:Ov} {fr:Fr} {H:Hp} {op:LOp} {K:AV→List Nat→Prop} (h:WStepF P id g (rawO ov fr) H op K) :
  ∃ r S,K r S∧(g = true→∀ f,FrJ f ov fr→∀ K':AV→Option (Nat × Blk)→List Nat→Prop,(∀ S',(∀ x ∈ S',x ∈ S)→K' r none S')→StepD P id f H op K'):=by
 by_cases hc:∃ g as,op = .call g as
 ·obtain ⟨fo,as,rfl⟩:=hc
  simp only [WStepF] at h
  obtain ⟨h1,h2⟩:=fetch_iff h
  obtain ⟨h3,h4⟩:=fetchL_iff h2
  split at h4
  ·rename_i he
   rw [forceL_eq] at h4
   obtain ⟨r,S,h5,h6⟩:=h4.ok
   refine ⟨r,S,h6,fun hg f hF K' hK' => ⟨r,none,S,?_,hK' S fun _ h => h⟩⟩
   rw [hF.raw fo (h1 hg),evL_map (R:=rawO ov fr) fun x hx => hF.raw x (h3 hg x hx),he]
   simpa [PureK] using h5 hg
  ·exact h4.elim
 ·have e1:WStepF P id g (rawO ov fr) H op K = stepW (some g) H (rawO ov fr) id op fun r u => match u with|none => K r (idsJ (rawO ov fr) op)|some _ => False:=by cases op <;> first|rfl|exact absurd ⟨_,_,rfl⟩ hc
  rw [e1] at h
  obtain ⟨r,u,h1,h2⟩:=stepW_sound h
  cases u with
  | some p => exact h1.elim
  | none =>
   refine ⟨r,_,h1,fun hg f hF K' hK' => ?_⟩
   obtain ⟨h3,h4⟩:=h2 hg
   have e2:StepD P id f H op K' = optK (stepL id f H op) fun p => K' p.1 p.2 (idsOp f op):=by cases op <;> first|rfl|exact absurd ⟨_,_,rfl⟩ hc
   rw [e2,h4 f fun x hx => hF.raw x hx]
   exact hK' _ (idsJ_of hF h3)
theorem WD_sound:∀ {gs:List GOp} {id:Nat} {ov:Ov} {f fr:Fr} {H:Hp} {tr tr':Tr} {K:Ov→Hp→Tr→Prop},FrJ f ov fr→TrJ tr' tr→WD P id gs ov fr H tr K→RunD P id gs f H tr' (fun f1 H1 tr1 => ∃ ov1 trj,FrJ f1 ov1 fr∧TrJ tr1 trj∧K ov1 H1 trj)
 | [],id,ov,f,fr,H,tr,tr',K,hF,hT,h => ⟨ov,tr,hF,hT,h⟩
 | g :: gs,id,ov,f,fr,H,tr,tr',K,hF,hT,h => by
  have join:∀ {q t:Bool} {d:Nat} {want:Bool},g.guard = some (d,want)→(q = true→getF f d = .sc (.bool t))→(q = false→getF f d = .sc undef)→∀ {gg:Bool},(gg = true ↔ (q = true∧t = want)) →
    (WStepF P id gg (rawO ov fr) H g.op fun r S => WD P (id + 1) gs (putO ov g.dst (some gg) r) fr H (tr ++ [(S,none)]) K)→RunD P id (g :: gs) f H tr' (fun f1 H1 tr1 => ∃ ov1 trj,FrJ f1 ov1 fr∧TrJ tr1 trj∧K ov1 H1 trj):=by
   intro q t d want hg hq1 hq2 gg hgg hJ
   obtain ⟨r,S,h1,h2⟩:=WStepF_sound hJ
   simp only [RunD,hg,GuardK]
   cases q with
   | true =>
    simp only [hq1 rfl]
    by_cases ht:t = want
    ·rw [if_pos ht]
     have hgt:=hgg.2 ⟨rfl,ht⟩
     refine h2 hgt f hF _ fun S' hS => ?_
     exact WD_sound (hF.putG g.dst (u:=r) (fun _ => rfl) fun h => by rw [hgt] at h;cases h) (hT.snoc hS) h1
    ·rw [if_neg ht]
     have hgf:gg = false:=by cases hgg':gg <;> simp_all
     exact WD_sound (hF.putG g.dst (u:=.sc undef) (fun h => by rw [hgf] at h;cases h) fun _ => rfl) (hT.snoc (a:=[]) (b:=S) (fun _ h => by cases h)) h1
   | false =>
    simp only [hq2 rfl]
    have hgf:gg = false:=by cases hgg':gg <;> simp_all
    have:=WD_sound (hF.putG g.dst (u:=.sc undef) (q:=gg) (fun h => by rw [hgf] at h;cases h) fun _ => rfl) (hT.snoc (a:=[]) (b:=S) (fun _ h => by cases h)) h1
    exact this
  have h:WD_cons P g gs (fun id ov fr H tr K => WD P id gs ov fr H tr K) id ov fr H tr K:=h
  simp only [WD_cons] at h
  split at h
  ·rename_i hg
   simp only [RunD,hg,GuardK]
   refine (WStepE_sound h hF).mono ?_
   rintro r u S' ⟨S,hS,hh⟩
   exact WD_sound (hF.put g.dst r) (hT.snoc hS) hh
  ·rename_i d want hg
   have hd:=hF d
   split at h
   ·rename_i t he
    rw [he] at hd
    simp only at hd
    rcases h.ok with ⟨hA,hB⟩|hJ
    ·simp only [RunD,hg,GuardK,hd]
     by_cases ht:t = want
     ·rw [if_pos ht]
      refine (WStepE_sound (hA ht) hF).mono ?_
      rintro r u S' ⟨S,hS,hh⟩
      exact WD_sound (hF.put g.dst r) (hT.snoc hS) hh
     ·rw [if_neg ht]
      exact WD_sound (hF.put g.dst _) (hT.snoc (a:=[]) (b:=[]) (fun _ h => h)) (hB ht)
    ·cases want with
     | true => exact join (q:=true) hg (fun _ => hd) (fun h => by cases h) (gg:=t) (by simp) hJ
     | false => exact join (q:=true) hg (fun _ => hd) (fun h => by cases h) (gg:=!t) (by simp) hJ
   ·rename_i q t he
    rw [he] at hd
    simp only at hd
    cases want with
    | true => exact join hg hd.1 hd.2 (gg:=q && t) (by simp) h
    | false => exact join hg hd.1 hd.2 (gg:=q && !t) (by simp) h
   ·rename_i v he
    rw [he] at hd
    simp only at hd
    simp only [RunD,hg,GuardK,hd]
    exact WD_sound (hF.put g.dst _) (hT.snoc (a:=[]) (b:=[]) (fun _ h => h)) h
   ·exact h.elim
theorem WS_sound:∀ {segs:List Seg} {nx:Nat} {ov:Ov} {f fr:Fr} {H:Hp} {K:Ov→Hp→Nat→Prop},FrJ f ov fr→WS P nx segs ov fr H K→RunS P nx segs f H (fun f1 H1 nx1 => ∃ ov1,FrJ f1 ov1 fr∧K ov1 H1 nx1)
 | [],nx,ov,f,fr,H,K,hF,h => ⟨ov,hF,h⟩
 | ⟨[g],ps⟩ :: rest,nx,ov,f,fr,H,K,hF,h => by
  have h:Wops P nx [g] ov fr H fun ov' H' nx' => WS P nx' rest ov' fr H' K:=h
  refine RunOps.mono (K':=fun a b c => RunS P c rest a b _) (Wops_sound hF h) ?_
  rintro f1 H1 nx1 ⟨ov1,h1,h2⟩
  exact WS_sound h1 h2
 | ⟨[],[]⟩ :: rest,nx,ov,f,fr,H,K,hF,h => by
  have h:WE P nx [] ov fr H [] fun ov' H' _ => WS P (nx + 0) rest ov' fr H' K:=h
  rw [WE_eq,List.reverse_nil] at h
  simp only [RunS]
  refine RunD.mono (WD_sound hF (tr':=[]) (tr:=[]) trivial h) ?_
  rintro f1 H1 tr1 ⟨ov1,trj,h1,h2,h3⟩
  exact ⟨(fun p hp => by cases hp),WS_sound h1 h3⟩
 | ⟨[],p :: ps⟩ :: rest,nx,ov,f,fr,H,K,hF,h => by
  have h:WE P nx [] ov fr H [] fun ov' H' tr => Ask (farAll tr.reverse (p :: ps))∧WS P (nx + 0) rest ov' fr H' K:=h
  rw [WE_eq,List.reverse_nil] at h
  simp only [List.reverse_reverse] at h
  simp only [RunS]
  refine RunD.mono (WD_sound hF (tr':=[]) (tr:=[]) trivial h) ?_
  rintro f1 H1 tr1 ⟨ov1,trj,h1,h2,h3⟩
  exact ⟨h2.far h3.1.ok,WS_sound h1 h3.2⟩
 | ⟨g1 :: g2 :: gs,[]⟩ :: rest,nx,ov,f,fr,H,K,hF,h => by
  have h:WE P nx (g1 :: g2 :: gs) ov fr H [] fun ov' H' _ => WS P (nx + (g1 :: g2 :: gs).length) rest ov' fr H' K:=h
  rw [WE_eq,List.reverse_nil] at h
  simp only [RunS]
  refine RunD.mono (WD_sound hF (tr':=[]) (tr:=[]) trivial h) ?_
  rintro f1 H1 tr1 ⟨ov1,trj,h1,h2,h3⟩
  exact ⟨(fun p hp => by cases hp),WS_sound h1 h3⟩
 | ⟨g1 :: g2 :: gs,p :: ps⟩ :: rest,nx,ov,f,fr,H,K,hF,h => by
  have h:WE P nx (g1 :: g2 :: gs) ov fr H [] fun ov' H' tr => Ask (farAll tr.reverse (p :: ps))∧WS P (nx + (g1 :: g2 :: gs).length) rest ov' fr H' K:=h
  rw [WE_eq,List.reverse_nil] at h
  simp only [List.reverse_reverse] at h
  simp only [RunS]
  refine RunD.mono (WD_sound hF (tr':=[]) (tr:=[]) trivial h) ?_
  rintro f1 H1 tr1 ⟨ov1,trj,h1,h2,h3⟩
  exact ⟨h2.far h3.1.ok,WS_sound h1 h3.2⟩
theorem Holds.less {w0:World} {M0:Nat→Prop} {c0:Cx} {lo n:Nat} {fr fr':Fr} {H:Hp} {nx:Nat} {a:Act} {w:World} (h:Holds w0 M0 c0 lo n fr H nx a w) (hf:∀ t,getF fr' t = .any ∨ getF fr' t = getF fr t):Holds w0 M0 c0 lo n fr' H nx a w:=by
 obtain ⟨h1,h2,ρ,U,hU,hS,hF,hT⟩:=h
 refine ⟨h1,h2,ρ,U,hU,hS,fun t => ?_,hT⟩
 rcases hf t with h|h
 ·rw [h,VR];trivial
 ·rw [h];exact hF t
theorem WL.less {n lo:Nat} {lc:LC} {fr:Fr} {H:Hp} {nx:Nat} {Q:QT} (h:WL P n lo lc fr H nx (fun e f H nx => ∃ f',(∀ t,getF f' t = .any ∨ getF f' t = getF f t)∧Q e f' H nx)):WL P n lo lc fr H nx Q :=
 fun code hc w0 M0 c0 a w hh => Code.wp_mono (fun _ _ _ ⟨x,f,H,nx,he,⟨f',h1,h2⟩,hhh⟩ => ⟨x,f',H,nx,he,h2,hhh.less h1⟩) (h code hc w0 M0 c0 a w hh)
theorem FrJ.less {f:Fr} {ov:Ov} {fr:Fr} (h:FrJ f ov fr) (t:Nat):getF (plainO ov fr) t = .any ∨ getF (plainO ov fr) t = getF f t:=by
 rcases getO_plain (ov:=ov) (fr:=fr) (t:=t) with h1|⟨v,h1,h2⟩
 ·exact .inl h1
 ·have:=h t
  rw [h1] at this
  exact .inr (h2.trans this.symm)
theorem DrawnW.of {segs:List Seg} {fr:Fr} {H:Hp} {nx:Nat} {Q:QT} (h:WS P nx segs [] fr H fun ov H' nx' => Q .normal (plainO ov fr) H' nx'):DrawnW P segs fr H nx Q :=
 ⟨fun _ _ => WL.less (WL.drawn (RunS.mono (WS_sound (FrJ.refl fr) h) fun _ _ _ ⟨_,h1,h2⟩ => ⟨_,h1.less,h2⟩))⟩
theorem W_sound {n lo:Nat}:∀ {lc:LC} {fr:Fr} {H:Hp} {nx:Nat} {Q:QT},W P n lo lc fr H nx Q→WL P n lo lc fr H nx Q
 | .skip,_,_,_,_,h => WL.skip h
 | .ret,_,_,_,_,h => WL.ret h
 | .exit _,_,_,_,_,h => WL.exit h
 | .region gs,fr,H,nx,Q,h => WL.less (WL.region (RunOps.mono (Wops_sound (FrJ.refl fr) h) fun _ _ _ ⟨_,h1,h2⟩ => ⟨_,h1.less,h2⟩))
 | .drawn segs,fr,H,nx,Q,h => DrawnW.ok (P:=P) h n lo
 | .seq a b,fr,H,nx,Q,h => WL.seq ((W_sound (lc:=a) (Q:=thenK (fun fr H nx => W P n lo b fr H nx Q) Q) h).mono fun e fr H nx hh => by
  cases e with
  | normal => exact W_sound (lc:=b) hh
  | exit id => exact hh
  | ret => exact hh)
 | .cond c a b,fr,H,nx,Q,h => by
  have h:W_cond c a b (W P n lo a) (W P n lo b) fr H nx Q:=h
  simp only [W_cond] at h
  split at h
  ·rename_i t ht
   exact WL.cond ht (fun h1 => W_sound (lc:=a) (h.ok.1 h1)) (fun h1 => W_sound (lc:=b) (h.ok.2 h1))
  ·rename_i ht
   exact WL.condAb ht (W_sound (lc:=a) h.1) (W_sound (lc:=b) h.2)
  ·exact h.elim
 | .block id a,fr,H,nx,Q,h => WL.block (W_sound (lc:=a) h)
 | .loop a,fr,H,nx,Q,h => h.ok
theorem LoopW.inv {n lo:Nat} {x:LC} {fr:Fr} {H:Hp} {nx:Nat} {Q:QT} {σ:Type} (I:σ→Fr→Hp→Nat→Prop) (μ:σ→Nat) (s0:σ) (h0:∃ fr',(∀ t,getF fr' t = .any ∨ getF fr' t = getF fr t)∧I s0 fr' H nx)
  (round:∀ s fr H nx,I s fr H nx→WL P n lo x fr H nx (thenK (fun fr' H' nx' => ∃ s',μ s' < μ s∧∃ fr2,(∀ t,getF fr2 t = .any ∨ getF fr2 t = getF fr' t)∧I s' fr2 H' nx') Q)):LoopW P n lo x fr H nx Q:=by
 refine ⟨fun code hc w0 M0 c0 a w hh => ?_⟩
 have:∃ c1,code = .loop c1∧lowCode P n c1 = some x:=by
  cases code <;> simp only [lowCode] at hc
  case loop c1 =>
   simp only [Option.map_eq_some_iff,LC.loop.injEq] at hc
   obtain ⟨x',h1,rfl⟩:=hc
   exact ⟨c1,rfl,h1⟩
  all_goals (exfalso;repeat' (split at hc)) <;> simp at hc
 obtain ⟨c1,rfl,h1⟩:=this
 intro b k cs
 have key:∀ m,∀ s,μ s = m→∀ fr H nx,I s fr H nx→∀ a w,Holds w0 M0 c0 lo n fr H nx a w →
   ∃ e a' w',LQ w0 M0 c0 lo n Q e a' w'∧Arrives P (lone (b.at a (.code c1 :: .inLoop c1 :: k)) cs w) b k cs e a' w':=by
  intro m
  induction m using Nat.strongRecOn with
  | _ m ih =>
   intro s hs fr H nx hI a w hh
   obtain ⟨e,a1,w1,hq,harr⟩:=round s fr H nx hI c1 h1 w0 M0 c0 a w hh b (.inLoop c1 :: k) cs
   obtain ⟨x',fr',H',nx',rfl,hQ,hh'⟩:=hq
   cases x' with
   | normal =>
    obtain ⟨s',hlt,fr2,hless,hI'⟩:=hQ
    obtain ⟨e2,a2,w2,hq2,harr2⟩:=ih (μ s') (by omega) s' rfl fr2 H' nx' hI' a1 w1 (hh'.less hless)
    exact ⟨e2,a2,w2,hq2,.of_steps (Steps.trans harr (.one step_inLoop)) harr2⟩
   | exit id => exact ⟨_,a1,w1,⟨.exit id,fr',H',nx',rfl,hQ,hh'⟩,.pass (x:=.inLoop c1) rfl (fun _ _ => .inl (by simp [Ex.to])) harr⟩
   | ret => exact ⟨_,a1,w1,⟨.ret,fr',H',nx',rfl,hQ,hh'⟩,.pass (x:=.inLoop c1) rfl (fun _ _ => .inl (by simp [Ex.to])) harr⟩
 obtain ⟨fr',hless,hI⟩:=h0
 obtain ⟨e,a',w',hq,harr⟩:=key _ s0 rfl fr' H nx hI a w (hh.less hless)
 exact ⟨e,a',w',hq,.of_steps (.one step_loop) harr⟩
def lessF (fr:Fr):Fr→Prop
 | [] => True
 | (t,v) :: r => getF fr t = v∧lessF fr r
theorem lessF_spec {fr:Fr}:∀ {fr':Fr},lessF fr fr'→∀ t,getF fr' t = .any ∨ getF fr' t = getF fr t
 | [],_,t => .inl rfl
 | (d,v) :: r,h,t => by
  simp only [getF]
  by_cases ht:t = d
  ·subst ht;rw [if_pos rfl];exact .inr h.1.symm
  ·rw [if_neg ht];exact lessF_spec h.2 t
theorem LoopW.fr {n lo:Nat} {x:LC} {fr:Fr} {H:Hp} {nx:Nat} {Q:QT} {σ:Type} (F:σ→Fr) (I:σ→Hp→Nat→Prop) (μ:σ→Nat) (s0:σ) (h0:lessF fr (F s0)) (h1:I s0 H nx)
  (round:∀ s H nx,I s H nx→W P n lo x (F s) H nx (thenK (fun fr' H' nx' => ∃ s',μ s' < μ s∧lessF fr' (F s')∧I s' H' nx') Q)):LoopW P n lo x fr H nx Q:=by
 refine LoopW.inv (fun s fr H nx => fr = F s∧I s H nx) μ s0 ⟨F s0,lessF_spec h0,rfl,h1⟩ ?_
 rintro s fr H nx ⟨rfl,hI⟩
 refine (W_sound (round s H nx hI)).mono ?_
 intro e fr' H' nx' hh
 cases e with
 | normal =>
  obtain ⟨s',h2,h3,h4⟩:=hh
  exact ⟨s',h2,F s',lessF_spec h3,rfl,h4⟩
 | exit id => exact hh
 | ret => exact hh
end
end Go.Abs
end
