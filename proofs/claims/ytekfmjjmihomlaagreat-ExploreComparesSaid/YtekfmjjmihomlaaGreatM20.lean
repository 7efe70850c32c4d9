import Derived.Test.YtekfmjjmihomlaaGreatM18
section
/- Rows that are written no more, told as what is held by value. -/
namespace Go.cO
open Go.RowKit
set_option linter.unusedSimpArgs false
set_option linter.unusedVariables false
def EN (f:AV→AV) (G:Hp):AV→AV
 | .sl b len=>match bd G b with
  |some (.row _ sz _ es)=>if es.length=len then .im sz .any (es.map f) else .sl b len
  |none=> .sl b len
 | .agg cs=> .agg (cs.map f)
 | .dY cs=> .dY (cs.map f)
 |a=>a
def qI (G:Hp):Nat→AV→AV
 |0,a=>a
 |k+1,a=>EN (qI G k) G a
theorem ch.pP {c c2:Cx} (f:AV→AV) (h:∀a,cz c c2 a (f a)):∀l:List AV,ch c c2 l (l.map f)
 |[]=> .nil
 |a::l=> .cons (h a) (ch.pP f h l)
theorem cz.KA {w0:World} {c c2:Cx} (hS:dB w0 c) {b:Nat} {e:TypeId} {sz:Nat} {d:AV} {es es2:List AV} (d2:AV) (hw:c2.w=c.w) (hH:c.H b=some (.row e sz d es)) (hM:∀blk o z,c.ρ b=some (blk,o,z)→¬c2.M blk) (h:ch c c2 es es2):cz c c2 (.sl b es.length) (.im sz d2 es2):=by
 have hl:=h.length
 intro v hv
 rw[VR] at hv
 obtain⟨_,a,cap,rfl,hr⟩:=hv
 obtain⟨_,hr⟩:=hr _ _ _ _ hH
 obtain⟨_,hz,hrow⟩:=hS.jZ b _ _ _ _ hH (rj (hr rfl))
 rw[VR]
 rcases hr rfl with⟨hρ,rfl,rfl⟩|⟨blk,o,z,hρ,rfl,hc1,_,_⟩
 ·rcases hrow with⟨_,rfl⟩|⟨_,_,_,hρ',_⟩
  ·have:es2=[]:=List.eq_nil_of_length_eq_zero (by simpa using hl.symm)
   subst this
   exact⟨none,0,rfl,by simp, .inl rfl⟩
  ·rw[hρ] at hρ';cases hρ'
 ·rcases hrow with⟨hρ',_⟩|⟨blk1,o1,z1,hρ1,_,_,_,hrow⟩
  ·rw[hρ] at hρ';cases hρ'
  ·rw[hρ] at hρ1;cases hρ1
   exact⟨_,cap,by rw[←hl],by rw[←hl];exact hc1, .inr ⟨blk,o,rfl,hz,hM _ _ _ hρ,h.row hw hrow⟩⟩
theorem cz.qI {w0:World} {c c2:Cx} {G:Hp} (hS:dB w0 c) (hw:c2.w=c.w) (hle:c.le c2) (hG:∀b q,bd G b=some q→c.H b=some q∧∀blk o z,c.ρ b=some (blk,o,z)→¬c2.M blk):∀(k:Nat) (a:AV),cz c c2 a (qI G k a):=by
 intro k
 induction k with
 |zero=>intro a;rw[Go.cO.qI];exact cz.cD hle a
 |succ k ih=>
  intro a
  cases a<;>rw[Go.cO.qI]<;>simp only[EN]<;>try exact cz.cD hle _
  case sl b len=>
   cases hb:bd G b with
   |none=>simp only;exact cz.cD hle _
   |some q=>
    obtain⟨e,sz,d,es⟩:=q
    simp only
    split
    ·rename_i hl
     obtain⟨g1,g2⟩:=hG b _ hb
     rw[←hl]
     exact cz.KA hS .any hw g1 g2 (ch.pP _ ih es)
    ·exact cz.cD hle _
  case agg cs=>exact cz.agg (ch.pP _ ih cs)
  case dY cs=>exact cz.dY (ch.pP _ ih cs)
def kY (G H:Hp):Hp:=G.map (fun p=>(p.1,none))++H
theorem yc (H:Hp):kY [] H=H:=rfl
theorem kx (b:Nat) (q:Option dj) (G H:Hp):kY ((b,q)::G) H=(b,none)::kY G H:=rfl
theorem er {H:Hp} {b:Nat}:∀{G:Hp},b∈G.map (·.1)→bd (kY G H) b=none
 |(x,q)::G,h=>by
  rw[kx]
  by_cases hb:b=x
  ·subst hb;exact cS _ _ _
  ·rw[cE hb]
   exact er (by simpa[hb] using h)
theorem fC {H:Hp} {b:Nat}:∀{G:Hp},b∉G.map (·.1)→bd (kY G H) b=bd H b
 |[],_=>rfl
 |(x,q)::G,h=>by
  simp only[List.map_cons,List.mem_cons,not_or] at h
  rw[kx,cE h.1,fC h.2]
theorem lZ {b:Nat} {q:dj}:∀{G:Hp},bd G b=some q→b∈G.map (·.1)
 |(x,p)::G,h=>by
  by_cases hb:b=x
  ·simp[hb]
  ·rw[cE hb] at h
   simp only[List.map_cons,List.mem_cons]
   exact .inr (lZ h)
theorem Wk.J6 {r:AV} {H:Hp} {nx:Nat} (G:Hp) (k:Nat) (hG:∀b q,bd G b=some q→bd H b=some q):Wk r H nx (qI G k r) (kY G H) nx:=by
 refine Wk.tell (Nat.le_refl _) (fun b e sz d es he=> ?_) (fun w0 c c2 hS hU hc hc2 hw hle hnew hM=>⟨?_,fun b e sz d es d0 es0 h1 h2=> ?_⟩)
 ·by_cases hb:b∈G.map (·.1)
  ·rw[er hb] at he;cases he
  ·rw[fC hb] at he
   exact .inl ⟨d,es,he,rfl⟩
 ·refine cz.qI hS hw hle (fun b q hq=> ?_) k r
  have h1:=hG b q hq
  exact⟨by rw[hc];exact h1,fun blk o z hρ=>hM b q blk o z h1 (er (lZ hq)) hρ⟩
 ·by_cases hb:b∈G.map (·.1)
  ·rw[er hb] at h1;cases h1
  ·rw[fC hb] at h1
   rw[h1] at h2;cases h2
   exact ch.cD hle _
theorem Wk.qI {H:Hp} {nx cb:Nat} {e:TypeId} {sz:Nat} {d:AV} {es:List AV} (G:Hp) (k:Nat) (d2:AV) (hcb:bd H cb=some (.row e sz d es)) (hG:∀b q,bd G b=some q→bd H b=some q):Wk .any H nx .any (kY G ((cb,some (.row e sz d2 (es.map (qI G k))))::H)) nx:=by
 refine Wk.tell (Nat.le_refl _) (fun b e' sz' d' es' he=> ?_) (fun w0 c c2 hS hU hc hc2 hw hle hnew hM=>⟨cz.any _ _ _,fun b e' sz' d' es' d0 es0 h1 h2=> ?_⟩)
 ·by_cases hb:b∈G.map (·.1)
  ·rw[er hb] at he;cases he
  ·rw[fC hb] at he
   by_cases hbc:b=cb
   ·subst hbc
    rw[cS] at he
    cases he
    exact .inl ⟨d,es,hcb,by simp⟩
   ·rw[cE hbc] at he
    exact .inl ⟨d',es',he,rfl⟩
 ·by_cases hb:b∈G.map (·.1)
  ·rw[er hb] at h1;cases h1
  ·rw[fC hb] at h1
   by_cases hbc:b=cb
   ·subst hbc
    rw[cS] at h1
    rw[hcb] at h2
    cases h1;cases h2
    exact ch.pP _ (cz.qI hS hw hle (fun b q hq=>by
     have h1:=hG b q hq
     exact⟨by rw[hc];exact h1,fun blk o z hρ=>hM b q blk o z h1 (er (lZ hq)) hρ⟩) k) _
   ·rw[cE hbc] at h1
    rw[h1] at h2;cases h2
    exact ch.cD hle _
theorem BD {G:Hp} {k b len:Nat} {e:TypeId} {sz:Nat} {d:AV} {es:List AV} (h:bd G b=some (.row e sz d es)) (hl:es.length=len):qI G (k+1) (.sl b len)= .im sz .any (es.map (qI G k)):=by
 rw[qI,EN,h];simp only;rw[if_pos hl]
theorem oZ (G:Hp) (l:List AV):l.map (Go.cO.qI G 0)=l:=by
 have e:qI G 0=id:=by funext a;rfl
 rw[e,List.map_id]
structure ry (str:Bool) {κ:Type} [DecidableEq κ] (kf:κ→Value):Prop where
 eq:∀a b,HD str (kf a) (kf b)=some (decide (a=b))
theorem BG:ry false (fun n:Int=>Value.int .i64 n):=⟨fun a b=>by simp[HD]⟩
theorem rJ:ry true (fun s:ByteArray=>Value.string s):=⟨fun a b=>by
 simp only[HD,Option.some.injEq]
 obtain⟨a⟩:=a
 obtain⟨b⟩:=b
 show(a==b)=_
 rw[Bool.eq_iff_iff]
 simp⟩
section
variable {κ β:Type} [DecidableEq κ]
def mb (kf:κ→Value) (vf:β→AV) (E:List (κ×β)):List AV:=E.map fun p=>ui (kf p.1) (vf p.2)
def du:List (κ×β)→κ→Option β
 |[],_=>none
 |p::E,k=>if k=p.1 then some p.2 else du E k
def gJ:List (κ×β)→κ→β→List (κ×β)
 |[],k,v=>[(k,v)]
 |p::E,k,v=>if k=p.1 then(k,v)::E else p::gJ E k v
def EC:List (κ×β)→κ→List (κ×β)
 |[],_=>[]
 |p::E,k=>if k=p.1 then E else p::EC E k
theorem rT {str:Bool} {kf:κ→Value} (hk:ry str kf) (vf:β→AV) (k:κ) (v:β):∀(E:List (κ×β)) (i:Nat),
 (fT str (kf k) (mb kf vf E) i=some none∧du E k=none∧gJ E k v=E++[(k,v)]∧EC E k=E)∨
 ∃j v0,fT str (kf k) (mb kf vf E) i=some (some (i+j,vf v0))∧du E k=some v0∧gJ E k v=E.set j (k,v)∧EC E k=E.eraseIdx j
 |[],i=> .inl ⟨rfl,rfl,rfl,rfl⟩
 |p::E,i=>by
  have e:fT str (kf k) (mb kf vf (p::E)) i=if k=p.1 then some (some (i,vf p.2)) else fT str (kf k) (mb kf vf E) (i+1):=by
   simp only[mb,List.map_cons,fT,ui,EG,hk.eq]
   by_cases h:k=p.1<;>simp[h]
  rw[e,du,gJ,EC]
  by_cases h:k=p.1
  ·simp only[h,if_true]
   exact .inr ⟨0,p.2,by simp,rfl,by simp,by simp⟩
  ·simp only[h,if_false]
   rcases rT hk vf k v E (i+1) with⟨h1,h2,h3,h4⟩|⟨j,v0,h1,h2,h3,h4⟩
   ·exact .inl ⟨h1,h2,by rw[h3];rfl,by rw[h4]⟩
   ·exact .inr ⟨j+1,v0,by rw[h1];congr 3;omega,h2,by rw[h3];rfl,by rw[h4];rfl⟩
theorem vk {str:Bool} {kf:κ→Value} (hk:ry str kf) (vf:β→AV) (k:κ) (E:List (κ×β)) (z:AV):rU str (kf k) (mb kf vf E) z=some ((du E k).elim z vf,(du E k).isSome):=by
 unfold rU
 cases E with
 |nil=>rfl
 |cons p E=>
  rcases rT hk vf k p.2 (p::E) 0 with⟨h1,h2,_⟩|⟨j,v0,h1,h2,_⟩<;>rw[h1,h2]<;>rfl
theorem vl {str:Bool} {kf:κ→Value} (hk:ry str kf) (vf:β→AV) (k:κ) (v:β) (E:List (κ×β)):uH str (kf k) (mb kf vf E) (vf v)=some (mb kf vf (gJ E k v)):=by
 unfold uH
 rcases rT hk vf k v E 0 with⟨h1,_,h3,_⟩|⟨j,v0,h1,_,h3,_⟩
 ·rw[h1,h3];simp[mb,ui]
 ·rw[h1,h3];simp only[mb,Nat.zero_add,List.map_set];rfl
theorem jh:∀(E:List (κ×β)) (k:κ) (v:β) (k':κ),du (gJ E k v) k'=if k'=k then some v else du E k'
 |[],k,v,k'=>by simp[gJ,du]
 |p::E,k,v,k'=>by
  rw[gJ]
  by_cases h:k=p.1
  ·rw[if_pos h]
   simp only[du]
   by_cases h2:k'=k
   ·simp[h2]
   ·have h3:¬k'=p.1:=fun e=>h2 (by rw[e,h])
    simp[h2,h3]
  ·rw[if_neg h]
   simp only[du]
   rw[jh E k v k']
   by_cases h2:k'=p.1
   ·have h3:¬k'=k:=fun e=>h (by rw[←e,h2])
    simp only[h2,if_true,h3,if_false]
    rw[if_neg (fun e=>h e.symm)]
   ·simp[h2]
theorem mY:∀(E:List (κ×β)) (k:κ),du E k=none↔k∉E.map Prod.fst
 |[],k=>by simp[du]
 |p::E,k=>by
  rw[du]
  by_cases h:k=p.1
  ·simp[h]
  ·simp[h,mY E k]
end
end Go.cO
end
