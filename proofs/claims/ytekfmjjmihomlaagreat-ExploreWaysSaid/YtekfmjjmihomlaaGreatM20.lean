import Derived.Test.YtekfmjjmihomlaaGreatM18
section
/- Rows that are written no more, told as what is held by value. -/
namespace Go.cV
open Go.RowKit
set_option linter.unusedSimpArgs false
set_option linter.unusedVariables false
def J7 (f:AV→AV) (G:Hp):AV→AV
 | .sl b len=>match bd G b with
  |some (.row _ sz _ es)=>if es.length=len then .im sz .any (es.map f) else .sl b len
  |none=> .sl b len
 | .agg cs=> .agg (cs.map f)
 | .dH cs=> .dH (cs.map f)
 |a=>a
def sq (G:Hp):Nat→AV→AV
 |0,a=>a
 |k+1,a=>J7 (sq G k) G a
theorem dA.rj {c c2:Cx} (f:AV→AV) (h:∀a,dQ c c2 a (f a)):∀l:List AV,dA c c2 l (l.map f)
 |[]=> .nil
 |a::l=> .cons (h a) (dA.rj f h l)
theorem dQ.PE {w0:World} {c c2:Cx} (hS:dZ w0 c) {b:Nat} {e:TypeId} {sz:Nat} {d:AV} {es es2:List AV} (d2:AV) (hw:c2.w=c.w) (hH:c.H b=some (.row e sz d es)) (hM:∀blk o z,c.ρ b=some (blk,o,z)→¬c2.M blk) (h:dA c c2 es es2):dQ c c2 (.sl b es.length) (.im sz d2 es2):=by
 have hl:=h.length
 intro v hv
 rw[VR] at hv
 obtain⟨_,a,cap,rfl,hr⟩:=hv
 obtain⟨_,hr⟩:=hr _ _ _ _ hH
 obtain⟨_,hz,hrow⟩:=hS.kq b _ _ _ _ hH (uZ (hr rfl))
 rw[VR]
 rcases hr rfl with⟨hρ,rfl,rfl⟩|⟨blk,o,z,hρ,rfl,hc1,_,_⟩
 ·rcases hrow with⟨_,rfl⟩|⟨_,_,_,hρ',_⟩
  ·have:es2=[]:=List.eq_nil_of_length_eq_zero (by simpa using hl.symm)
   subst this
   exact⟨none,0,rfl,by simp, .inl rfl⟩
  ·rw[hρ] at hρ';cases hρ'
 ·rcases hrow with⟨hρ',_⟩|⟨blk1,o1,z1,hρ1,_,_,_,hrow⟩
  ·rw[hρ] at hρ';cases hρ'
  ·rw[hρ] at hρ1;cases hρ1
   exact⟨_,cap,by rw[←hl],by rw[←hl];exact hc1, .inr ⟨blk,o,rfl,hz,hM _ _ _ hρ,h.row hw hrow⟩⟩
theorem dQ.sq {w0:World} {c c2:Cx} {G:Hp} (hS:dZ w0 c) (hw:c2.w=c.w) (hle:c.le c2) (hG:∀b q,bd G b=some q→c.H b=some q∧∀blk o z,c.ρ b=some (blk,o,z)→¬c2.M blk):∀(k:Nat) (a:AV),dQ c c2 a (sq G k a):=by
 intro k
 induction k with
 |zero=>intro a;rw[Go.cV.sq];exact dQ.cO hle a
 |succ k ih=>
  intro a
  cases a<;>rw[Go.cV.sq]<;>simp only[J7]<;>try exact dQ.cO hle _
  case sl b len=>
   cases hb:bd G b with
   |none=>simp only;exact dQ.cO hle _
   |some q=>
    obtain⟨e,sz,d,es⟩:=q
    simp only
    split
    ·rename_i hl
     obtain⟨g1,g2⟩:=hG b _ hb
     rw[←hl]
     exact dQ.PE hS .any hw g1 g2 (dA.rj _ ih es)
    ·exact dQ.cO hle _
  case agg cs=>exact dQ.agg (dA.rj _ ih cs)
  case dH cs=>exact dQ.dH (dA.rj _ ih cs)
def mK (G H:Hp):Hp:=G.map (fun p=>(p.1,none))++H
theorem sk (H:Hp):mK [] H=H:=rfl
theorem kN (b:Nat) (q:Option eT) (G H:Hp):mK ((b,q)::G) H=(b,none)::mK G H:=rfl
theorem fw {H:Hp} {b:Nat}:∀{G:Hp},b∈G.map (·.1)→bd (mK G H) b=none
 |(x,q)::G,h=>by
  rw[kN]
  by_cases hb:b=x
  ·subst hb;exact cI _ _ _
  ·rw[bz hb]
   exact fw (by simpa[hb] using h)
theorem gJ {H:Hp} {b:Nat}:∀{G:Hp},b∉G.map (·.1)→bd (mK G H) b=bd H b
 |[],_=>rfl
 |(x,q)::G,h=>by
  simp only[List.map_cons,List.mem_cons,not_or] at h
  rw[kN,bz h.1,gJ h.2]
theorem nW {b:Nat} {q:eT}:∀{G:Hp},bd G b=some q→b∈G.map (·.1)
 |(x,p)::G,h=>by
  by_cases hb:b=x
  ·simp[hb]
  ·rw[bz hb] at h
   simp only[List.map_cons,List.mem_cons]
   exact .inr (nW h)
theorem Wk.NM {r:AV} {H:Hp} {nx:Nat} (G:Hp) (k:Nat) (hG:∀b q,bd G b=some q→bd H b=some q):Wk r H nx (sq G k r) (mK G H) nx:=by
 refine Wk.tell (Nat.le_refl _) (fun b e sz d es he=> ?_) (fun w0 c c2 hS hU hc hc2 hw hle hnew hM=>⟨?_,fun b e sz d es d0 es0 h1 h2=> ?_⟩)
 ·by_cases hb:b∈G.map (·.1)
  ·rw[fw hb] at he;cases he
  ·rw[gJ hb] at he
   exact .inl ⟨d,es,he,rfl⟩
 ·refine dQ.sq hS hw hle (fun b q hq=> ?_) k r
  have h1:=hG b q hq
  exact⟨by rw[hc];exact h1,fun blk o z hρ=>hM b q blk o z h1 (fw (nW hq)) hρ⟩
 ·by_cases hb:b∈G.map (·.1)
  ·rw[fw hb] at h1;cases h1
  ·rw[gJ hb] at h1
   rw[h1] at h2;cases h2
   exact dA.cO hle _
theorem Wk.sq {H:Hp} {nx cb:Nat} {e:TypeId} {sz:Nat} {d:AV} {es:List AV} (G:Hp) (k:Nat) (d2:AV) (hcb:bd H cb=some (.row e sz d es)) (hG:∀b q,bd G b=some q→bd H b=some q):Wk .any H nx .any (mK G ((cb,some (.row e sz d2 (es.map (sq G k))))::H)) nx:=by
 refine Wk.tell (Nat.le_refl _) (fun b e' sz' d' es' he=> ?_) (fun w0 c c2 hS hU hc hc2 hw hle hnew hM=>⟨dQ.any _ _ _,fun b e' sz' d' es' d0 es0 h1 h2=> ?_⟩)
 ·by_cases hb:b∈G.map (·.1)
  ·rw[fw hb] at he;cases he
  ·rw[gJ hb] at he
   by_cases hbc:b=cb
   ·subst hbc
    rw[cI] at he
    cases he
    exact .inl ⟨d,es,hcb,by simp⟩
   ·rw[bz hbc] at he
    exact .inl ⟨d',es',he,rfl⟩
 ·by_cases hb:b∈G.map (·.1)
  ·rw[fw hb] at h1;cases h1
  ·rw[gJ hb] at h1
   by_cases hbc:b=cb
   ·subst hbc
    rw[cI] at h1
    rw[hcb] at h2
    cases h1;cases h2
    exact dA.rj _ (dQ.sq hS hw hle (fun b q hq=>by
     have h1:=hG b q hq
     exact⟨by rw[hc];exact h1,fun blk o z hρ=>hM b q blk o z h1 (fw (nW hq)) hρ⟩) k) _
   ·rw[bz hbc] at h1
    rw[h1] at h2;cases h2
    exact dA.cO hle _
theorem yU {G:Hp} {k b len:Nat} {e:TypeId} {sz:Nat} {d:AV} {es:List AV} (h:bd G b=some (.row e sz d es)) (hl:es.length=len):sq G (k+1) (.sl b len)= .im sz .any (es.map (sq G k)):=by
 rw[sq,J7,h];simp only;rw[if_pos hl]
theorem nc (G:Hp) (l:List AV):l.map (Go.cV.sq G 0)=l:=by
 have e:sq G 0=id:=by funext a;rfl
 rw[e,List.map_id]
structure uc (str:Bool) {κ:Type} [DecidableEq κ] (kf:κ→Value):Prop where
 eq:∀a b,MG str (kf a) (kf b)=some (decide (a=b))
theorem FT:uc false (fun n:Int=>Value.int .i64 n):=⟨fun a b=>by simp[MG]⟩
theorem uB:uc true (fun s:ByteArray=>Value.string s):=⟨fun a b=>by
 simp only[MG,Option.some.injEq]
 obtain⟨a⟩:=a
 obtain⟨b⟩:=b
 show(a==b)=_
 rw[Bool.eq_iff_iff]
 simp⟩
section
variable {κ β:Type} [DecidableEq κ]
def oc (kf:κ→Value) (vf:β→AV) (E:List (κ×β)):List AV:=E.map fun p=>xg (kf p.1) (vf p.2)
def eX:List (κ×β)→κ→Option β
 |[],_=>none
 |p::E,k=>if k=p.1 then some p.2 else eX E k
def iM:List (κ×β)→κ→β→List (κ×β)
 |[],k,v=>[(k,v)]
 |p::E,k,v=>if k=p.1 then(k,v)::E else p::iM E k v
def JS:List (κ×β)→κ→List (κ×β)
 |[],_=>[]
 |p::E,k=>if k=p.1 then E else p::JS E k
theorem uG {str:Bool} {kf:κ→Value} (hk:uc str kf) (vf:β→AV) (k:κ) (v:β):∀(E:List (κ×β)) (i:Nat),
 (gu str (kf k) (oc kf vf E) i=some none∧eX E k=none∧iM E k v=E++[(k,v)]∧JS E k=E)∨
 ∃j v0,gu str (kf k) (oc kf vf E) i=some (some (i+j,vf v0))∧eX E k=some v0∧iM E k v=E.set j (k,v)∧JS E k=E.eraseIdx j
 |[],i=> .inl ⟨rfl,rfl,rfl,rfl⟩
 |p::E,i=>by
  have e:gu str (kf k) (oc kf vf (p::E)) i=if k=p.1 then some (some (i,vf p.2)) else gu str (kf k) (oc kf vf E) (i+1):=by
   simp only[oc,List.map_cons,gu,xg,JW,hk.eq]
   by_cases h:k=p.1<;>simp[h]
  rw[e,eX,iM,JS]
  by_cases h:k=p.1
  ·simp only[h,if_true]
   exact .inr ⟨0,p.2,by simp,rfl,by simp,by simp⟩
  ·simp only[h,if_false]
   rcases uG hk vf k v E (i+1) with⟨h1,h2,h3,h4⟩|⟨j,v0,h1,h2,h3,h4⟩
   ·exact .inl ⟨h1,h2,by rw[h3];rfl,by rw[h4]⟩
   ·exact .inr ⟨j+1,v0,by rw[h1];congr 3;omega,h2,by rw[h3];rfl,by rw[h4];rfl⟩
theorem ye {str:Bool} {kf:κ→Value} (hk:uc str kf) (vf:β→AV) (k:κ) (E:List (κ×β)) (z:AV):uH str (kf k) (oc kf vf E) z=some ((eX E k).elim z vf,(eX E k).isSome):=by
 unfold uH
 cases E with
 |nil=>rfl
 |cons p E=>
  rcases uG hk vf k p.2 (p::E) 0 with⟨h1,h2,_⟩|⟨j,v0,h1,h2,_⟩<;>rw[h1,h2]<;>rfl
theorem yf {str:Bool} {kf:κ→Value} (hk:uc str kf) (vf:β→AV) (k:κ) (v:β) (E:List (κ×β)):wu str (kf k) (oc kf vf E) (vf v)=some (oc kf vf (iM E k v)):=by
 unfold wu
 rcases uG hk vf k v E 0 with⟨h1,_,h3,_⟩|⟨j,v0,h1,_,h3,_⟩
 ·rw[h1,h3];simp[oc,xg]
 ·rw[h1,h3];simp only[oc,Nat.zero_add,List.map_set];rfl
theorem lK:∀(E:List (κ×β)) (k:κ) (v:β) (k':κ),eX (iM E k v) k'=if k'=k then some v else eX E k'
 |[],k,v,k'=>by simp[iM,eX]
 |p::E,k,v,k'=>by
  rw[iM]
  by_cases h:k=p.1
  ·rw[if_pos h]
   simp only[eX]
   by_cases h2:k'=k
   ·simp[h2]
   ·have h3:¬k'=p.1:=fun e=>h2 (by rw[e,h])
    simp[h2,h3]
  ·rw[if_neg h]
   simp only[eX]
   rw[lK E k v k']
   by_cases h2:k'=p.1
   ·have h3:¬k'=k:=fun e=>h (by rw[←e,h2])
    simp only[h2,if_true,h3,if_false]
    rw[if_neg (fun e=>h e.symm)]
   ·simp[h2]
theorem o7:∀(E:List (κ×β)) (k:κ),eX E k=none↔k∉E.map Prod.fst
 |[],k=>by simp[eX]
 |p::E,k=>by
  rw[eX]
  by_cases h:k=p.1
  ·simp[h]
  ·simp[h,o7 E k]
end
end Go.cV
end
