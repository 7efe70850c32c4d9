import Derived.Test.YtjopoheligmmoaaGreatDoorM19
section
/- Rows that are written no more, told as what is held by value. -/
namespace Go.cX
open Go.RowKit
set_option linter.unusedSimpArgs false
set_option linter.unusedVariables false
def QS (f:AV→AV) (G:Hp):AV→AV
 | .sl b len=>match br G b with
  |some (.row _ sz _ es)=>if es.length=len then .im sz .any (es.map f) else .sl b len
  |none=> .sl b len
 | .agg cs=> .agg (cs.map f)
 | .dP cs=> .dP (cs.map f)
 |a=>a
def tF (G:Hp):Nat→AV→AV
 |0,a=>a
 |k+1,a=>QS (tF G k) G a
theorem dI.tJ {c c2:Cx} (f:AV→AV) (h:∀a,dQ c c2 a (f a)):∀l:List AV,dI c c2 l (l.map f)
 |[]=> .nil
 |a::l=> .cons (h a) (dI.tJ f h l)
theorem dQ.XH {w0:World} {c c2:Cx} (hS:dV w0 c) {b:Nat} {e:TypeId} {sz:Nat} {d:AV} {es es2:List AV} (d2:AV) (hw:c2.w=c.w) (hH:c.H b=some (.row e sz d es)) (hM:∀blk o z,c.ρ b=some (blk,o,z)→¬c2.M blk) (h:dI c c2 es es2):dQ c c2 (.sl b es.length) (.im sz d2 es2):=by
 have hl:=h.length
 intro v hv
 rw[VR] at hv
 obtain⟨_,a,cap,rfl,hr⟩:=hv
 obtain⟨_,hr⟩:=hr _ _ _ _ hH
 obtain⟨_,hz,hrow⟩:=hS.jO b _ _ _ _ hH (sd (hr rfl))
 rw[VR]
 rcases hr rfl with⟨hρ,rfl,rfl⟩|⟨blk,o,z,hρ,rfl,hc1,_,_⟩
 ·rcases hrow with⟨_,rfl⟩|⟨_,_,_,hρ',_⟩
  ·have:es2=[]:=List.eq_nil_of_length_eq_zero (by simpa using hl.symm)
   subst this
   exact⟨none,0,rfl,by simp, .inl rfl⟩
  ·rw[hρ] at hρ';cases hρ'
 ·rcases hrow with⟨hρ',_⟩|⟨blk1,o1,z1,hρ1,_,_,_,hrow⟩
  ·rw[hρ] at hρ';cases hρ'
  ·rw[hρ] at hρ1;cases hρ1
   exact⟨_,cap,by rw[←hl],by rw[←hl];exact hc1, .inr ⟨blk,o,rfl,hz,hM _ _ _ hρ,h.row hw hrow⟩⟩
theorem dQ.tF {w0:World} {c c2:Cx} {G:Hp} (hS:dV w0 c) (hw:c2.w=c.w) (hle:c.le c2) (hG:∀b q,br G b=some q→c.H b=some q∧∀blk o z,c.ρ b=some (blk,o,z)→¬c2.M blk):∀(k:Nat) (a:AV),dQ c c2 a (tF G k a):=by
 intro k
 induction k with
 |zero=>intro a;rw[Go.cX.tF];exact dQ.cP hle a
 |succ k ih=>
  intro a
  cases a<;>rw[Go.cX.tF]<;>simp only[QS]<;>try exact dQ.cP hle _
  case sl b len=>
   cases hb:br G b with
   |none=>simp only;exact dQ.cP hle _
   |some q=>
    obtain⟨e,sz,d,es⟩:=q
    simp only
    split
    ·rename_i hl
     obtain⟨g1,g2⟩:=hG b _ hb
     rw[←hl]
     exact dQ.XH hS .any hw g1 g2 (dI.tJ _ ih es)
    ·exact dQ.cP hle _
  case agg cs=>exact dQ.agg (dI.tJ _ ih cs)
  case dP cs=>exact dQ.dP (dI.tJ _ ih cs)
def lE (G H:Hp):Hp:=G.map (fun p=>(p.1,none))++H
theorem HY (H:Hp):lE [] H=H:=rfl
theorem nX (b:Nat) (q:Option eQ) (G H:Hp):lE ((b,q)::G) H=(b,none)::lE G H:=rfl
theorem fF {H:Hp} {b:Nat}:∀{G:Hp},b∈G.map (·.1)→br (lE G H) b=none
 |(x,q)::G,h=>by
  rw[nX]
  by_cases hb:b=x
  ·subst hb;exact cn _ _ _
  ·rw[cV hb]
   exact fF (by simpa[hb] using h)
theorem fP {H:Hp} {b:Nat}:∀{G:Hp},b∉G.map (·.1)→br (lE G H) b=br H b
 |[],_=>rfl
 |(x,q)::G,h=>by
  simp only[List.map_cons,List.mem_cons,not_or] at h
  rw[nX,cV h.1,fP h.2]
theorem mT {b:Nat} {q:eQ}:∀{G:Hp},br G b=some q→b∈G.map (·.1)
 |(x,p)::G,h=>by
  by_cases hb:b=x
  ·simp[hb]
  ·rw[cV hb] at h
   simp only[List.map_cons,List.mem_cons]
   exact .inr (mT h)
theorem Wk.XD {r:AV} {H:Hp} {nx:Nat} (G:Hp) (k:Nat) (hG:∀b q,br G b=some q→br H b=some q):Wk r H nx (tF G k r) (lE G H) nx:=by
 refine Wk.tell (Nat.le_refl _) (fun b e sz d es he=> ?_) (fun w0 c c2 hS hU hc hc2 hw hle hnew hM=>⟨?_,fun b e sz d es d0 es0 h1 h2=> ?_⟩)
 ·by_cases hb:b∈G.map (·.1)
  ·rw[fF hb] at he;cases he
  ·rw[fP hb] at he
   exact .inl ⟨d,es,he,rfl⟩
 ·refine dQ.tF hS hw hle (fun b q hq=> ?_) k r
  have h1:=hG b q hq
  exact⟨by rw[hc];exact h1,fun blk o z hρ=>hM b q blk o z h1 (fF (mT hq)) hρ⟩
 ·by_cases hb:b∈G.map (·.1)
  ·rw[fF hb] at h1;cases h1
  ·rw[fP hb] at h1
   rw[h1] at h2;cases h2
   exact dI.cP hle _
theorem Wk.tF {H:Hp} {nx cb:Nat} {e:TypeId} {sz:Nat} {d:AV} {es:List AV} (G:Hp) (k:Nat) (d2:AV) (hcb:br H cb=some (.row e sz d es)) (hG:∀b q,br G b=some q→br H b=some q):Wk .any H nx .any (lE G ((cb,some (.row e sz d2 (es.map (tF G k))))::H)) nx:=by
 refine Wk.tell (Nat.le_refl _) (fun b e' sz' d' es' he=> ?_) (fun w0 c c2 hS hU hc hc2 hw hle hnew hM=>⟨dQ.any _ _ _,fun b e' sz' d' es' d0 es0 h1 h2=> ?_⟩)
 ·by_cases hb:b∈G.map (·.1)
  ·rw[fF hb] at he;cases he
  ·rw[fP hb] at he
   by_cases hbc:b=cb
   ·subst hbc
    rw[cn] at he
    cases he
    exact .inl ⟨d,es,hcb,by simp⟩
   ·rw[cV hbc] at he
    exact .inl ⟨d',es',he,rfl⟩
 ·by_cases hb:b∈G.map (·.1)
  ·rw[fF hb] at h1;cases h1
  ·rw[fP hb] at h1
   by_cases hbc:b=cb
   ·subst hbc
    rw[cn] at h1
    rw[hcb] at h2
    cases h1;cases h2
    exact dI.tJ _ (dQ.tF hS hw hle (fun b q hq=>by
     have h1:=hG b q hq
     exact⟨by rw[hc];exact h1,fun blk o z hρ=>hM b q blk o z h1 (fF (mT hq)) hρ⟩) k) _
   ·rw[cV hbc] at h1
    rw[h1] at h2;cases h2
    exact dI.cP hle _
theorem MT {G:Hp} {k b len:Nat} {e:TypeId} {sz:Nat} {d:AV} {es:List AV} (h:br G b=some (.row e sz d es)) (hl:es.length=len):tF G (k+1) (.sl b len)= .im sz .any (es.map (tF G k)):=by
 rw[tF,QS,h];simp only;rw[if_pos hl]
theorem sF (G:Hp) (l:List AV):l.map (Go.cX.tF G 0)=l:=by
 have e:tF G 0=id:=by funext a;rfl
 rw[e,List.map_id]
structure w5 (str:Bool) {κ:Type} [DecidableEq κ] (kf:κ→Value):Prop where
 eq:∀a b,BS str (kf a) (kf b)=some (decide (a=b))
theorem MW:w5 false (fun n:Int=>Value.int .i64 n):=⟨fun a b=>by simp[BS]⟩
theorem vm:w5 true (fun s:ByteArray=>Value.string s):=⟨fun a b=>by
 simp only[BS,Option.some.injEq]
 obtain⟨a⟩:=a
 obtain⟨b⟩:=b
 show(a==b)=_
 rw[Bool.eq_iff_iff]
 simp⟩
section
variable {κ β:Type} [DecidableEq κ]
def pq (kf:κ→Value) (vf:β→AV) (E:List (κ×β)):List AV:=E.map fun p=>mm (kf p.1) (vf p.2)
def ec:List (κ×β)→κ→Option β
 |[],_=>none
 |p::E,k=>if k=p.1 then some p.2 else ec E k
def iX:List (κ×β)→κ→β→List (κ×β)
 |[],k,v=>[(k,v)]
 |p::E,k,v=>if k=p.1 then(k,v)::E else p::iX E k v
def QD:List (κ×β)→κ→List (κ×β)
 |[],_=>[]
 |p::E,k=>if k=p.1 then E else p::QD E k
theorem vx {str:Bool} {kf:κ→Value} (hk:w5 str kf) (vf:β→AV) (k:κ) (v:β):∀(E:List (κ×β)) (i:Nat),
 (eW str (kf k) (pq kf vf E) i=some none∧ec E k=none∧iX E k v=E++[(k,v)]∧QD E k=E)∨
 ∃j v0,eW str (kf k) (pq kf vf E) i=some (some (i+j,vf v0))∧ec E k=some v0∧iX E k v=E.set j (k,v)∧QD E k=E.eraseIdx j
 |[],i=> .inl ⟨rfl,rfl,rfl,rfl⟩
 |p::E,i=>by
  have e:eW str (kf k) (pq kf vf (p::E)) i=if k=p.1 then some (some (i,vf p.2)) else eW str (kf k) (pq kf vf E) (i+1):=by
   simp only[pq,List.map_cons,eW,mm,ri,hk.eq]
   by_cases h:k=p.1<;>simp[h]
  rw[e,ec,iX,QD]
  by_cases h:k=p.1
  ·simp only[h,if_true]
   exact .inr ⟨0,p.2,by simp,rfl,by simp,by simp⟩
  ·simp only[h,if_false]
   rcases vx hk vf k v E (i+1) with⟨h1,h2,h3,h4⟩|⟨j,v0,h1,h2,h3,h4⟩
   ·exact .inl ⟨h1,h2,by rw[h3];rfl,by rw[h4]⟩
   ·exact .inr ⟨j+1,v0,by rw[h1];congr 3;omega,h2,by rw[h3];rfl,by rw[h4];rfl⟩
theorem B5 {str:Bool} {kf:κ→Value} (hk:w5 str kf) (vf:β→AV) (k:κ) (E:List (κ×β)) (z:AV):lh str (kf k) (pq kf vf E) z=some ((ec E k).elim z vf,(ec E k).isSome):=by
 unfold lh
 cases E with
 |nil=>rfl
 |cons p E=>
  rcases vx hk vf k p.2 (p::E) 0 with⟨h1,h2,_⟩|⟨j,v0,h1,h2,_⟩<;>rw[h1,h2]<;>rfl
theorem B6 {str:Bool} {kf:κ→Value} (hk:w5 str kf) (vf:β→AV) (k:κ) (v:β) (E:List (κ×β)):oe str (kf k) (pq kf vf E) (vf v)=some (pq kf vf (iX E k v)):=by
 unfold oe
 rcases vx hk vf k v E 0 with⟨h1,_,h3,_⟩|⟨j,v0,h1,_,h3,_⟩
 ·rw[h1,h3];simp[pq,mm]
 ·rw[h1,h3];simp only[pq,Nat.zero_add,List.map_set];rfl
theorem la:∀(E:List (κ×β)) (k:κ) (v:β) (k':κ),ec (iX E k v) k'=if k'=k then some v else ec E k'
 |[],k,v,k'=>by simp[iX,ec]
 |p::E,k,v,k'=>by
  rw[iX]
  by_cases h:k=p.1
  ·rw[if_pos h]
   simp only[ec]
   by_cases h2:k'=k
   ·simp[h2]
   ·have h3:¬k'=p.1:=fun e=>h2 (by rw[e,h])
    simp[h2,h3]
  ·rw[if_neg h]
   simp only[ec]
   rw[la E k v k']
   by_cases h2:k'=p.1
   ·have h3:¬k'=k:=fun e=>h (by rw[←e,h2])
    simp only[h2,if_true,h3,if_false]
    rw[if_neg (fun e=>h e.symm)]
   ·simp[h2]
theorem ph:∀(E:List (κ×β)) (k:κ),ec E k=none↔k∉E.map Prod.fst
 |[],k=>by simp[ec]
 |p::E,k=>by
  rw[ec]
  by_cases h:k=p.1
  ·simp[h]
  ·simp[h,ph E k]
end
end Go.cX
end
