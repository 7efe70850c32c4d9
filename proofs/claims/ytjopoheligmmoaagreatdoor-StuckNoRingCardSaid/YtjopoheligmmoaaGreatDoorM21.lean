import Derived.Test.YtjopoheligmmoaaGreatDoorM19
section
/- Rows that are written no more, told as what is held by value. -/
namespace Go.cY
open Go.RowKit
set_option linter.unusedSimpArgs false
set_option linter.unusedVariables false
def RD (f:AV→AV) (G:Hp):AV→AV
 | .sl b len=>match br G b with
  |some (.row _ sz _ es)=>if es.length=len then .im sz .any (es.map f) else .sl b len
  |none=> .sl b len
 | .agg cs=> .agg (cs.map f)
 | .dL cs=> .dL (cs.map f)
 |a=>a
def tV (G:Hp):Nat→AV→AV
 |0,a=>a
 |k+1,a=>RD (tV G k) G a
theorem dG.tZ {c c2:Cx} (f:AV→AV) (h:∀a,dM c c2 a (f a)):∀l:List AV,dG c c2 l (l.map f)
 |[]=> .nil
 |a::l=> .cons (h a) (dG.tZ f h l)
theorem dM.X2 {w0:World} {c c2:Cx} (hS:dV w0 c) {b:Nat} {e:TypeId} {sz:Nat} {d:AV} {es es2:List AV} (d2:AV) (hw:c2.w=c.w) (hH:c.H b=some (.row e sz d es)) (hM:∀blk o z,c.ρ b=some (blk,o,z)→¬c2.M blk) (h:dG c c2 es es2):dM c c2 (.sl b es.length) (.im sz d2 es2):=by
 have hl:=h.length
 intro v hv
 rw[VR] at hv
 obtain⟨_,a,cap,rfl,hr⟩:=hv
 obtain⟨_,hr⟩:=hr _ _ _ _ hH
 obtain⟨_,hz,hrow⟩:=hS.jU b _ _ _ _ hH (tA (hr rfl))
 rw[VR]
 rcases hr rfl with⟨hρ,rfl,rfl⟩|⟨blk,o,z,hρ,rfl,hc1,_,_⟩
 ·rcases hrow with⟨_,rfl⟩|⟨_,_,_,hρ',_⟩
  ·have:es2=[]:=List.eq_nil_of_length_eq_zero (by simpa using hl.symm)
   subst this
   exact⟨none,0,rfl,by simp, .inl rfl⟩
  ·rw[hρ] at hρ';cases hρ'
 ·rcases hrow with⟨hρ',_⟩|⟨blk1,o1,z1,hρ1,_,_,_,hrow⟩
  ·rw[hρ] at hρ';cases hρ'
  ·rw[hρ] at hρ1;cases hρ1
   exact⟨_,cap,by rw[←hl],by rw[←hl];exact hc1, .inr ⟨blk,o,rfl,hz,hM _ _ _ hρ,h.row hw hrow⟩⟩
theorem dM.tV {w0:World} {c c2:Cx} {G:Hp} (hS:dV w0 c) (hw:c2.w=c.w) (hle:c.le c2) (hG:∀b q,br G b=some q→c.H b=some q∧∀blk o z,c.ρ b=some (blk,o,z)→¬c2.M blk):∀(k:Nat) (a:AV),dM c c2 a (tV G k a):=by
 intro k
 induction k with
 |zero=>intro a;rw[Go.cY.tV];exact dM.cR hle a
 |succ k ih=>
  intro a
  cases a<;>rw[Go.cY.tV]<;>simp only[RD]<;>try exact dM.cR hle _
  case sl b len=>
   cases hb:br G b with
   |none=>simp only;exact dM.cR hle _
   |some q=>
    obtain⟨e,sz,d,es⟩:=q
    simp only
    split
    ·rename_i hl
     obtain⟨g1,g2⟩:=hG b _ hb
     rw[←hl]
     exact dM.X2 hS .any hw g1 g2 (dG.tZ _ ih es)
    ·exact dM.cR hle _
  case agg cs=>exact dM.agg (dG.tZ _ ih cs)
  case dL cs=>exact dM.dL (dG.tZ _ ih cs)
def lO (G H:Hp):Hp:=G.map (fun p=>(p.1,none))++H
theorem IV (H:Hp):lO [] H=H:=rfl
theorem nc (b:Nat) (q:Option eS) (G H:Hp):lO ((b,q)::G) H=(b,none)::lO G H:=rfl
theorem fJ {H:Hp} {b:Nat}:∀{G:Hp},b∈G.map (·.1)→br (lO G H) b=none
 |(x,q)::G,h=>by
  rw[nc]
  by_cases hb:b=x
  ·subst hb;exact cn _ _ _
  ·rw[cW hb]
   exact fJ (by simpa[hb] using h)
theorem fV {H:Hp} {b:Nat}:∀{G:Hp},b∉G.map (·.1)→br (lO G H) b=br H b
 |[],_=>rfl
 |(x,q)::G,h=>by
  simp only[List.map_cons,List.mem_cons,not_or] at h
  rw[nc,cW h.1,fV h.2]
theorem ma {b:Nat} {q:eS}:∀{G:Hp},br G b=some q→b∈G.map (·.1)
 |(x,p)::G,h=>by
  by_cases hb:b=x
  ·simp[hb]
  ·rw[cW hb] at h
   simp only[List.map_cons,List.mem_cons]
   exact .inr (ma h)
theorem Wk.XY {r:AV} {H:Hp} {nx:Nat} (G:Hp) (k:Nat) (hG:∀b q,br G b=some q→br H b=some q):Wk r H nx (tV G k r) (lO G H) nx:=by
 refine Wk.tell (Nat.le_refl _) (fun b e sz d es he=> ?_) (fun w0 c c2 hS hU hc hc2 hw hle hnew hM=>⟨?_,fun b e sz d es d0 es0 h1 h2=> ?_⟩)
 ·by_cases hb:b∈G.map (·.1)
  ·rw[fJ hb] at he;cases he
  ·rw[fV hb] at he
   exact .inl ⟨d,es,he,rfl⟩
 ·refine dM.tV hS hw hle (fun b q hq=> ?_) k r
  have h1:=hG b q hq
  exact⟨by rw[hc];exact h1,fun blk o z hρ=>hM b q blk o z h1 (fJ (ma hq)) hρ⟩
 ·by_cases hb:b∈G.map (·.1)
  ·rw[fJ hb] at h1;cases h1
  ·rw[fV hb] at h1
   rw[h1] at h2;cases h2
   exact dG.cR hle _
theorem Wk.tV {H:Hp} {nx cb:Nat} {e:TypeId} {sz:Nat} {d:AV} {es:List AV} (G:Hp) (k:Nat) (d2:AV) (hcb:br H cb=some (.row e sz d es)) (hG:∀b q,br G b=some q→br H b=some q):Wk .any H nx .any (lO G ((cb,some (.row e sz d2 (es.map (tV G k))))::H)) nx:=by
 refine Wk.tell (Nat.le_refl _) (fun b e' sz' d' es' he=> ?_) (fun w0 c c2 hS hU hc hc2 hw hle hnew hM=>⟨dM.any _ _ _,fun b e' sz' d' es' d0 es0 h1 h2=> ?_⟩)
 ·by_cases hb:b∈G.map (·.1)
  ·rw[fJ hb] at he;cases he
  ·rw[fV hb] at he
   by_cases hbc:b=cb
   ·subst hbc
    rw[cn] at he
    cases he
    exact .inl ⟨d,es,hcb,by simp⟩
   ·rw[cW hbc] at he
    exact .inl ⟨d',es',he,rfl⟩
 ·by_cases hb:b∈G.map (·.1)
  ·rw[fJ hb] at h1;cases h1
  ·rw[fV hb] at h1
   by_cases hbc:b=cb
   ·subst hbc
    rw[cn] at h1
    rw[hcb] at h2
    cases h1;cases h2
    exact dG.tZ _ (dM.tV hS hw hle (fun b q hq=>by
     have h1:=hG b q hq
     exact⟨by rw[hc];exact h1,fun blk o z hρ=>hM b q blk o z h1 (fJ (ma hq)) hρ⟩) k) _
   ·rw[cW hbc] at h1
    rw[h1] at h2;cases h2
    exact dG.cR hle _
theorem NH {G:Hp} {k b len:Nat} {e:TypeId} {sz:Nat} {d:AV} {es:List AV} (h:br G b=some (.row e sz d es)) (hl:es.length=len):tV G (k+1) (.sl b len)= .im sz .any (es.map (tV G k)):=by
 rw[tV,RD,h];simp only;rw[if_pos hl]
theorem sU (G:Hp) (l:List AV):l.map (Go.cY.tV G 0)=l:=by
 have e:tV G 0=id:=by funext a;rfl
 rw[e,List.map_id]
structure wq (str:Bool) {κ:Type} [DecidableEq κ] (kf:κ→Value):Prop where
 eq:∀a b,B8 str (kf a) (kf b)=some (decide (a=b))
theorem NK:wq false (fun n:Int=>Value.int .i64 n):=⟨fun a b=>by simp[B8]⟩
theorem wE:wq true (fun s:ByteArray=>Value.string s):=⟨fun a b=>by
 simp only[B8,Option.some.injEq]
 obtain⟨a⟩:=a
 obtain⟨b⟩:=b
 show(a==b)=_
 rw[Bool.eq_iff_iff]
 simp⟩
section
variable {κ β:Type} [DecidableEq κ]
def qG (kf:κ→Value) (vf:β→AV) (E:List (κ×β)):List AV:=E.map fun p=>nA (kf p.1) (vf p.2)
def ef:List (κ×β)→κ→Option β
 |[],_=>none
 |p::E,k=>if k=p.1 then some p.2 else ef E k
def iq:List (κ×β)→κ→β→List (κ×β)
 |[],k,v=>[(k,v)]
 |p::E,k,v=>if k=p.1 then(k,v)::E else p::iq E k v
def QZ:List (κ×β)→κ→List (κ×β)
 |[],_=>[]
 |p::E,k=>if k=p.1 then E else p::QZ E k
theorem wM {str:Bool} {kf:κ→Value} (hk:wq str kf) (vf:β→AV) (k:κ) (v:β):∀(E:List (κ×β)) (i:Nat),
 (eY str (kf k) (qG kf vf E) i=some none∧ef E k=none∧iq E k v=E++[(k,v)]∧QZ E k=E)∨
 ∃j v0,eY str (kf k) (qG kf vf E) i=some (some (i+j,vf v0))∧ef E k=some v0∧iq E k v=E.set j (k,v)∧QZ E k=E.eraseIdx j
 |[],i=> .inl ⟨rfl,rfl,rfl,rfl⟩
 |p::E,i=>by
  have e:eY str (kf k) (qG kf vf (p::E)) i=if k=p.1 then some (some (i,vf p.2)) else eY str (kf k) (qG kf vf E) (i+1):=by
   simp only[qG,List.map_cons,eY,nA,sF,hk.eq]
   by_cases h:k=p.1<;>simp[h]
  rw[e,ef,iq,QZ]
  by_cases h:k=p.1
  ·simp only[h,if_true]
   exact .inr ⟨0,p.2,by simp,rfl,by simp,by simp⟩
  ·simp only[h,if_false]
   rcases wM hk vf k v E (i+1) with⟨h1,h2,h3,h4⟩|⟨j,v0,h1,h2,h3,h4⟩
   ·exact .inl ⟨h1,h2,by rw[h3];rfl,by rw[h4]⟩
   ·exact .inr ⟨j+1,v0,by rw[h1];congr 3;omega,h2,by rw[h3];rfl,by rw[h4];rfl⟩
theorem CN {str:Bool} {kf:κ→Value} (hk:wq str kf) (vf:β→AV) (k:κ) (E:List (κ×β)) (z:AV):mB str (kf k) (qG kf vf E) z=some ((ef E k).elim z vf,(ef E k).isSome):=by
 unfold mB
 cases E with
 |nil=>rfl
 |cons p E=>
  rcases wM hk vf k p.2 (p::E) 0 with⟨h1,h2,_⟩|⟨j,v0,h1,h2,_⟩<;>rw[h1,h2]<;>rfl
theorem CO {str:Bool} {kf:κ→Value} (hk:wq str kf) (vf:β→AV) (k:κ) (v:β) (E:List (κ×β)):oq str (kf k) (qG kf vf E) (vf v)=some (qG kf vf (iq E k v)):=by
 unfold oq
 rcases wM hk vf k v E 0 with⟨h1,_,h3,_⟩|⟨j,v0,h1,_,h3,_⟩
 ·rw[h1,h3];simp[qG,nA]
 ·rw[h1,h3];simp only[qG,Nat.zero_add,List.map_set];rfl
theorem lz:∀(E:List (κ×β)) (k:κ) (v:β) (k':κ),ef (iq E k v) k'=if k'=k then some v else ef E k'
 |[],k,v,k'=>by simp[iq,ef]
 |p::E,k,v,k'=>by
  rw[iq]
  by_cases h:k=p.1
  ·rw[if_pos h]
   simp only[ef]
   by_cases h2:k'=k
   ·simp[h2]
   ·have h3:¬k'=p.1:=fun e=>h2 (by rw[e,h])
    simp[h2,h3]
  ·rw[if_neg h]
   simp only[ef]
   rw[lz E k v k']
   by_cases h2:k'=p.1
   ·have h3:¬k'=k:=fun e=>h (by rw[←e,h2])
    simp only[h2,if_true,h3,if_false]
    rw[if_neg (fun e=>h e.symm)]
   ·simp[h2]
theorem qB:∀(E:List (κ×β)) (k:κ),ef E k=none↔k∉E.map Prod.fst
 |[],k=>by simp[ef]
 |p::E,k=>by
  rw[ef]
  by_cases h:k=p.1
  ·simp[h]
  ·simp[h,qB E k]
end
end Go.cY
end
