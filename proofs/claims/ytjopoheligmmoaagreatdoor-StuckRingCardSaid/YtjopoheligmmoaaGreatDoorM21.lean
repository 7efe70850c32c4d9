import Derived.Test.YtjopoheligmmoaaGreatDoorM19
section
/- Rows that are written no more, told as what is held by value. -/
namespace Go.cY
open Go.RowKit
set_option linter.unusedSimpArgs false
set_option linter.unusedVariables false
def QU (f:AV→AV) (G:Hp):AV→AV
 | .sl b len=>match bt G b with
  |some (.row _ sz _ es)=>if es.length=len then .im sz .any (es.map f) else .sl b len
  |none=> .sl b len
 | .agg cs=> .agg (cs.map f)
 | .dQ cs=> .dQ (cs.map f)
 |a=>a
def tG (G:Hp):Nat→AV→AV
 |0,a=>a
 |k+1,a=>QU (tG G k) G a
theorem dJ.tK {c c2:Cx} (f:AV→AV) (h:∀a,dR c c2 a (f a)):∀l:List AV,dJ c c2 l (l.map f)
 |[]=> .nil
 |a::l=> .cons (h a) (dJ.tK f h l)
theorem dR.XI {w0:World} {c c2:Cx} (hS:dW w0 c) {b:Nat} {e:TypeId} {sz:Nat} {d:AV} {es es2:List AV} (d2:AV) (hw:c2.w=c.w) (hH:c.H b=some (.row e sz d es)) (hM:∀blk o z,c.ρ b=some (blk,o,z)→¬c2.M blk) (h:dJ c c2 es es2):dR c c2 (.sl b es.length) (.im sz d2 es2):=by
 have hl:=h.length
 intro v hv
 rw[VR] at hv
 obtain⟨_,a,cap,rfl,hr⟩:=hv
 obtain⟨_,hr⟩:=hr _ _ _ _ hH
 obtain⟨_,hz,hrow⟩:=hS.jP b _ _ _ _ hH (se (hr rfl))
 rw[VR]
 rcases hr rfl with⟨hρ,rfl,rfl⟩|⟨blk,o,z,hρ,rfl,hc1,_,_⟩
 ·rcases hrow with⟨_,rfl⟩|⟨_,_,_,hρ',_⟩
  ·have:es2=[]:=List.eq_nil_of_length_eq_zero (by simpa using hl.symm)
   subst this
   exact⟨none,0,rfl,by simp, .inl rfl⟩
  ·rw[hρ] at hρ';cases hρ'
 ·rcases hrow with⟨hρ',_⟩|⟨blk1,o1,z1,hρ1,_,_,_,hrow⟩
  ·rw[hρ] at hρ';cases hρ'
  ·rw[hρ] at hρ1;cases hρ1
   exact⟨_,cap,by rw[←hl],by rw[←hl];exact hc1, .inr ⟨blk,o,rfl,hz,hM _ _ _ hρ,h.row hw hrow⟩⟩
theorem dR.tG {w0:World} {c c2:Cx} {G:Hp} (hS:dW w0 c) (hw:c2.w=c.w) (hle:c.le c2) (hG:∀b q,bt G b=some q→c.H b=some q∧∀blk o z,c.ρ b=some (blk,o,z)→¬c2.M blk):∀(k:Nat) (a:AV),dR c c2 a (tG G k a):=by
 intro k
 induction k with
 |zero=>intro a;rw[Go.cY.tG];exact dR.cQ hle a
 |succ k ih=>
  intro a
  cases a<;>rw[Go.cY.tG]<;>simp only[QU]<;>try exact dR.cQ hle _
  case sl b len=>
   cases hb:bt G b with
   |none=>simp only;exact dR.cQ hle _
   |some q=>
    obtain⟨e,sz,d,es⟩:=q
    simp only
    split
    ·rename_i hl
     obtain⟨g1,g2⟩:=hG b _ hb
     rw[←hl]
     exact dR.XI hS .any hw g1 g2 (dJ.tK _ ih es)
    ·exact dR.cQ hle _
  case agg cs=>exact dR.agg (dJ.tK _ ih cs)
  case dQ cs=>exact dR.dQ (dJ.tK _ ih cs)
def lF (G H:Hp):Hp:=G.map (fun p=>(p.1,none))++H
theorem HZ (H:Hp):lF [] H=H:=rfl
theorem nY (b:Nat) (q:Option eR) (G H:Hp):lF ((b,q)::G) H=(b,none)::lF G H:=rfl
theorem fG {H:Hp} {b:Nat}:∀{G:Hp},b∈G.map (·.1)→bt (lF G H) b=none
 |(x,q)::G,h=>by
  rw[nY]
  by_cases hb:b=x
  ·subst hb;exact cp _ _ _
  ·rw[cW hb]
   exact fG (by simpa[hb] using h)
theorem fQ {H:Hp} {b:Nat}:∀{G:Hp},b∉G.map (·.1)→bt (lF G H) b=bt H b
 |[],_=>rfl
 |(x,q)::G,h=>by
  simp only[List.map_cons,List.mem_cons,not_or] at h
  rw[nY,cW h.1,fQ h.2]
theorem mU {b:Nat} {q:eR}:∀{G:Hp},bt G b=some q→b∈G.map (·.1)
 |(x,p)::G,h=>by
  by_cases hb:b=x
  ·simp[hb]
  ·rw[cW hb] at h
   simp only[List.map_cons,List.mem_cons]
   exact .inr (mU h)
theorem Wk.XE {r:AV} {H:Hp} {nx:Nat} (G:Hp) (k:Nat) (hG:∀b q,bt G b=some q→bt H b=some q):Wk r H nx (tG G k r) (lF G H) nx:=by
 refine Wk.tell (Nat.le_refl _) (fun b e sz d es he=> ?_) (fun w0 c c2 hS hU hc hc2 hw hle hnew hM=>⟨?_,fun b e sz d es d0 es0 h1 h2=> ?_⟩)
 ·by_cases hb:b∈G.map (·.1)
  ·rw[fG hb] at he;cases he
  ·rw[fQ hb] at he
   exact .inl ⟨d,es,he,rfl⟩
 ·refine dR.tG hS hw hle (fun b q hq=> ?_) k r
  have h1:=hG b q hq
  exact⟨by rw[hc];exact h1,fun blk o z hρ=>hM b q blk o z h1 (fG (mU hq)) hρ⟩
 ·by_cases hb:b∈G.map (·.1)
  ·rw[fG hb] at h1;cases h1
  ·rw[fQ hb] at h1
   rw[h1] at h2;cases h2
   exact dJ.cQ hle _
theorem Wk.tG {H:Hp} {nx cb:Nat} {e:TypeId} {sz:Nat} {d:AV} {es:List AV} (G:Hp) (k:Nat) (d2:AV) (hcb:bt H cb=some (.row e sz d es)) (hG:∀b q,bt G b=some q→bt H b=some q):Wk .any H nx .any (lF G ((cb,some (.row e sz d2 (es.map (tG G k))))::H)) nx:=by
 refine Wk.tell (Nat.le_refl _) (fun b e' sz' d' es' he=> ?_) (fun w0 c c2 hS hU hc hc2 hw hle hnew hM=>⟨dR.any _ _ _,fun b e' sz' d' es' d0 es0 h1 h2=> ?_⟩)
 ·by_cases hb:b∈G.map (·.1)
  ·rw[fG hb] at he;cases he
  ·rw[fQ hb] at he
   by_cases hbc:b=cb
   ·subst hbc
    rw[cp] at he
    cases he
    exact .inl ⟨d,es,hcb,by simp⟩
   ·rw[cW hbc] at he
    exact .inl ⟨d',es',he,rfl⟩
 ·by_cases hb:b∈G.map (·.1)
  ·rw[fG hb] at h1;cases h1
  ·rw[fQ hb] at h1
   by_cases hbc:b=cb
   ·subst hbc
    rw[cp] at h1
    rw[hcb] at h2
    cases h1;cases h2
    exact dJ.tK _ (dR.tG hS hw hle (fun b q hq=>by
     have h1:=hG b q hq
     exact⟨by rw[hc];exact h1,fun blk o z hρ=>hM b q blk o z h1 (fG (mU hq)) hρ⟩) k) _
   ·rw[cW hbc] at h1
    rw[h1] at h2;cases h2
    exact dJ.cQ hle _
theorem MU {G:Hp} {k b len:Nat} {e:TypeId} {sz:Nat} {d:AV} {es:List AV} (h:bt G b=some (.row e sz d es)) (hl:es.length=len):tG G (k+1) (.sl b len)= .im sz .any (es.map (tG G k)):=by
 rw[tG,QU,h];simp only;rw[if_pos hl]
theorem sG (G:Hp) (l:List AV):l.map (Go.cY.tG G 0)=l:=by
 have e:tG G 0=id:=by funext a;rfl
 rw[e,List.map_id]
structure w6 (str:Bool) {κ:Type} [DecidableEq κ] (kf:κ→Value):Prop where
 eq:∀a b,BT str (kf a) (kf b)=some (decide (a=b))
theorem MX:w6 false (fun n:Int=>Value.int .i64 n):=⟨fun a b=>by simp[BT]⟩
theorem vo:w6 true (fun s:ByteArray=>Value.string s):=⟨fun a b=>by
 simp only[BT,Option.some.injEq]
 obtain⟨a⟩:=a
 obtain⟨b⟩:=b
 show(a==b)=_
 rw[Bool.eq_iff_iff]
 simp⟩
section
variable {κ β:Type} [DecidableEq κ]
def px (kf:κ→Value) (vf:β→AV) (E:List (κ×β)):List AV:=E.map fun p=>mn (kf p.1) (vf p.2)
def ed:List (κ×β)→κ→Option β
 |[],_=>none
 |p::E,k=>if k=p.1 then some p.2 else ed E k
def iY:List (κ×β)→κ→β→List (κ×β)
 |[],k,v=>[(k,v)]
 |p::E,k,v=>if k=p.1 then(k,v)::E else p::iY E k v
def QE:List (κ×β)→κ→List (κ×β)
 |[],_=>[]
 |p::E,k=>if k=p.1 then E else p::QE E k
theorem vy {str:Bool} {kf:κ→Value} (hk:w6 str kf) (vf:β→AV) (k:κ) (v:β):∀(E:List (κ×β)) (i:Nat),
 (eX str (kf k) (px kf vf E) i=some none∧ed E k=none∧iY E k v=E++[(k,v)]∧QE E k=E)∨
 ∃j v0,eX str (kf k) (px kf vf E) i=some (some (i+j,vf v0))∧ed E k=some v0∧iY E k v=E.set j (k,v)∧QE E k=E.eraseIdx j
 |[],i=> .inl ⟨rfl,rfl,rfl,rfl⟩
 |p::E,i=>by
  have e:eX str (kf k) (px kf vf (p::E)) i=if k=p.1 then some (some (i,vf p.2)) else eX str (kf k) (px kf vf E) (i+1):=by
   simp only[px,List.map_cons,eX,mn,rj,hk.eq]
   by_cases h:k=p.1<;>simp[h]
  rw[e,ed,iY,QE]
  by_cases h:k=p.1
  ·simp only[h,if_true]
   exact .inr ⟨0,p.2,by simp,rfl,by simp,by simp⟩
  ·simp only[h,if_false]
   rcases vy hk vf k v E (i+1) with⟨h1,h2,h3,h4⟩|⟨j,v0,h1,h2,h3,h4⟩
   ·exact .inl ⟨h1,h2,by rw[h3];rfl,by rw[h4]⟩
   ·exact .inr ⟨j+1,v0,by rw[h1];congr 3;omega,h2,by rw[h3];rfl,by rw[h4];rfl⟩
theorem B6 {str:Bool} {kf:κ→Value} (hk:w6 str kf) (vf:β→AV) (k:κ) (E:List (κ×β)) (z:AV):lj str (kf k) (px kf vf E) z=some ((ed E k).elim z vf,(ed E k).isSome):=by
 unfold lj
 cases E with
 |nil=>rfl
 |cons p E=>
  rcases vy hk vf k p.2 (p::E) 0 with⟨h1,h2,_⟩|⟨j,v0,h1,h2,_⟩<;>rw[h1,h2]<;>rfl
theorem B7 {str:Bool} {kf:κ→Value} (hk:w6 str kf) (vf:β→AV) (k:κ) (v:β) (E:List (κ×β)):og str (kf k) (px kf vf E) (vf v)=some (px kf vf (iY E k v)):=by
 unfold og
 rcases vy hk vf k v E 0 with⟨h1,_,h3,_⟩|⟨j,v0,h1,_,h3,_⟩
 ·rw[h1,h3];simp[px,mn]
 ·rw[h1,h3];simp only[px,Nat.zero_add,List.map_set];rfl
theorem lg:∀(E:List (κ×β)) (k:κ) (v:β) (k':κ),ed (iY E k v) k'=if k'=k then some v else ed E k'
 |[],k,v,k'=>by simp[iY,ed]
 |p::E,k,v,k'=>by
  rw[iY]
  by_cases h:k=p.1
  ·rw[if_pos h]
   simp only[ed]
   by_cases h2:k'=k
   ·simp[h2]
   ·have h3:¬k'=p.1:=fun e=>h2 (by rw[e,h])
    simp[h2,h3]
  ·rw[if_neg h]
   simp only[ed]
   rw[lg E k v k']
   by_cases h2:k'=p.1
   ·have h3:¬k'=k:=fun e=>h (by rw[←e,h2])
    simp only[h2,if_true,h3,if_false]
    rw[if_neg (fun e=>h e.symm)]
   ·simp[h2]
theorem pj:∀(E:List (κ×β)) (k:κ),ed E k=none↔k∉E.map Prod.fst
 |[],k=>by simp[ed]
 |p::E,k=>by
  rw[ed]
  by_cases h:k=p.1
  ·simp[h]
  ·simp[h,pj E k]
end
end Go.cY
end
