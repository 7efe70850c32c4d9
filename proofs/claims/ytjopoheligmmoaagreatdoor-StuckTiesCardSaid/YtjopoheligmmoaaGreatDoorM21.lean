import Derived.Test.YtjopoheligmmoaaGreatDoorM19
section
/- Rows that are written no more, told as what is held by value. -/
namespace Go.cY
open Go.RowKit
set_option linter.unusedSimpArgs false
set_option linter.unusedVariables false
def RF (f:AV→AV) (G:Hp):AV→AV
 | .sl b len=>match bt G b with
  |some (.row _ sz _ es)=>if es.length=len then .im sz .any (es.map f) else .sl b len
  |none=> .sl b len
 | .agg cs=> .agg (cs.map f)
 | .dP cs=> .dP (cs.map f)
 |a=>a
def tT (G:Hp):Nat→AV→AV
 |0,a=>a
 |k+1,a=>RF (tT G k) G a
theorem dK.tX {c c2:Cx} (f:AV→AV) (h:∀a,dO c c2 a (f a)):∀l:List AV,dK c c2 l (l.map f)
 |[]=> .nil
 |a::l=> .cons (h a) (dK.tX f h l)
theorem dO.X2 {w0:World} {c c2:Cx} (hS:dY w0 c) {b:Nat} {e:TypeId} {sz:Nat} {d:AV} {es es2:List AV} (d2:AV) (hw:c2.w=c.w) (hH:c.H b=some (.row e sz d es)) (hM:∀blk o z,c.ρ b=some (blk,o,z)→¬c2.M blk) (h:dK c c2 es es2):dO c c2 (.sl b es.length) (.im sz d2 es2):=by
 have hl:=h.length
 intro v hv
 rw[VR] at hv
 obtain⟨_,a,cap,rfl,hr⟩:=hv
 obtain⟨_,hr⟩:=hr _ _ _ _ hH
 obtain⟨_,hz,hrow⟩:=hS.jU b _ _ _ _ hH (sx (hr rfl))
 rw[VR]
 rcases hr rfl with⟨hρ,rfl,rfl⟩|⟨blk,o,z,hρ,rfl,hc1,_,_⟩
 ·rcases hrow with⟨_,rfl⟩|⟨_,_,_,hρ',_⟩
  ·have:es2=[]:=List.eq_nil_of_length_eq_zero (by simpa using hl.symm)
   subst this
   exact⟨none,0,rfl,by simp, .inl rfl⟩
  ·rw[hρ] at hρ';cases hρ'
 ·rcases hrow with⟨hρ',_⟩|⟨blk1,o1,z1,hρ1,_,_,_,hrow⟩
  ·rw[hρ] at hρ';cases hρ'
  ·rw[hρ] at hρ1;cases hρ1
   exact⟨_,cap,by rw[←hl],by rw[←hl];exact hc1, .inr ⟨blk,o,rfl,hz,hM _ _ _ hρ,h.row hw hrow⟩⟩
theorem dO.tT {w0:World} {c c2:Cx} {G:Hp} (hS:dY w0 c) (hw:c2.w=c.w) (hle:c.le c2) (hG:∀b q,bt G b=some q→c.H b=some q∧∀blk o z,c.ρ b=some (blk,o,z)→¬c2.M blk):∀(k:Nat) (a:AV),dO c c2 a (tT G k a):=by
 intro k
 induction k with
 |zero=>intro a;rw[Go.cY.tT];exact dO.cQ hle a
 |succ k ih=>
  intro a
  cases a<;>rw[Go.cY.tT]<;>simp only[RF]<;>try exact dO.cQ hle _
  case sl b len=>
   cases hb:bt G b with
   |none=>simp only;exact dO.cQ hle _
   |some q=>
    obtain⟨e,sz,d,es⟩:=q
    simp only
    split
    ·rename_i hl
     obtain⟨g1,g2⟩:=hG b _ hb
     rw[←hl]
     exact dO.X2 hS .any hw g1 g2 (dK.tX _ ih es)
    ·exact dO.cQ hle _
  case agg cs=>exact dO.agg (dK.tX _ ih cs)
  case dP cs=>exact dO.dP (dK.tX _ ih cs)
def lP (G H:Hp):Hp:=G.map (fun p=>(p.1,none))++H
theorem IL (H:Hp):lP [] H=H:=rfl
theorem ni (b:Nat) (q:Option eT) (G H:Hp):lP ((b,q)::G) H=(b,none)::lP G H:=rfl
theorem fK {H:Hp} {b:Nat}:∀{G:Hp},b∈G.map (·.1)→bt (lP G H) b=none
 |(x,q)::G,h=>by
  rw[ni]
  by_cases hb:b=x
  ·subst hb;exact cp _ _ _
  ·rw[cX hb]
   exact fK (by simpa[hb] using h)
theorem fU {H:Hp} {b:Nat}:∀{G:Hp},b∉G.map (·.1)→bt (lP G H) b=bt H b
 |[],_=>rfl
 |(x,q)::G,h=>by
  simp only[List.map_cons,List.mem_cons,not_or] at h
  rw[ni,cX h.1,fU h.2]
theorem mg {b:Nat} {q:eT}:∀{G:Hp},bt G b=some q→b∈G.map (·.1)
 |(x,p)::G,h=>by
  by_cases hb:b=x
  ·simp[hb]
  ·rw[cX hb] at h
   simp only[List.map_cons,List.mem_cons]
   exact .inr (mg h)
theorem Wk.XY {r:AV} {H:Hp} {nx:Nat} (G:Hp) (k:Nat) (hG:∀b q,bt G b=some q→bt H b=some q):Wk r H nx (tT G k r) (lP G H) nx:=by
 refine Wk.tell (Nat.le_refl _) (fun b e sz d es he=> ?_) (fun w0 c c2 hS hU hc hc2 hw hle hnew hM=>⟨?_,fun b e sz d es d0 es0 h1 h2=> ?_⟩)
 ·by_cases hb:b∈G.map (·.1)
  ·rw[fK hb] at he;cases he
  ·rw[fU hb] at he
   exact .inl ⟨d,es,he,rfl⟩
 ·refine dO.tT hS hw hle (fun b q hq=> ?_) k r
  have h1:=hG b q hq
  exact⟨by rw[hc];exact h1,fun blk o z hρ=>hM b q blk o z h1 (fK (mg hq)) hρ⟩
 ·by_cases hb:b∈G.map (·.1)
  ·rw[fK hb] at h1;cases h1
  ·rw[fU hb] at h1
   rw[h1] at h2;cases h2
   exact dK.cQ hle _
theorem Wk.tT {H:Hp} {nx cb:Nat} {e:TypeId} {sz:Nat} {d:AV} {es:List AV} (G:Hp) (k:Nat) (d2:AV) (hcb:bt H cb=some (.row e sz d es)) (hG:∀b q,bt G b=some q→bt H b=some q):Wk .any H nx .any (lP G ((cb,some (.row e sz d2 (es.map (tT G k))))::H)) nx:=by
 refine Wk.tell (Nat.le_refl _) (fun b e' sz' d' es' he=> ?_) (fun w0 c c2 hS hU hc hc2 hw hle hnew hM=>⟨dO.any _ _ _,fun b e' sz' d' es' d0 es0 h1 h2=> ?_⟩)
 ·by_cases hb:b∈G.map (·.1)
  ·rw[fK hb] at he;cases he
  ·rw[fU hb] at he
   by_cases hbc:b=cb
   ·subst hbc
    rw[cp] at he
    cases he
    exact .inl ⟨d,es,hcb,by simp⟩
   ·rw[cX hbc] at he
    exact .inl ⟨d',es',he,rfl⟩
 ·by_cases hb:b∈G.map (·.1)
  ·rw[fK hb] at h1;cases h1
  ·rw[fU hb] at h1
   by_cases hbc:b=cb
   ·subst hbc
    rw[cp] at h1
    rw[hcb] at h2
    cases h1;cases h2
    exact dK.tX _ (dO.tT hS hw hle (fun b q hq=>by
     have h1:=hG b q hq
     exact⟨by rw[hc];exact h1,fun blk o z hρ=>hM b q blk o z h1 (fK (mg hq)) hρ⟩) k) _
   ·rw[cX hbc] at h1
    rw[h1] at h2;cases h2
    exact dK.cQ hle _
theorem NI {G:Hp} {k b len:Nat} {e:TypeId} {sz:Nat} {d:AV} {es:List AV} (h:bt G b=some (.row e sz d es)) (hl:es.length=len):tT G (k+1) (.sl b len)= .im sz .any (es.map (tT G k)):=by
 rw[tT,RF,h];simp only;rw[if_pos hl]
theorem sQ (G:Hp) (l:List AV):l.map (Go.cY.tT G 0)=l:=by
 have e:tT G 0=id:=by funext a;rfl
 rw[e,List.map_id]
structure wq (str:Bool) {κ:Type} [DecidableEq κ] (kf:κ→Value):Prop where
 eq:∀a b,B7 str (kf a) (kf b)=some (decide (a=b))
theorem NL:wq false (fun n:Int=>Value.int .i64 n):=⟨fun a b=>by simp[B7]⟩
theorem wC:wq true (fun s:ByteArray=>Value.string s):=⟨fun a b=>by
 simp only[B7,Option.some.injEq]
 obtain⟨a⟩:=a
 obtain⟨b⟩:=b
 show(a==b)=_
 rw[Bool.eq_iff_iff]
 simp⟩
section
variable {κ β:Type} [DecidableEq κ]
def qG (kf:κ→Value) (vf:β→AV) (E:List (κ×β)):List AV:=E.map fun p=>nD (kf p.1) (vf p.2)
def ej:List (κ×β)→κ→Option β
 |[],_=>none
 |p::E,k=>if k=p.1 then some p.2 else ej E k
def ij:List (κ×β)→κ→β→List (κ×β)
 |[],k,v=>[(k,v)]
 |p::E,k,v=>if k=p.1 then(k,v)::E else p::ij E k v
def Q0:List (κ×β)→κ→List (κ×β)
 |[],_=>[]
 |p::E,k=>if k=p.1 then E else p::Q0 E k
theorem wK {str:Bool} {kf:κ→Value} (hk:wq str kf) (vf:β→AV) (k:κ) (v:β):∀(E:List (κ×β)) (i:Nat),
 (eZ str (kf k) (qG kf vf E) i=some none∧ej E k=none∧ij E k v=E++[(k,v)]∧Q0 E k=E)∨
 ∃j v0,eZ str (kf k) (qG kf vf E) i=some (some (i+j,vf v0))∧ej E k=some v0∧ij E k v=E.set j (k,v)∧Q0 E k=E.eraseIdx j
 |[],i=> .inl ⟨rfl,rfl,rfl,rfl⟩
 |p::E,i=>by
  have e:eZ str (kf k) (qG kf vf (p::E)) i=if k=p.1 then some (some (i,vf p.2)) else eZ str (kf k) (qG kf vf E) (i+1):=by
   simp only[qG,List.map_cons,eZ,nD,sD,hk.eq]
   by_cases h:k=p.1<;>simp[h]
  rw[e,ej,ij,Q0]
  by_cases h:k=p.1
  ·simp only[h,if_true]
   exact .inr ⟨0,p.2,by simp,rfl,by simp,by simp⟩
  ·simp only[h,if_false]
   rcases wK hk vf k v E (i+1) with⟨h1,h2,h3,h4⟩|⟨j,v0,h1,h2,h3,h4⟩
   ·exact .inl ⟨h1,h2,by rw[h3];rfl,by rw[h4]⟩
   ·exact .inr ⟨j+1,v0,by rw[h1];congr 3;omega,h2,by rw[h3];rfl,by rw[h4];rfl⟩
theorem CM {str:Bool} {kf:κ→Value} (hk:wq str kf) (vf:β→AV) (k:κ) (E:List (κ×β)) (z:AV):mD str (kf k) (qG kf vf E) z=some ((ej E k).elim z vf,(ej E k).isSome):=by
 unfold mD
 cases E with
 |nil=>rfl
 |cons p E=>
  rcases wK hk vf k p.2 (p::E) 0 with⟨h1,h2,_⟩|⟨j,v0,h1,h2,_⟩<;>rw[h1,h2]<;>rfl
theorem CN {str:Bool} {kf:κ→Value} (hk:wq str kf) (vf:β→AV) (k:κ) (v:β) (E:List (κ×β)):oy str (kf k) (qG kf vf E) (vf v)=some (qG kf vf (ij E k v)):=by
 unfold oy
 rcases wK hk vf k v E 0 with⟨h1,_,h3,_⟩|⟨j,v0,h1,_,h3,_⟩
 ·rw[h1,h3];simp[qG,nD]
 ·rw[h1,h3];simp only[qG,Nat.zero_add,List.map_set];rfl
theorem mB:∀(E:List (κ×β)) (k:κ) (v:β) (k':κ),ej (ij E k v) k'=if k'=k then some v else ej E k'
 |[],k,v,k'=>by simp[ij,ej]
 |p::E,k,v,k'=>by
  rw[ij]
  by_cases h:k=p.1
  ·rw[if_pos h]
   simp only[ej]
   by_cases h2:k'=k
   ·simp[h2]
   ·have h3:¬k'=p.1:=fun e=>h2 (by rw[e,h])
    simp[h2,h3]
  ·rw[if_neg h]
   simp only[ej]
   rw[mB E k v k']
   by_cases h2:k'=p.1
   ·have h3:¬k'=k:=fun e=>h (by rw[←e,h2])
    simp only[h2,if_true,h3,if_false]
    rw[if_neg (fun e=>h e.symm)]
   ·simp[h2]
theorem qB:∀(E:List (κ×β)) (k:κ),ej E k=none↔k∉E.map Prod.fst
 |[],k=>by simp[ej]
 |p::E,k=>by
  rw[ej]
  by_cases h:k=p.1
  ·simp[h]
  ·simp[h,qB E k]
end
end Go.cY
end
