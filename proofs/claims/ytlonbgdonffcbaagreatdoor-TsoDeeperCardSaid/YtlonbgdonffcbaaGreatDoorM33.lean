import Derived.Test.YtlonbgdonffcbaaGreatDoorM18
section
/- Rows that are written no more, told as what is held by value. -/
namespace Go.cU
open Go.RowKit
set_option linter.unusedSimpArgs false
set_option linter.unusedVariables false
def L0 (f:AV→AV) (G:Hp):AV→AV
 | .sl b len=>match bf G b with
  |some (.row _ sz _ es)=>if es.length=len then .im sz .any (es.map f) else .sl b len
  |none=> .sl b len
 | .agg cs=> .agg (cs.map f)
 | .dE cs=> .dE (cs.map f)
 |a=>a
def rE (G:Hp):Nat→AV→AV
 |0,a=>a
 |k+1,a=>L0 (rE G k) G a
theorem dB.rG {c c2:Cx} (f:AV→AV) (h:∀a,c9 c c2 a (f a)):∀l:List AV,dB c c2 l (l.map f)
 |[]=> .nil
 |a::l=> .cons (h a) (dB.rG f h l)
theorem c9.N1 {w0:World} {c c2:Cx} (hS:cw w0 c) {b:Nat} {e:TypeId} {sz:Nat} {d:AV} {es es2:List AV} (d2:AV) (hw:c2.w=c.w) (hH:c.H b=some (.row e sz d es)) (hM:∀blk o z,c.ρ b=some (blk,o,z)→¬c2.M blk) (h:dB c c2 es es2):c9 c c2 (.sl b es.length) (.im sz d2 es2):=by
 have hl:=h.length
 intro v hv
 rw[VR] at hv
 obtain⟨_,a,cap,rfl,hr⟩:=hv
 obtain⟨_,hr⟩:=hr _ _ _ _ hH
 obtain⟨_,hz,hrow⟩:=hS.jd b _ _ _ _ hH (rL (hr rfl))
 rw[VR]
 rcases hr rfl with⟨hρ,rfl,rfl⟩|⟨blk,o,z,hρ,rfl,hc1,_,_⟩
 ·rcases hrow with⟨_,rfl⟩|⟨_,_,_,hρ',_⟩
  ·have:es2=[]:=List.eq_nil_of_length_eq_zero (by simpa using hl.symm)
   subst this
   exact⟨none,0,rfl,by simp, .inl rfl⟩
  ·rw[hρ] at hρ';cases hρ'
 ·rcases hrow with⟨hρ',_⟩|⟨blk1,o1,z1,hρ1,_,_,_,hrow⟩
  ·rw[hρ] at hρ';cases hρ'
  ·rw[hρ] at hρ1;cases hρ1
   exact⟨_,cap,by rw[←hl],by rw[←hl];exact hc1, .inr ⟨blk,o,rfl,hz,hM _ _ _ hρ,h.row hw hrow⟩⟩
theorem c9.rE {w0:World} {c c2:Cx} {G:Hp} (hS:cw w0 c) (hw:c2.w=c.w) (hle:c.le c2) (hG:∀b q,bf G b=some q→c.H b=some q∧∀blk o z,c.ρ b=some (blk,o,z)→¬c2.M blk):∀(k:Nat) (a:AV),c9 c c2 a (rE G k a):=by
 intro k
 induction k with
 |zero=>intro a;rw[Go.cU.rE];exact c9.cL hle a
 |succ k ih=>
  intro a
  cases a<;>rw[Go.cU.rE]<;>simp only[L0]<;>try exact c9.cL hle _
  case sl b len=>
   cases hb:bf G b with
   |none=>simp only;exact c9.cL hle _
   |some q=>
    obtain⟨e,sz,d,es⟩:=q
    simp only
    split
    ·rename_i hl
     obtain⟨g1,g2⟩:=hG b _ hb
     rw[←hl]
     exact c9.N1 hS .any hw g1 g2 (dB.rG _ ih es)
    ·exact c9.cL hle _
  case agg cs=>exact c9.agg (dB.rG _ ih cs)
  case dE cs=>exact c9.dE (dB.rG _ ih cs)
def oP (G H:Hp):Hp:=G.map (fun p=>(p.1,none))++H
theorem qF (b:Nat) (q:Option dx) (G H:Hp):oP ((b,q)::G) H=(b,none)::oP G H:=rfl
theorem iS {H:Hp} {b:Nat}:∀{G:Hp},b∈G.map (·.1)→bf (oP G H) b=none
 |(x,q)::G,h=>by
  rw[qF]
  by_cases hb:b=x
  ·subst hb;exact cK _ _ _
  ·rw[bh hb]
   exact iS (by simpa[hb] using h)
theorem iK {H:Hp} {b:Nat}:∀{G:Hp},b∉G.map (·.1)→bf (oP G H) b=bf H b
 |[],_=>rfl
 |(x,q)::G,h=>by
  simp only[List.map_cons,List.mem_cons,not_or] at h
  rw[qF,bh h.1,iK h.2]
theorem pB {b:Nat} {q:dx}:∀{G:Hp},bf G b=some q→b∈G.map (·.1)
 |(x,p)::G,h=>by
  by_cases hb:b=x
  ·simp[hb]
  ·rw[bh hb] at h
   simp only[List.map_cons,List.mem_cons]
   exact .inr (pB h)
theorem Wk.rE {H:Hp} {nx cb:Nat} {e:TypeId} {sz:Nat} {d:AV} {es:List AV} (G:Hp) (k:Nat) (d2:AV) (hcb:bf H cb=some (.row e sz d es)) (hG:∀b q,bf G b=some q→bf H b=some q):Wk .any H nx .any (oP G ((cb,some (.row e sz d2 (es.map (rE G k))))::H)) nx:=by
 refine Wk.tell (Nat.le_refl _) (fun b e' sz' d' es' he=> ?_) (fun w0 c c2 hS hU hc hc2 hw hle hnew hM=>⟨c9.any _ _ _,fun b e' sz' d' es' d0 es0 h1 h2=> ?_⟩)
 ·by_cases hb:b∈G.map (·.1)
  ·rw[iS hb] at he;cases he
  ·rw[iK hb] at he
   by_cases hbc:b=cb
   ·subst hbc
    rw[cK] at he
    cases he
    exact .inl ⟨d,es,hcb,by simp⟩
   ·rw[bh hbc] at he
    exact .inl ⟨d',es',he,rfl⟩
 ·by_cases hb:b∈G.map (·.1)
  ·rw[iS hb] at h1;cases h1
  ·rw[iK hb] at h1
   by_cases hbc:b=cb
   ·subst hbc
    rw[cK] at h1
    rw[hcb] at h2
    cases h1;cases h2
    exact dB.rG _ (c9.rE hS hw hle (fun b q hq=>by
     have h1:=hG b q hq
     exact⟨by rw[hc];exact h1,fun blk o z hρ=>hM b q blk o z h1 (iS (pB hq)) hρ⟩) k) _
   ·rw[bh hbc] at h1
    rw[h1] at h2;cases h2
    exact dB.cL hle _
theorem L1 (G:Hp) (k:Nat) (sz:Nat) (d:AV) (es:List AV):rE G k (.im sz d es)= .im sz d es:=by cases k<;>rfl
theorem L4 {G:Hp} {k b len:Nat} {e:TypeId} {sz:Nat} {d:AV} {es:List AV} (h:bf G b=some (.row e sz d es)) (hl:es.length=len):rE G (k+1) (.sl b len)= .im sz .any (es.map (rE G k)):=by
 rw[rE,L0,h];simp only;rw[if_pos hl]
theorem D8 (G:Hp) (l:List AV):l.map (Go.cU.rE G 0)=l:=by
 have e:rE G 0=id:=by funext a;rfl
 rw[e,List.map_id]
theorem Wk.LZ {H:Hp} {nx cb b:Nat} {e e2:TypeId} {sz sz2:Nat} {d d3:AV} {es l es2:List AV} (d2:AV) (h1:bf H cb=some (.row e sz d es)) (h2:bf H b=some (.row e2 sz2 d3 l)) (hes:es.map (Go.cU.rE [(b,some (.row e2 sz2 d3 l))] 1)=es2):Wk .any H nx .any ((b,none)::(cb,some (.row e sz d2 es2))::H) nx:=by
 have h:=Wk.rE (nx:=nx) [(b,some (.row e2 sz2 d3 l))] 1 d2 h1 (fun x q hx=>by
  by_cases hb:x=b
  ·subst hb;rw[cK] at hx;rw[←hx];exact h2
  ·rw[bh hb] at hx;cases hx)
 rw[hes] at h
 exact h
theorem qH {b len:Nat} {e2:TypeId} {sz2:Nat} {d3:AV} {es l:List AV} (hes:∀a∈es,Go.cU.rE [(b,some (.row e2 sz2 d3 l))] 1 a=a) (hl:l.length=len):(es++[AV.sl b len]).map (Go.cU.rE [(b,some (.row e2 sz2 d3 l))] 1)=es++[.im sz2 .any l]:=by
 rw[List.map_append,List.map_cons,List.map_nil,L4 (cK _ _ _) hl,D8]
 congr 1
 exact(List.map_congr_left hes).trans (by simp)
structure yL (str:Bool) {κ:Type} [DecidableEq κ] (kf:κ→Value):Prop where
 eq:∀a b,L6 str (kf a) (kf b)=some (decide (a=b))
theorem EA:yL true (fun s:ByteArray=>Value.string s):=⟨fun a b=>by
 simp only[L6,Option.some.injEq]
 obtain⟨a⟩:=a
 obtain⟨b⟩:=b
 show(a==b)=_
 rw[Bool.eq_iff_iff]
 simp⟩
section
variable {κ β:Type} [DecidableEq κ]
def qY (kf:κ→Value) (vf:β→AV) (E:List (κ×β)):List AV:=E.map fun p=>wX (kf p.1) (vf p.2)
def iW:List (κ×β)→κ→Option β
 |[],_=>none
 |p::E,k=>if k=p.1 then some p.2 else iW E k
def vz:List (κ×β)→κ→β→List (κ×β)
 |[],k,v=>[(k,v)]
 |p::E,k,v=>if k=p.1 then(k,v)::E else p::vz E k v
def IH:List (κ×β)→κ→List (κ×β)
 |[],_=>[]
 |p::E,k=>if k=p.1 then E else p::IH E k
theorem tP {str:Bool} {kf:κ→Value} (hk:yL str kf) (vf:β→AV) (k:κ) (v:β):∀(E:List (κ×β)) (i:Nat),
 (gF str (kf k) (qY kf vf E) i=some none∧iW E k=none∧vz E k v=E++[(k,v)]∧IH E k=E)∨
 ∃j v0,gF str (kf k) (qY kf vf E) i=some (some (i+j,vf v0))∧iW E k=some v0∧vz E k v=E.set j (k,v)∧IH E k=E.eraseIdx j
 |[],i=> .inl ⟨rfl,rfl,rfl,rfl⟩
 |p::E,i=>by
  have e:gF str (kf k) (qY kf vf (p::E)) i=if k=p.1 then some (some (i,vf p.2)) else gF str (kf k) (qY kf vf E) (i+1):=by
   simp only[qY,List.map_cons,gF,wX,IK,hk.eq]
   by_cases h:k=p.1<;>simp[h]
  rw[e,iW,vz,IH]
  by_cases h:k=p.1
  ·simp only[h,if_true]
   exact .inr ⟨0,p.2,by simp,rfl,by simp,by simp⟩
  ·simp only[h,if_false]
   rcases tP hk vf k v E (i+1) with⟨h1,h2,h3,h4⟩|⟨j,v0,h1,h2,h3,h4⟩
   ·exact .inl ⟨h1,h2,by rw[h3];rfl,by rw[h4]⟩
   ·exact .inr ⟨j+1,v0,by rw[h1];congr 3;omega,h2,by rw[h3];rfl,by rw[h4];rfl⟩
theorem L9 {str:Bool} {kf:κ→Value} (hk:yL str kf) (vf:β→AV) (k:κ) (E:List (κ×β)) (z:AV):xV str (kf k) (qY kf vf E) z=some ((iW E k).elim z vf,(iW E k).isSome):=by
 unfold xV
 cases E with
 |nil=>rfl
 |cons p E=>
  rcases tP hk vf k p.2 (p::E) 0 with⟨h1,h2,_⟩|⟨j,v0,h1,h2,_⟩<;>rw[h1,h2]<;>rfl
theorem MC {str:Bool} {kf:κ→Value} (hk:yL str kf) (vf:β→AV) (k:κ) (v:β) (E:List (κ×β)):A4 str (kf k) (qY kf vf E) (vf v)=some (qY kf vf (vz E k v)):=by
 unfold A4
 rcases tP hk vf k v E 0 with⟨h1,_,h3,_⟩|⟨j,v0,h1,_,h3,_⟩
 ·rw[h1,h3];simp[qY,wX]
 ·rw[h1,h3];simp only[qY,Nat.zero_add,List.map_set];rfl
theorem nj:∀(E:List (κ×β)) (k:κ),iW E k=none↔k∉E.map Prod.fst
 |[],k=>by simp[iW]
 |p::E,k=>by
  rw[iW]
  by_cases h:k=p.1
  ·simp[h]
  ·simp[h,nj E k]
end
end Go.cU
end
