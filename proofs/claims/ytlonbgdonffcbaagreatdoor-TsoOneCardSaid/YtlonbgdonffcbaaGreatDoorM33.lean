import Derived.Test.YtlonbgdonffcbaaGreatDoorM18
section
/- Rows that are written no more, told as what is held by value. -/
namespace Go.cW
open Go.RowKit
set_option linter.unusedSimpArgs false
set_option linter.unusedVariables false
def MB (f:AV→AV) (G:Hp):AV→AV
 | .sl b len=>match bf G b with
  |some (.row _ sz _ es)=>if es.length=len then .im sz .any (es.map f) else .sl b len
  |none=> .sl b len
 | .agg cs=> .agg (cs.map f)
 | .dF cs=> .dF (cs.map f)
 |a=>a
def rN (G:Hp):Nat→AV→AV
 |0,a=>a
 |k+1,a=>MB (rN G k) G a
theorem dC.rP {c c2:Cx} (f:AV→AV) (h:∀a,c8 c c2 a (f a)):∀l:List AV,dC c c2 l (l.map f)
 |[]=> .nil
 |a::l=> .cons (h a) (dC.rP f h l)
theorem c8.OC {w0:World} {c c2:Cx} (hS:cu w0 c) {b:Nat} {e:TypeId} {sz:Nat} {d:AV} {es es2:List AV} (d2:AV) (hw:c2.w=c.w) (hH:c.H b=some (.row e sz d es)) (hM:∀blk o z,c.ρ b=some (blk,o,z)→¬c2.M blk) (h:dC c c2 es es2):c8 c c2 (.sl b es.length) (.im sz d2 es2):=by
 have hl:=h.length
 intro v hv
 rw[VR] at hv
 obtain⟨_,a,cap,rfl,hr⟩:=hv
 obtain⟨_,hr⟩:=hr _ _ _ _ hH
 obtain⟨_,hz,hrow⟩:=hS.ji b _ _ _ _ hH (rT (hr rfl))
 rw[VR]
 rcases hr rfl with⟨hρ,rfl,rfl⟩|⟨blk,o,z,hρ,rfl,hc1,_,_⟩
 ·rcases hrow with⟨_,rfl⟩|⟨_,_,_,hρ',_⟩
  ·have:es2=[]:=List.eq_nil_of_length_eq_zero (by simpa using hl.symm)
   subst this
   exact⟨none,0,rfl,by simp, .inl rfl⟩
  ·rw[hρ] at hρ';cases hρ'
 ·rcases hrow with⟨hρ',_⟩|⟨blk1,o1,z1,hρ1,_,_,_,hrow⟩
  ·rw[hρ] at hρ';cases hρ'
  ·rw[hρ] at hρ1;cases hρ1
   exact⟨_,cap,by rw[←hl],by rw[←hl];exact hc1, .inr ⟨blk,o,rfl,hz,hM _ _ _ hρ,h.row hw hrow⟩⟩
theorem c8.rN {w0:World} {c c2:Cx} {G:Hp} (hS:cu w0 c) (hw:c2.w=c.w) (hle:c.le c2) (hG:∀b q,bf G b=some q→c.H b=some q∧∀blk o z,c.ρ b=some (blk,o,z)→¬c2.M blk):∀(k:Nat) (a:AV),c8 c c2 a (rN G k a):=by
 intro k
 induction k with
 |zero=>intro a;rw[Go.cW.rN];exact c8.cK hle a
 |succ k ih=>
  intro a
  cases a<;>rw[Go.cW.rN]<;>simp only[MB]<;>try exact c8.cK hle _
  case sl b len=>
   cases hb:bf G b with
   |none=>simp only;exact c8.cK hle _
   |some q=>
    obtain⟨e,sz,d,es⟩:=q
    simp only
    split
    ·rename_i hl
     obtain⟨g1,g2⟩:=hG b _ hb
     rw[←hl]
     exact c8.OC hS .any hw g1 g2 (dC.rP _ ih es)
    ·exact c8.cK hle _
  case agg cs=>exact c8.agg (dC.rP _ ih cs)
  case dF cs=>exact c8.dF (dC.rP _ ih cs)
def oY (G H:Hp):Hp:=G.map (fun p=>(p.1,none))++H
theorem qP (b:Nat) (q:Option dz) (G H:Hp):oY ((b,q)::G) H=(b,none)::oY G H:=rfl
theorem iY {H:Hp} {b:Nat}:∀{G:Hp},b∈G.map (·.1)→bf (oY G H) b=none
 |(x,q)::G,h=>by
  rw[qP]
  by_cases hb:b=x
  ·subst hb;exact cJ _ _ _
  ·rw[bg hb]
   exact iY (by simpa[hb] using h)
theorem iP {H:Hp} {b:Nat}:∀{G:Hp},b∉G.map (·.1)→bf (oY G H) b=bf H b
 |[],_=>rfl
 |(x,q)::G,h=>by
  simp only[List.map_cons,List.mem_cons,not_or] at h
  rw[qP,bg h.1,iP h.2]
theorem pM {b:Nat} {q:dz}:∀{G:Hp},bf G b=some q→b∈G.map (·.1)
 |(x,p)::G,h=>by
  by_cases hb:b=x
  ·simp[hb]
  ·rw[bg hb] at h
   simp only[List.map_cons,List.mem_cons]
   exact .inr (pM h)
theorem Wk.rN {H:Hp} {nx cb:Nat} {e:TypeId} {sz:Nat} {d:AV} {es:List AV} (G:Hp) (k:Nat) (d2:AV) (hcb:bf H cb=some (.row e sz d es)) (hG:∀b q,bf G b=some q→bf H b=some q):Wk .any H nx .any (oY G ((cb,some (.row e sz d2 (es.map (rN G k))))::H)) nx:=by
 refine Wk.tell (Nat.le_refl _) (fun b e' sz' d' es' he=> ?_) (fun w0 c c2 hS hU hc hc2 hw hle hnew hM=>⟨c8.any _ _ _,fun b e' sz' d' es' d0 es0 h1 h2=> ?_⟩)
 ·by_cases hb:b∈G.map (·.1)
  ·rw[iY hb] at he;cases he
  ·rw[iP hb] at he
   by_cases hbc:b=cb
   ·subst hbc
    rw[cJ] at he
    cases he
    exact .inl ⟨d,es,hcb,by simp⟩
   ·rw[bg hbc] at he
    exact .inl ⟨d',es',he,rfl⟩
 ·by_cases hb:b∈G.map (·.1)
  ·rw[iY hb] at h1;cases h1
  ·rw[iP hb] at h1
   by_cases hbc:b=cb
   ·subst hbc
    rw[cJ] at h1
    rw[hcb] at h2
    cases h1;cases h2
    exact dC.rP _ (c8.rN hS hw hle (fun b q hq=>by
     have h1:=hG b q hq
     exact⟨by rw[hc];exact h1,fun blk o z hρ=>hM b q blk o z h1 (iY (pM hq)) hρ⟩) k) _
   ·rw[bg hbc] at h1
    rw[h1] at h2;cases h2
    exact dC.cK hle _
theorem MC (G:Hp) (k:Nat) (sz:Nat) (d:AV) (es:List AV):rN G k (.im sz d es)= .im sz d es:=by cases k<;>rfl
theorem MD {G:Hp} {k b len:Nat} {e:TypeId} {sz:Nat} {d:AV} {es:List AV} (h:bf G b=some (.row e sz d es)) (hl:es.length=len):rN G (k+1) (.sl b len)= .im sz .any (es.map (rN G k)):=by
 rw[rN,MB,h];simp only;rw[if_pos hl]
theorem EG (G:Hp) (l:List AV):l.map (Go.cW.rN G 0)=l:=by
 have e:rN G 0=id:=by funext a;rfl
 rw[e,List.map_id]
theorem Wk.MA {H:Hp} {nx cb b:Nat} {e e2:TypeId} {sz sz2:Nat} {d d3:AV} {es l es2:List AV} (d2:AV) (h1:bf H cb=some (.row e sz d es)) (h2:bf H b=some (.row e2 sz2 d3 l)) (hes:es.map (Go.cW.rN [(b,some (.row e2 sz2 d3 l))] 1)=es2):Wk .any H nx .any ((b,none)::(cb,some (.row e sz d2 es2))::H) nx:=by
 have h:=Wk.rN (nx:=nx) [(b,some (.row e2 sz2 d3 l))] 1 d2 h1 (fun x q hx=>by
  by_cases hb:x=b
  ·subst hb;rw[cJ] at hx;rw[←hx];exact h2
  ·rw[bg hb] at hx;cases hx)
 rw[hes] at h
 exact h
theorem qR {b len:Nat} {e2:TypeId} {sz2:Nat} {d3:AV} {es l:List AV} (hes:∀a∈es,Go.cW.rN [(b,some (.row e2 sz2 d3 l))] 1 a=a) (hl:l.length=len):(es++[AV.sl b len]).map (Go.cW.rN [(b,some (.row e2 sz2 d3 l))] 1)=es++[.im sz2 .any l]:=by
 rw[List.map_append,List.map_cons,List.map_nil,MD (cJ _ _ _) hl,EG]
 congr 1
 exact(List.map_congr_left hes).trans (by simp)
structure yV (str:Bool) {κ:Type} [DecidableEq κ] (kf:κ→Value):Prop where
 eq:∀a b,MF str (kf a) (kf b)=some (decide (a=b))
theorem EI:yV true (fun s:ByteArray=>Value.string s):=⟨fun a b=>by
 simp only[MF,Option.some.injEq]
 obtain⟨a⟩:=a
 obtain⟨b⟩:=b
 show(a==b)=_
 rw[Bool.eq_iff_iff]
 simp⟩
section
variable {κ β:Type} [DecidableEq κ]
def qc (kf:κ→Value) (vf:β→AV) (E:List (κ×β)):List AV:=E.map fun p=>wg (kf p.1) (vf p.2)
def ij:List (κ×β)→κ→Option β
 |[],_=>none
 |p::E,k=>if k=p.1 then some p.2 else ij E k
def wN:List (κ×β)→κ→β→List (κ×β)
 |[],k,v=>[(k,v)]
 |p::E,k,v=>if k=p.1 then(k,v)::E else p::wN E k v
def IL:List (κ×β)→κ→List (κ×β)
 |[],_=>[]
 |p::E,k=>if k=p.1 then E else p::IL E k
theorem tX {str:Bool} {kf:κ→Value} (hk:yV str kf) (vf:β→AV) (k:κ) (v:β):∀(E:List (κ×β)) (i:Nat),
 (gM str (kf k) (qc kf vf E) i=some none∧ij E k=none∧wN E k v=E++[(k,v)]∧IL E k=E)∨
 ∃j v0,gM str (kf k) (qc kf vf E) i=some (some (i+j,vf v0))∧ij E k=some v0∧wN E k v=E.set j (k,v)∧IL E k=E.eraseIdx j
 |[],i=> .inl ⟨rfl,rfl,rfl,rfl⟩
 |p::E,i=>by
  have e:gM str (kf k) (qc kf vf (p::E)) i=if k=p.1 then some (some (i,vf p.2)) else gM str (kf k) (qc kf vf E) (i+1):=by
   simp only[qc,List.map_cons,gM,wg,IP,hk.eq]
   by_cases h:k=p.1<;>simp[h]
  rw[e,ij,wN,IL]
  by_cases h:k=p.1
  ·simp only[h,if_true]
   exact .inr ⟨0,p.2,by simp,rfl,by simp,by simp⟩
  ·simp only[h,if_false]
   rcases tX hk vf k v E (i+1) with⟨h1,h2,h3,h4⟩|⟨j,v0,h1,h2,h3,h4⟩
   ·exact .inl ⟨h1,h2,by rw[h3];rfl,by rw[h4]⟩
   ·exact .inr ⟨j+1,v0,by rw[h1];congr 3;omega,h2,by rw[h3];rfl,by rw[h4];rfl⟩
theorem MI {str:Bool} {kf:κ→Value} (hk:yV str kf) (vf:β→AV) (k:κ) (E:List (κ×β)) (z:AV):x8 str (kf k) (qc kf vf E) z=some ((ij E k).elim z vf,(ij E k).isSome):=by
 unfold x8
 cases E with
 |nil=>rfl
 |cons p E=>
  rcases tX hk vf k p.2 (p::E) 0 with⟨h1,h2,_⟩|⟨j,v0,h1,h2,_⟩<;>rw[h1,h2]<;>rfl
theorem ML {str:Bool} {kf:κ→Value} (hk:yV str kf) (vf:β→AV) (k:κ) (v:β) (E:List (κ×β)):BF str (kf k) (qc kf vf E) (vf v)=some (qc kf vf (wN E k v)):=by
 unfold BF
 rcases tX hk vf k v E 0 with⟨h1,_,h3,_⟩|⟨j,v0,h1,_,h3,_⟩
 ·rw[h1,h3];simp[qc,wg]
 ·rw[h1,h3];simp only[qc,Nat.zero_add,List.map_set];rfl
theorem nz:∀(E:List (κ×β)) (k:κ),ij E k=none↔k∉E.map Prod.fst
 |[],k=>by simp[ij]
 |p::E,k=>by
  rw[ij]
  by_cases h:k=p.1
  ·simp[h]
  ·simp[h,nz E k]
end
end Go.cW
end
