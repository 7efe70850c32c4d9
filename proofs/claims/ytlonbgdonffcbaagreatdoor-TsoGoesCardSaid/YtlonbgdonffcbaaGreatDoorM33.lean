import Derived.Test.YtlonbgdonffcbaaGreatDoorM18
section
/- Rows that are written no more, told as what is held by value. -/
namespace Go.cY
open Go.RowKit
set_option linter.unusedSimpArgs false
set_option linter.unusedVariables false
def MX (f:AV→AV) (G:Hp):AV→AV
 | .sl b len=>match bf G b with
  |some (.row _ sz _ es)=>if es.length=len then .im sz .any (es.map f) else .sl b len
  |none=> .sl b len
 | .agg cs=> .agg (cs.map f)
 | .dB cs=> .dB (cs.map f)
 |a=>a
def rW (G:Hp):Nat→AV→AV
 |0,a=>a
 |k+1,a=>MX (rW G k) G a
theorem dF.rp {c c2:Cx} (f:AV→AV) (h:∀a,cc c c2 a (f a)):∀l:List AV,dF c c2 l (l.map f)
 |[]=> .nil
 |a::l=> .cons (h a) (dF.rp f h l)
theorem cc.OY {w0:World} {c c2:Cx} (hS:dA w0 c) {b:Nat} {e:TypeId} {sz:Nat} {d:AV} {es es2:List AV} (d2:AV) (hw:c2.w=c.w) (hH:c.H b=some (.row e sz d es)) (hM:∀blk o z,c.ρ b=some (blk,o,z)→¬c2.M blk) (h:dF c c2 es es2):cc c c2 (.sl b es.length) (.im sz d2 es2):=by
 have hl:=h.length
 intro v hv
 rw[VR] at hv
 obtain⟨_,a,cap,rfl,hr⟩:=hv
 obtain⟨_,hr⟩:=hr _ _ _ _ hH
 obtain⟨_,hz,hrow⟩:=hS.jr b _ _ _ _ hH (sB (hr rfl))
 rw[VR]
 rcases hr rfl with⟨hρ,rfl,rfl⟩|⟨blk,o,z,hρ,rfl,hc1,_,_⟩
 ·rcases hrow with⟨_,rfl⟩|⟨_,_,_,hρ',_⟩
  ·have:es2=[]:=List.eq_nil_of_length_eq_zero (by simpa using hl.symm)
   subst this
   exact⟨none,0,rfl,by simp, .inl rfl⟩
  ·rw[hρ] at hρ';cases hρ'
 ·rcases hrow with⟨hρ',_⟩|⟨blk1,o1,z1,hρ1,_,_,_,hrow⟩
  ·rw[hρ] at hρ';cases hρ'
  ·rw[hρ] at hρ1;cases hρ1
   exact⟨_,cap,by rw[←hl],by rw[←hl];exact hc1, .inr ⟨blk,o,rfl,hz,hM _ _ _ hρ,h.row hw hrow⟩⟩
theorem cc.rW {w0:World} {c c2:Cx} {G:Hp} (hS:dA w0 c) (hw:c2.w=c.w) (hle:c.le c2) (hG:∀b q,bf G b=some q→c.H b=some q∧∀blk o z,c.ρ b=some (blk,o,z)→¬c2.M blk):∀(k:Nat) (a:AV),cc c c2 a (rW G k a):=by
 intro k
 induction k with
 |zero=>intro a;rw[Go.cY.rW];exact cc.cP hle a
 |succ k ih=>
  intro a
  cases a<;>rw[Go.cY.rW]<;>simp only[MX]<;>try exact cc.cP hle _
  case sl b len=>
   cases hb:bf G b with
   |none=>simp only;exact cc.cP hle _
   |some q=>
    obtain⟨e,sz,d,es⟩:=q
    simp only
    split
    ·rename_i hl
     obtain⟨g1,g2⟩:=hG b _ hb
     rw[←hl]
     exact cc.OY hS .any hw g1 g2 (dF.rp _ ih es)
    ·exact cc.cP hle _
  case agg cs=>exact cc.agg (dF.rp _ ih cs)
  case dB cs=>exact cc.dB (dF.rp _ ih cs)
def lu (G H:Hp):Hp:=G.map (fun p=>(p.1,none))++H
theorem qb (b:Nat) (q:Option eB) (G H:Hp):lu ((b,q)::G) H=(b,none)::lu G H:=rfl
theorem fc {H:Hp} {b:Nat}:∀{G:Hp},b∈G.map (·.1)→bf (lu G H) b=none
 |(x,q)::G,h=>by
  rw[qb]
  by_cases hb:b=x
  ·subst hb;exact cN _ _ _
  ·rw[bj hb]
   exact fc (by simpa[hb] using h)
theorem fp {H:Hp} {b:Nat}:∀{G:Hp},b∉G.map (·.1)→bf (lu G H) b=bf H b
 |[],_=>rfl
 |(x,q)::G,h=>by
  simp only[List.map_cons,List.mem_cons,not_or] at h
  rw[qb,bj h.1,fp h.2]
theorem nG {b:Nat} {q:eB}:∀{G:Hp},bf G b=some q→b∈G.map (·.1)
 |(x,p)::G,h=>by
  by_cases hb:b=x
  ·simp[hb]
  ·rw[bj hb] at h
   simp only[List.map_cons,List.mem_cons]
   exact .inr (nG h)
theorem Wk.rW {H:Hp} {nx cb:Nat} {e:TypeId} {sz:Nat} {d:AV} {es:List AV} (G:Hp) (k:Nat) (d2:AV) (hcb:bf H cb=some (.row e sz d es)) (hG:∀b q,bf G b=some q→bf H b=some q):Wk .any H nx .any (lu G ((cb,some (.row e sz d2 (es.map (rW G k))))::H)) nx:=by
 refine Wk.tell (Nat.le_refl _) (fun b e' sz' d' es' he=> ?_) (fun w0 c c2 hS hU hc hc2 hw hle hnew hM=>⟨cc.any _ _ _,fun b e' sz' d' es' d0 es0 h1 h2=> ?_⟩)
 ·by_cases hb:b∈G.map (·.1)
  ·rw[fc hb] at he;cases he
  ·rw[fp hb] at he
   by_cases hbc:b=cb
   ·subst hbc
    rw[cN] at he
    cases he
    exact .inl ⟨d,es,hcb,by simp⟩
   ·rw[bj hbc] at he
    exact .inl ⟨d',es',he,rfl⟩
 ·by_cases hb:b∈G.map (·.1)
  ·rw[fc hb] at h1;cases h1
  ·rw[fp hb] at h1
   by_cases hbc:b=cb
   ·subst hbc
    rw[cN] at h1
    rw[hcb] at h2
    cases h1;cases h2
    exact dF.rp _ (cc.rW hS hw hle (fun b q hq=>by
     have h1:=hG b q hq
     exact⟨by rw[hc];exact h1,fun blk o z hρ=>hM b q blk o z h1 (fc (nG hq)) hρ⟩) k) _
   ·rw[bj hbc] at h1
    rw[h1] at h2;cases h2
    exact dF.cP hle _
theorem MY (G:Hp) (k:Nat) (sz:Nat) (d:AV) (es:List AV):rW G k (.im sz d es)= .im sz d es:=by cases k<;>rfl
theorem MZ {G:Hp} {k b len:Nat} {e:TypeId} {sz:Nat} {d:AV} {es:List AV} (h:bf G b=some (.row e sz d es)) (hl:es.length=len):rW G (k+1) (.sl b len)= .im sz .any (es.map (rW G k)):=by
 rw[rW,MX,h];simp only;rw[if_pos hl]
theorem E1 (G:Hp) (l:List AV):l.map (Go.cY.rW G 0)=l:=by
 have e:rW G 0=id:=by funext a;rfl
 rw[e,List.map_id]
theorem Wk.MV {H:Hp} {nx cb b:Nat} {e e2:TypeId} {sz sz2:Nat} {d d3:AV} {es l es2:List AV} (d2:AV) (h1:bf H cb=some (.row e sz d es)) (h2:bf H b=some (.row e2 sz2 d3 l)) (hes:es.map (Go.cY.rW [(b,some (.row e2 sz2 d3 l))] 1)=es2):Wk .any H nx .any ((b,none)::(cb,some (.row e sz d2 es2))::H) nx:=by
 have h:=Wk.rW (nx:=nx) [(b,some (.row e2 sz2 d3 l))] 1 d2 h1 (fun x q hx=>by
  by_cases hb:x=b
  ·subst hb;rw[cN] at hx;rw[←hx];exact h2
  ·rw[bj hb] at hx;cases hx)
 rw[hes] at h
 exact h
theorem qe {b len:Nat} {e2:TypeId} {sz2:Nat} {d3:AV} {es l:List AV} (hes:∀a∈es,Go.cY.rW [(b,some (.row e2 sz2 d3 l))] 1 a=a) (hl:l.length=len):(es++[AV.sl b len]).map (Go.cY.rW [(b,some (.row e2 sz2 d3 l))] 1)=es++[.im sz2 .any l]:=by
 rw[List.map_append,List.map_cons,List.map_nil,MZ (cN _ _ _) hl,E1]
 congr 1
 exact(List.map_congr_left hes).trans (by simp)
structure yl (str:Bool) {κ:Type} [DecidableEq κ] (kf:κ→Value):Prop where
 eq:∀a b,M3 str (kf a) (kf b)=some (decide (a=b))
theorem E3:yl true (fun s:ByteArray=>Value.string s):=⟨fun a b=>by
 simp only[M3,Option.some.injEq]
 obtain⟨a⟩:=a
 obtain⟨b⟩:=b
 show(a==b)=_
 rw[Bool.eq_iff_iff]
 simp⟩
section
variable {κ β:Type} [DecidableEq κ]
def qw (kf:κ→Value) (vf:β→AV) (E:List (κ×β)):List AV:=E.map fun p=>xF (kf p.1) (vf p.2)
def ir:List (κ×β)→κ→Option β
 |[],_=>none
 |p::E,k=>if k=p.1 then some p.2 else ir E k
def w4:List (κ×β)→κ→β→List (κ×β)
 |[],k,v=>[(k,v)]
 |p::E,k,v=>if k=p.1 then(k,v)::E else p::w4 E k v
def JG:List (κ×β)→κ→List (κ×β)
 |[],_=>[]
 |p::E,k=>if k=p.1 then E else p::JG E k
theorem uG {str:Bool} {kf:κ→Value} (hk:yl str kf) (vf:β→AV) (k:κ) (v:β):∀(E:List (κ×β)) (i:Nat),
 (gQ str (kf k) (qw kf vf E) i=some none∧ir E k=none∧w4 E k v=E++[(k,v)]∧JG E k=E)∨
 ∃j v0,gQ str (kf k) (qw kf vf E) i=some (some (i+j,vf v0))∧ir E k=some v0∧w4 E k v=E.set j (k,v)∧JG E k=E.eraseIdx j
 |[],i=> .inl ⟨rfl,rfl,rfl,rfl⟩
 |p::E,i=>by
  have e:gQ str (kf k) (qw kf vf (p::E)) i=if k=p.1 then some (some (i,vf p.2)) else gQ str (kf k) (qw kf vf E) (i+1):=by
   simp only[qw,List.map_cons,gQ,xF,JJ,hk.eq]
   by_cases h:k=p.1<;>simp[h]
  rw[e,ir,w4,JG]
  by_cases h:k=p.1
  ·simp only[h,if_true]
   exact .inr ⟨0,p.2,by simp,rfl,by simp,by simp⟩
  ·simp only[h,if_false]
   rcases uG hk vf k v E (i+1) with⟨h1,h2,h3,h4⟩|⟨j,v0,h1,h2,h3,h4⟩
   ·exact .inl ⟨h1,h2,by rw[h3];rfl,by rw[h4]⟩
   ·exact .inr ⟨j+1,v0,by rw[h1];congr 3;omega,h2,by rw[h3];rfl,by rw[h4];rfl⟩
theorem M6 {str:Bool} {kf:κ→Value} (hk:yl str kf) (vf:β→AV) (k:κ) (E:List (κ×β)) (z:AV):yC str (kf k) (qw kf vf E) z=some ((ir E k).elim z vf,(ir E k).isSome):=by
 unfold yC
 cases E with
 |nil=>rfl
 |cons p E=>
  rcases uG hk vf k p.2 (p::E) 0 with⟨h1,h2,_⟩|⟨j,v0,h1,h2,_⟩<;>rw[h1,h2]<;>rfl
theorem M9 {str:Bool} {kf:κ→Value} (hk:yl str kf) (vf:β→AV) (k:κ) (v:β) (E:List (κ×β)):BZ str (kf k) (qw kf vf E) (vf v)=some (qw kf vf (w4 E k v)):=by
 unfold BZ
 rcases uG hk vf k v E 0 with⟨h1,_,h3,_⟩|⟨j,v0,h1,_,h3,_⟩
 ·rw[h1,h3];simp[qw,xF]
 ·rw[h1,h3];simp only[qw,Nat.zero_add,List.map_set];rfl
theorem oM:∀(E:List (κ×β)) (k:κ),ir E k=none↔k∉E.map Prod.fst
 |[],k=>by simp[ir]
 |p::E,k=>by
  rw[ir]
  by_cases h:k=p.1
  ·simp[h]
  ·simp[h,oM E k]
end
end Go.cY
end
