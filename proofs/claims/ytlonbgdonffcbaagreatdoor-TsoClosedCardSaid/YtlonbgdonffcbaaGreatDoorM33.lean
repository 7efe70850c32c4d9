import Derived.Test.YtlonbgdonffcbaaGreatDoorM18
section
/- Rows that are written no more, told as what is held by value. -/
namespace Go.cW
open Go.RowKit
set_option linter.unusedSimpArgs false
set_option linter.unusedVariables false
def LX (f:AV→AV) (G:Hp):AV→AV
 | .sl b len=>match bd G b with
  |some (.row _ sz _ es)=>if es.length=len then .im sz .any (es.map f) else .sl b len
  |none=> .sl b len
 | .agg cs=> .agg (cs.map f)
 | .dD cs=> .dD (cs.map f)
 |a=>a
def qw (G:Hp):Nat→AV→AV
 |0,a=>a
 |k+1,a=>LX (qw G k) G a
theorem cz.rH {c c2:Cx} (f:AV→AV) (h:∀a,c8 c c2 a (f a)):∀l:List AV,cz c c2 l (l.map f)
 |[]=> .nil
 |a::l=> .cons (h a) (cz.rH f h l)
theorem c8.NZ {w0:World} {c c2:Cx} (hS:cu w0 c) {b:Nat} {e:TypeId} {sz:Nat} {d:AV} {es es2:List AV} (d2:AV) (hw:c2.w=c.w) (hH:c.H b=some (.row e sz d es)) (hM:∀blk o z,c.ρ b=some (blk,o,z)→¬c2.M blk) (h:cz c c2 es es2):c8 c c2 (.sl b es.length) (.im sz d2 es2):=by
 have hl:=h.length
 intro v hv
 rw[VR] at hv
 obtain⟨_,a,cap,rfl,hr⟩:=hv
 obtain⟨_,hr⟩:=hr _ _ _ _ hH
 obtain⟨_,hz,hrow⟩:=hS.jh b _ _ _ _ hH (rM (hr rfl))
 rw[VR]
 rcases hr rfl with⟨hρ,rfl,rfl⟩|⟨blk,o,z,hρ,rfl,hc1,_,_⟩
 ·rcases hrow with⟨_,rfl⟩|⟨_,_,_,hρ',_⟩
  ·have:es2=[]:=List.eq_nil_of_length_eq_zero (by simpa using hl.symm)
   subst this
   exact⟨none,0,rfl,by simp, .inl rfl⟩
  ·rw[hρ] at hρ';cases hρ'
 ·rcases hrow with⟨hρ',_⟩|⟨blk1,o1,z1,hρ1,_,_,_,hrow⟩
  ·rw[hρ] at hρ';cases hρ'
  ·rw[hρ] at hρ1;cases hρ1
   exact⟨_,cap,by rw[←hl],by rw[←hl];exact hc1, .inr ⟨blk,o,rfl,hz,hM _ _ _ hρ,h.row hw hrow⟩⟩
theorem c8.qw {w0:World} {c c2:Cx} {G:Hp} (hS:cu w0 c) (hw:c2.w=c.w) (hle:c.le c2) (hG:∀b q,bd G b=some q→c.H b=some q∧∀blk o z,c.ρ b=some (blk,o,z)→¬c2.M blk):∀(k:Nat) (a:AV),c8 c c2 a (qw G k a):=by
 intro k
 induction k with
 |zero=>intro a;rw[Go.cW.qw];exact c8.cL hle a
 |succ k ih=>
  intro a
  cases a<;>rw[Go.cW.qw]<;>simp only[LX]<;>try exact c8.cL hle _
  case sl b len=>
   cases hb:bd G b with
   |none=>simp only;exact c8.cL hle _
   |some q=>
    obtain⟨e,sz,d,es⟩:=q
    simp only
    split
    ·rename_i hl
     obtain⟨g1,g2⟩:=hG b _ hb
     rw[←hl]
     exact c8.NZ hS .any hw g1 g2 (cz.rH _ ih es)
    ·exact c8.cL hle _
  case agg cs=>exact c8.agg (cz.rH _ ih cs)
  case dD cs=>exact c8.dD (cz.rH _ ih cs)
def l8 (G H:Hp):Hp:=G.map (fun p=>(p.1,none))++H
theorem qJ (b:Nat) (q:Option du) (G H:Hp):l8 ((b,q)::G) H=(b,none)::l8 G H:=rfl
theorem fX {H:Hp} {b:Nat}:∀{G:Hp},b∈G.map (·.1)→bd (l8 G H) b=none
 |(x,q)::G,h=>by
  rw[qJ]
  by_cases hb:b=x
  ·subst hb;exact cK _ _ _
  ·rw[bh hb]
   exact fX (by simpa[hb] using h)
theorem fh {H:Hp} {b:Nat}:∀{G:Hp},b∉G.map (·.1)→bd (l8 G H) b=bd H b
 |[],_=>rfl
 |(x,q)::G,h=>by
  simp only[List.map_cons,List.mem_cons,not_or] at h
  rw[qJ,bh h.1,fh h.2]
theorem mf {b:Nat} {q:du}:∀{G:Hp},bd G b=some q→b∈G.map (·.1)
 |(x,p)::G,h=>by
  by_cases hb:b=x
  ·simp[hb]
  ·rw[bh hb] at h
   simp only[List.map_cons,List.mem_cons]
   exact .inr (mf h)
theorem Wk.qw {H:Hp} {nx cb:Nat} {e:TypeId} {sz:Nat} {d:AV} {es:List AV} (G:Hp) (k:Nat) (d2:AV) (hcb:bd H cb=some (.row e sz d es)) (hG:∀b q,bd G b=some q→bd H b=some q):Wk .any H nx .any (l8 G ((cb,some (.row e sz d2 (es.map (qw G k))))::H)) nx:=by
 refine Wk.tell (Nat.le_refl _) (fun b e' sz' d' es' he=> ?_) (fun w0 c c2 hS hU hc hc2 hw hle hnew hM=>⟨c8.any _ _ _,fun b e' sz' d' es' d0 es0 h1 h2=> ?_⟩)
 ·by_cases hb:b∈G.map (·.1)
  ·rw[fX hb] at he;cases he
  ·rw[fh hb] at he
   by_cases hbc:b=cb
   ·subst hbc
    rw[cK] at he
    cases he
    exact .inl ⟨d,es,hcb,by simp⟩
   ·rw[bh hbc] at he
    exact .inl ⟨d',es',he,rfl⟩
 ·by_cases hb:b∈G.map (·.1)
  ·rw[fX hb] at h1;cases h1
  ·rw[fh hb] at h1
   by_cases hbc:b=cb
   ·subst hbc
    rw[cK] at h1
    rw[hcb] at h2
    cases h1;cases h2
    exact cz.rH _ (c8.qw hS hw hle (fun b q hq=>by
     have h1:=hG b q hq
     exact⟨by rw[hc];exact h1,fun blk o z hρ=>hM b q blk o z h1 (fX (mf hq)) hρ⟩) k) _
   ·rw[bh hbc] at h1
    rw[h1] at h2;cases h2
    exact cz.cL hle _
theorem LY (G:Hp) (k:Nat) (sz:Nat) (d:AV) (es:List AV):qw G k (.im sz d es)= .im sz d es:=by cases k<;>rfl
theorem LZ {G:Hp} {k b len:Nat} {e:TypeId} {sz:Nat} {d:AV} {es:List AV} (h:bd G b=some (.row e sz d es)) (hl:es.length=len):qw G (k+1) (.sl b len)= .im sz .any (es.map (qw G k)):=by
 rw[qw,LX,h];simp only;rw[if_pos hl]
theorem D7 (G:Hp) (l:List AV):l.map (Go.cW.qw G 0)=l:=by
 have e:qw G 0=id:=by funext a;rfl
 rw[e,List.map_id]
theorem Wk.LW {H:Hp} {nx cb b:Nat} {e e2:TypeId} {sz sz2:Nat} {d d3:AV} {es l es2:List AV} (d2:AV) (h1:bd H cb=some (.row e sz d es)) (h2:bd H b=some (.row e2 sz2 d3 l)) (hes:es.map (Go.cW.qw [(b,some (.row e2 sz2 d3 l))] 1)=es2):Wk .any H nx .any ((b,none)::(cb,some (.row e sz d2 es2))::H) nx:=by
 have h:=Wk.qw (nx:=nx) [(b,some (.row e2 sz2 d3 l))] 1 d2 h1 (fun x q hx=>by
  by_cases hb:x=b
  ·subst hb;rw[cK] at hx;rw[←hx];exact h2
  ·rw[bh hb] at hx;cases hx)
 rw[hes] at h
 exact h
theorem qL {b len:Nat} {e2:TypeId} {sz2:Nat} {d3:AV} {es l:List AV} (hes:∀a∈es,Go.cW.qw [(b,some (.row e2 sz2 d3 l))] 1 a=a) (hl:l.length=len):(es++[AV.sl b len]).map (Go.cW.qw [(b,some (.row e2 sz2 d3 l))] 1)=es++[.im sz2 .any l]:=by
 rw[List.map_append,List.map_cons,List.map_nil,LZ (cK _ _ _) hl,D7]
 congr 1
 exact(List.map_congr_left hes).trans (by simp)
structure yN (str:Bool) {κ:Type} [DecidableEq κ] (kf:κ→Value):Prop where
 eq:∀a b,L1 str (kf a) (kf b)=some (decide (a=b))
theorem D9:yN true (fun s:ByteArray=>Value.string s):=⟨fun a b=>by
 simp only[L1,Option.some.injEq]
 obtain⟨a⟩:=a
 obtain⟨b⟩:=b
 show(a==b)=_
 rw[Bool.eq_iff_iff]
 simp⟩
section
variable {κ β:Type} [DecidableEq κ]
def q7 (kf:κ→Value) (vf:β→AV) (E:List (κ×β)):List AV:=E.map fun p=>w4 (kf p.1) (vf p.2)
def iU:List (κ×β)→κ→Option β
 |[],_=>none
 |p::E,k=>if k=p.1 then some p.2 else iU E k
def wE:List (κ×β)→κ→β→List (κ×β)
 |[],k,v=>[(k,v)]
 |p::E,k,v=>if k=p.1 then(k,v)::E else p::wE E k v
def IF:List (κ×β)→κ→List (κ×β)
 |[],_=>[]
 |p::E,k=>if k=p.1 then E else p::IF E k
theorem tQ {str:Bool} {kf:κ→Value} (hk:yN str kf) (vf:β→AV) (k:κ) (v:β):∀(E:List (κ×β)) (i:Nat),
 (gH str (kf k) (q7 kf vf E) i=some none∧iU E k=none∧wE E k v=E++[(k,v)]∧IF E k=E)∨
 ∃j v0,gH str (kf k) (q7 kf vf E) i=some (some (i+j,vf v0))∧iU E k=some v0∧wE E k v=E.set j (k,v)∧IF E k=E.eraseIdx j
 |[],i=> .inl ⟨rfl,rfl,rfl,rfl⟩
 |p::E,i=>by
  have e:gH str (kf k) (q7 kf vf (p::E)) i=if k=p.1 then some (some (i,vf p.2)) else gH str (kf k) (q7 kf vf E) (i+1):=by
   simp only[q7,List.map_cons,gH,w4,II,hk.eq]
   by_cases h:k=p.1<;>simp[h]
  rw[e,iU,wE,IF]
  by_cases h:k=p.1
  ·simp only[h,if_true]
   exact .inr ⟨0,p.2,by simp,rfl,by simp,by simp⟩
  ·simp only[h,if_false]
   rcases tQ hk vf k v E (i+1) with⟨h1,h2,h3,h4⟩|⟨j,v0,h1,h2,h3,h4⟩
   ·exact .inl ⟨h1,h2,by rw[h3];rfl,by rw[h4]⟩
   ·exact .inr ⟨j+1,v0,by rw[h1];congr 3;omega,h2,by rw[h3];rfl,by rw[h4];rfl⟩
theorem L6 {str:Bool} {kf:κ→Value} (hk:yN str kf) (vf:β→AV) (k:κ) (E:List (κ×β)) (z:AV):xY str (kf k) (q7 kf vf E) z=some ((iU E k).elim z vf,(iU E k).isSome):=by
 unfold xY
 cases E with
 |nil=>rfl
 |cons p E=>
  rcases tQ hk vf k p.2 (p::E) 0 with⟨h1,h2,_⟩|⟨j,v0,h1,h2,_⟩<;>rw[h1,h2]<;>rfl
theorem L9 {str:Bool} {kf:κ→Value} (hk:yN str kf) (vf:β→AV) (k:κ) (v:β) (E:List (κ×β)):A5 str (kf k) (q7 kf vf E) (vf v)=some (q7 kf vf (wE E k v)):=by
 unfold A5
 rcases tQ hk vf k v E 0 with⟨h1,_,h3,_⟩|⟨j,v0,h1,_,h3,_⟩
 ·rw[h1,h3];simp[q7,w4]
 ·rw[h1,h3];simp only[q7,Nat.zero_add,List.map_set];rfl
theorem nn:∀(E:List (κ×β)) (k:κ),iU E k=none↔k∉E.map Prod.fst
 |[],k=>by simp[iU]
 |p::E,k=>by
  rw[iU]
  by_cases h:k=p.1
  ·simp[h]
  ·simp[h,nn E k]
end
end Go.cW
end
