import Derived.Test.YtekfmjjmihomlaaGreatM18
section
/- Rows that are written no more, told as what is held by value. -/
namespace Go.cZ
open Go.RowKit
set_option linter.unusedSimpArgs false
set_option linter.unusedVariables false
def LI (f:AV→AV) (G:Hp):AV→AV
 | .sl b len=>match bn G b with
  |some (.row _ sz _ es)=>if es.length=len then .im sz .any (es.map f) else .sl b len
  |none=> .sl b len
 | .agg cs=> .agg (cs.map f)
 | .dV cs=> .dV (cs.map f)
 |a=>a
def nY (G:Hp):Nat→AV→AV
 |0,a=>a
 |k+1,a=>LI (nY G k) G a
theorem dI.sU {c c2:Cx} (f:AV→AV) (h:∀a,dZ c c2 a (f a)):∀l:List AV,dI c c2 l (l.map f)
 |[]=> .nil
 |a::l=> .cons (h a) (dI.sU f h l)
theorem dZ.QO {w0:World} {c c2:Cx} (hS:dn w0 c) {b:Nat} {e:TypeId} {sz:Nat} {d:AV} {es es2:List AV} (d2:AV) (hw:c2.w=c.w) (hH:c.H b=some (.row e sz d es)) (hM:∀blk o z,c.ρ b=some (blk,o,z)→¬c2.M blk) (h:dI c c2 es es2):dZ c c2 (.sl b es.length) (.im sz d2 es2):=by
 have hl:=h.length
 intro v hv
 rw[VR] at hv
 obtain⟨_,a,cap,rfl,hr⟩:=hv
 obtain⟨_,hr⟩:=hr _ _ _ _ hH
 obtain⟨_,hz,hrow⟩:=hS.kz b _ _ _ _ hH (s9 (hr rfl))
 rw[VR]
 rcases hr rfl with⟨hρ,rfl,rfl⟩|⟨blk,o,z,hρ,rfl,hc1,_,_⟩
 ·rcases hrow with⟨_,rfl⟩|⟨_,_,_,hρ',_⟩
  ·have:es2=[]:=List.eq_nil_of_length_eq_zero (by simpa using hl.symm)
   subst this
   exact⟨none,0,rfl,by simp, .inl rfl⟩
  ·rw[hρ] at hρ';cases hρ'
 ·rcases hrow with⟨hρ',_⟩|⟨blk1,o1,z1,hρ1,_,_,_,hrow⟩
  ·rw[hρ] at hρ';cases hρ'
  ·rw[hρ] at hρ1;cases hρ1
   exact⟨_,cap,by rw[←hl],by rw[←hl];exact hc1, .inr ⟨blk,o,rfl,hz,hM _ _ _ hρ,h.row hw hrow⟩⟩
theorem dZ.nY {w0:World} {c c2:Cx} {G:Hp} (hS:dn w0 c) (hw:c2.w=c.w) (hle:c.le c2) (hG:∀b q,bn G b=some q→c.H b=some q∧∀blk o z,c.ρ b=some (blk,o,z)→¬c2.M blk):∀(k:Nat) (a:AV),dZ c c2 a (nY G k a):=by
 intro k
 induction k with
 |zero=>intro a;rw[Go.cZ.nY];exact dZ.cS hle a
 |succ k ih=>
  intro a
  cases a<;>rw[Go.cZ.nY]<;>simp only[LI]<;>try exact dZ.cS hle _
  case sl b len=>
   cases hb:bn G b with
   |none=>simp only;exact dZ.cS hle _
   |some q=>
    obtain⟨e,sz,d,es⟩:=q
    simp only
    split
    ·rename_i hl
     obtain⟨g1,g2⟩:=hG b _ hb
     rw[←hl]
     exact dZ.QO hS .any hw g1 g2 (dI.sU _ ih es)
    ·exact dZ.cS hle _
  case agg cs=>exact dZ.agg (dI.sU _ ih cs)
  case dV cs=>exact dZ.dV (dI.sU _ ih cs)
def ma (G H:Hp):Hp:=G.map (fun p=>(p.1,none))++H
theorem tZ (H:Hp):ma [] H=H:=rfl
theorem k7 (b:Nat) (q:Option eV) (G H:Hp):ma ((b,q)::G) H=(b,none)::ma G H:=rfl
theorem gD {H:Hp} {b:Nat}:∀{G:Hp},b∈G.map (·.1)→bn (ma G H) b=none
 |(x,q)::G,h=>by
  rw[k7]
  by_cases hb:b=x
  ·subst hb;exact cO _ _ _
  ·rw[cG hb]
   exact gD (by simpa[hb] using h)
theorem gS {H:Hp} {b:Nat}:∀{G:Hp},b∉G.map (·.1)→bn (ma G H) b=bn H b
 |[],_=>rfl
 |(x,q)::G,h=>by
  simp only[List.map_cons,List.mem_cons,not_or] at h
  rw[k7,cG h.1,gS h.2]
theorem ny {b:Nat} {q:eV}:∀{G:Hp},bn G b=some q→b∈G.map (·.1)
 |(x,p)::G,h=>by
  by_cases hb:b=x
  ·simp[hb]
  ·rw[cG hb] at h
   simp only[List.map_cons,List.mem_cons]
   exact .inr (ny h)
theorem Wk.OU {r:AV} {H:Hp} {nx:Nat} (G:Hp) (k:Nat) (hG:∀b q,bn G b=some q→bn H b=some q):Wk r H nx (nY G k r) (ma G H) nx:=by
 refine Wk.tell (Nat.le_refl _) (fun b e sz d es he=> ?_) (fun w0 c c2 hS hU hc hc2 hw hle hnew hM=>⟨?_,fun b e sz d es d0 es0 h1 h2=> ?_⟩)
 ·by_cases hb:b∈G.map (·.1)
  ·rw[gD hb] at he;cases he
  ·rw[gS hb] at he
   exact .inl ⟨d,es,he,rfl⟩
 ·refine dZ.nY hS hw hle (fun b q hq=> ?_) k r
  have h1:=hG b q hq
  exact⟨by rw[hc];exact h1,fun blk o z hρ=>hM b q blk o z h1 (gD (ny hq)) hρ⟩
 ·by_cases hb:b∈G.map (·.1)
  ·rw[gD hb] at h1;cases h1
  ·rw[gS hb] at h1
   rw[h1] at h2;cases h2
   exact dI.cS hle _
theorem Wk.nY {H:Hp} {nx cb:Nat} {e:TypeId} {sz:Nat} {d:AV} {es:List AV} (G:Hp) (k:Nat) (d2:AV) (hcb:bn H cb=some (.row e sz d es)) (hG:∀b q,bn G b=some q→bn H b=some q):Wk .any H nx .any (ma G ((cb,some (.row e sz d2 (es.map (nY G k))))::H)) nx:=by
 refine Wk.tell (Nat.le_refl _) (fun b e' sz' d' es' he=> ?_) (fun w0 c c2 hS hU hc hc2 hw hle hnew hM=>⟨dZ.any _ _ _,fun b e' sz' d' es' d0 es0 h1 h2=> ?_⟩)
 ·by_cases hb:b∈G.map (·.1)
  ·rw[gD hb] at he;cases he
  ·rw[gS hb] at he
   by_cases hbc:b=cb
   ·subst hbc
    rw[cO] at he
    cases he
    exact .inl ⟨d,es,hcb,by simp⟩
   ·rw[cG hbc] at he
    exact .inl ⟨d',es',he,rfl⟩
 ·by_cases hb:b∈G.map (·.1)
  ·rw[gD hb] at h1;cases h1
  ·rw[gS hb] at h1
   by_cases hbc:b=cb
   ·subst hbc
    rw[cO] at h1
    rw[hcb] at h2
    cases h1;cases h2
    exact dI.sU _ (dZ.nY hS hw hle (fun b q hq=>by
     have h1:=hG b q hq
     exact⟨by rw[hc];exact h1,fun blk o z hρ=>hM b q blk o z h1 (gD (ny hq)) hρ⟩) k) _
   ·rw[cG hbc] at h1
    rw[h1] at h2;cases h2
    exact dI.cS hle _
theorem rG (G:Hp) (k:Nat) (v:Value):nY G k (.sc v)= .sc v:=by cases k<;>rfl
theorem nG {G:Hp} {k b len:Nat} {e:TypeId} {sz:Nat} {d:AV} {es:List AV} (h:bn G b=some (.row e sz d es)) (hl:es.length=len):nY G (k+1) (.sl b len)= .im sz .any (es.map (nY G k)):=by
 rw[nY,LI,h];simp only;rw[if_pos hl]
theorem oF (G:Hp) (l:List AV):l.map (Go.cZ.nY G 0)=l:=by
 have e:nY G 0=id:=by funext a;rfl
 rw[e,List.map_id]
structure vS (str:Bool) {κ:Type} [DecidableEq κ] (kf:κ→Value):Prop where
 eq:∀a b,NQ str (kf a) (kf b)=some (decide (a=b))
theorem GW:vS false (fun n:Int=>Value.int .i64 n):=⟨fun a b=>by simp[NQ]⟩
theorem ug:vS true (fun s:ByteArray=>Value.string s):=⟨fun a b=>by
 simp only[NQ,Option.some.injEq]
 obtain⟨a⟩:=a
 obtain⟨b⟩:=b
 show(a==b)=_
 rw[Bool.eq_iff_iff]
 simp⟩
section
variable {κ β:Type} [DecidableEq κ]
def pI (kf:κ→Value) (vf:β→AV) (E:List (κ×β)):List AV:=E.map fun p=>yQ (kf p.1) (vf p.2)
def ef:List (κ×β)→κ→Option β
 |[],_=>none
 |p::E,k=>if k=p.1 then some p.2 else ef E k
def ej:List (κ×β)→κ→β→List (κ×β)
 |[],k,v=>[(k,v)]
 |p::E,k,v=>if k=p.1 then(k,v)::E else p::ej E k v
def K0:List (κ×β)→κ→List (κ×β)
 |[],_=>[]
 |p::E,k=>if k=p.1 then E else p::K0 E k
theorem uq {str:Bool} {kf:κ→Value} (hk:vS str kf) (vf:β→AV) (k:κ) (v:β):∀(E:List (κ×β)) (i:Nat),
 (hP str (kf k) (pI kf vf E) i=some none∧ef E k=none∧ej E k v=E++[(k,v)]∧K0 E k=E)∨
 ∃j v0,hP str (kf k) (pI kf vf E) i=some (some (i+j,vf v0))∧ef E k=some v0∧ej E k v=E.set j (k,v)∧K0 E k=E.eraseIdx j
 |[],i=> .inl ⟨rfl,rfl,rfl,rfl⟩
 |p::E,i=>by
  have e:hP str (kf k) (pI kf vf (p::E)) i=if k=p.1 then some (some (i,vf p.2)) else hP str (kf k) (pI kf vf E) (i+1):=by
   simp only[pI,List.map_cons,hP,yQ,K4,hk.eq]
   by_cases h:k=p.1<;>simp[h]
  rw[e,ef,ej,K0]
  by_cases h:k=p.1
  ·simp only[h,if_true]
   exact .inr ⟨0,p.2,by simp,rfl,by simp,by simp⟩
  ·simp only[h,if_false]
   rcases uq hk vf k v E (i+1) with⟨h1,h2,h3,h4⟩|⟨j,v0,h1,h2,h3,h4⟩
   ·exact .inl ⟨h1,h2,by rw[h3];rfl,by rw[h4]⟩
   ·exact .inr ⟨j+1,v0,by rw[h1];congr 3;omega,h2,by rw[h3];rfl,by rw[h4];rfl⟩
theorem zP {str:Bool} {kf:κ→Value} (hk:vS str kf) (vf:β→AV) (k:κ) (E:List (κ×β)) (z:AV):ur str (kf k) (pI kf vf E) z=some ((ef E k).elim z vf,(ef E k).isSome):=by
 unfold ur
 cases E with
 |nil=>rfl
 |cons p E=>
  rcases uq hk vf k p.2 (p::E) 0 with⟨h1,h2,_⟩|⟨j,v0,h1,h2,_⟩<;>rw[h1,h2]<;>rfl
theorem zQ {str:Bool} {kf:κ→Value} (hk:vS str kf) (vf:β→AV) (k:κ) (v:β) (E:List (κ×β)):xc str (kf k) (pI kf vf E) (vf v)=some (pI kf vf (ej E k v)):=by
 unfold xc
 rcases uq hk vf k v E 0 with⟨h1,_,h3,_⟩|⟨j,v0,h1,_,h3,_⟩
 ·rw[h1,h3];simp[pI,yQ]
 ·rw[h1,h3];simp only[pI,Nat.zero_add,List.map_set];rfl
theorem lZ:∀(E:List (κ×β)) (k:κ) (v:β) (k':κ),ef (ej E k v) k'=if k'=k then some v else ef E k'
 |[],k,v,k'=>by simp[ej,ef]
 |p::E,k,v,k'=>by
  rw[ej]
  by_cases h:k=p.1
  ·rw[if_pos h]
   simp only[ef]
   by_cases h2:k'=k
   ·simp[h2]
   ·have h3:¬k'=p.1:=fun e=>h2 (by rw[e,h])
    simp[h2,h3]
  ·rw[if_neg h]
   simp only[ef]
   rw[lZ E k v k']
   by_cases h2:k'=p.1
   ·have h3:¬k'=k:=fun e=>h (by rw[←e,h2])
    simp only[h2,if_true,h3,if_false]
    rw[if_neg (fun e=>h e.symm)]
   ·simp[h2]
theorem pF:∀(E:List (κ×β)) (k:κ),ef E k=none↔k∉E.map Prod.fst
 |[],k=>by simp[ef]
 |p::E,k=>by
  rw[ef]
  by_cases h:k=p.1
  ·simp[h]
  ·simp[h,pF E k]
end
end Go.cZ
end
