import Derived.Test.YtekfmjjmihomlaaGreatM18
section
/- Rows that are written no more, told as what is held by value. -/
namespace Go.cO
open Go.RowKit
set_option linter.unusedSimpArgs false
set_option linter.unusedVariables false
def FP (f:AV→AV) (G:Hp):AV→AV
 | .sl b len=>match bd G b with
  |some (.row _ sz _ es)=>if es.length=len then .im sz .any (es.map f) else .sl b len
  |none=> .sl b len
 | .agg cs=> .agg (cs.map f)
 | .dc cs=> .dc (cs.map f)
 |a=>a
def pz (G:Hp):Nat→AV→AV
 |0,a=>a
 |k+1,a=>FP (pz G k) G a
theorem cm.qA {c c2:Cx} (f:AV→AV) (h:∀a,dA c c2 a (f a)):∀l:List AV,cm c c2 l (l.map f)
 |[]=> .nil
 |a::l=> .cons (h a) (cm.qA f h l)
theorem dA.K7 {w0:World} {c c2:Cx} (hS:dE w0 c) {b:Nat} {e:TypeId} {sz:Nat} {d:AV} {es es2:List AV} (d2:AV) (hw:c2.w=c.w) (hH:c.H b=some (.row e sz d es)) (hM:∀blk o z,c.ρ b=some (blk,o,z)→¬c2.M blk) (h:cm c c2 es es2):dA c c2 (.sl b es.length) (.im sz d2 es2):=by
 have hl:=h.length
 intro v hv
 rw[VR] at hv
 obtain⟨_,a,cap,rfl,hr⟩:=hv
 obtain⟨_,hr⟩:=hr _ _ _ _ hH
 obtain⟨_,hz,hrow⟩:=hS.je b _ _ _ _ hH (sV (hr rfl))
 rw[VR]
 rcases hr rfl with⟨hρ,rfl,rfl⟩|⟨blk,o,z,hρ,rfl,hc1,_,_⟩
 ·rcases hrow with⟨_,rfl⟩|⟨_,_,_,hρ',_⟩
  ·have:es2=[]:=List.eq_nil_of_length_eq_zero (by simpa using hl.symm)
   subst this
   exact⟨none,0,rfl,by simp, .inl rfl⟩
  ·rw[hρ] at hρ';cases hρ'
 ·rcases hrow with⟨hρ',_⟩|⟨blk1,o1,z1,hρ1,_,_,_,hrow⟩
  ·rw[hρ] at hρ';cases hρ'
  ·rw[hρ] at hρ1;cases hρ1
   exact⟨_,cap,by rw[←hl],by rw[←hl];exact hc1, .inr ⟨blk,o,rfl,hz,hM _ _ _ hρ,h.row hw hrow⟩⟩
theorem dA.pz {w0:World} {c c2:Cx} {G:Hp} (hS:dE w0 c) (hw:c2.w=c.w) (hle:c.le c2) (hG:∀b q,bd G b=some q→c.H b=some q∧∀blk o z,c.ρ b=some (blk,o,z)→¬c2.M blk):∀(k:Nat) (a:AV),dA c c2 a (pz G k a):=by
 intro k
 induction k with
 |zero=>intro a;rw[Go.cO.pz];exact dA.cE hle a
 |succ k ih=>
  intro a
  cases a<;>rw[Go.cO.pz]<;>simp only[FP]<;>try exact dA.cE hle _
  case sl b len=>
   cases hb:bd G b with
   |none=>simp only;exact dA.cE hle _
   |some q=>
    obtain⟨e,sz,d,es⟩:=q
    simp only
    split
    ·rename_i hl
     obtain⟨g1,g2⟩:=hG b _ hb
     rw[←hl]
     exact dA.K7 hS .any hw g1 g2 (cm.qA _ ih es)
    ·exact dA.cE hle _
  case agg cs=>exact dA.agg (cm.qA _ ih cs)
  case dc cs=>exact dA.dc (cm.qA _ ih cs)
def j8 (G H:Hp):Hp:=G.map (fun p=>(p.1,none))++H
theorem zW (H:Hp):j8 [] H=H:=rfl
theorem lI (b:Nat) (q:Option dv) (G H:Hp):j8 ((b,q)::G) H=(b,none)::j8 G H:=rfl
theorem eN {H:Hp} {b:Nat}:∀{G:Hp},b∈G.map (·.1)→bd (j8 G H) b=none
 |(x,q)::G,h=>by
  rw[lI]
  by_cases hb:b=x
  ·subst hb;exact cV _ _ _
  ·rw[cF hb]
   exact eN (by simpa[hb] using h)
theorem ec {H:Hp} {b:Nat}:∀{G:Hp},b∉G.map (·.1)→bd (j8 G H) b=bd H b
 |[],_=>rfl
 |(x,q)::G,h=>by
  simp only[List.map_cons,List.mem_cons,not_or] at h
  rw[lI,cF h.1,ec h.2]
theorem kT {b:Nat} {q:dv}:∀{G:Hp},bd G b=some q→b∈G.map (·.1)
 |(x,p)::G,h=>by
  by_cases hb:b=x
  ·simp[hb]
  ·rw[cF hb] at h
   simp only[List.map_cons,List.mem_cons]
   exact .inr (kT h)
theorem Wk.K3 {r:AV} {H:Hp} {nx:Nat} (G:Hp) (k:Nat) (hG:∀b q,bd G b=some q→bd H b=some q):Wk r H nx (pz G k r) (j8 G H) nx:=by
 refine Wk.tell (Nat.le_refl _) (fun b e sz d es he=> ?_) (fun w0 c c2 hS hU hc hc2 hw hle hnew hM=>⟨?_,fun b e sz d es d0 es0 h1 h2=> ?_⟩)
 ·by_cases hb:b∈G.map (·.1)
  ·rw[eN hb] at he;cases he
  ·rw[ec hb] at he
   exact .inl ⟨d,es,he,rfl⟩
 ·refine dA.pz hS hw hle (fun b q hq=> ?_) k r
  have h1:=hG b q hq
  exact⟨by rw[hc];exact h1,fun blk o z hρ=>hM b q blk o z h1 (eN (kT hq)) hρ⟩
 ·by_cases hb:b∈G.map (·.1)
  ·rw[eN hb] at h1;cases h1
  ·rw[ec hb] at h1
   rw[h1] at h2;cases h2
   exact cm.cE hle _
theorem Wk.pz {H:Hp} {nx cb:Nat} {e:TypeId} {sz:Nat} {d:AV} {es:List AV} (G:Hp) (k:Nat) (d2:AV) (hcb:bd H cb=some (.row e sz d es)) (hG:∀b q,bd G b=some q→bd H b=some q):Wk .any H nx .any (j8 G ((cb,some (.row e sz d2 (es.map (pz G k))))::H)) nx:=by
 refine Wk.tell (Nat.le_refl _) (fun b e' sz' d' es' he=> ?_) (fun w0 c c2 hS hU hc hc2 hw hle hnew hM=>⟨dA.any _ _ _,fun b e' sz' d' es' d0 es0 h1 h2=> ?_⟩)
 ·by_cases hb:b∈G.map (·.1)
  ·rw[eN hb] at he;cases he
  ·rw[ec hb] at he
   by_cases hbc:b=cb
   ·subst hbc
    rw[cV] at he
    cases he
    exact .inl ⟨d,es,hcb,by simp⟩
   ·rw[cF hbc] at he
    exact .inl ⟨d',es',he,rfl⟩
 ·by_cases hb:b∈G.map (·.1)
  ·rw[eN hb] at h1;cases h1
  ·rw[ec hb] at h1
   by_cases hbc:b=cb
   ·subst hbc
    rw[cV] at h1
    rw[hcb] at h2
    cases h1;cases h2
    exact cm.qA _ (dA.pz hS hw hle (fun b q hq=>by
     have h1:=hG b q hq
     exact⟨by rw[hc];exact h1,fun blk o z hρ=>hM b q blk o z h1 (eN (kT hq)) hρ⟩) k) _
   ·rw[cF hbc] at h1
    rw[h1] at h2;cases h2
    exact cm.cE hle _
theorem CA {G:Hp} {k b len:Nat} {e:TypeId} {sz:Nat} {d:AV} {es:List AV} (h:bd G b=some (.row e sz d es)) (hl:es.length=len):pz G (k+1) (.sl b len)= .im sz .any (es.map (pz G k)):=by
 rw[pz,FP,h];simp only;rw[if_pos hl]
theorem pC (G:Hp) (l:List AV):l.map (Go.cO.pz G 0)=l:=by
 have e:pz G 0=id:=by funext a;rfl
 rw[e,List.map_id]
structure s9 (str:Bool) {κ:Type} [DecidableEq κ] (kf:κ→Value):Prop where
 eq:∀a b,IH str (kf a) (kf b)=some (decide (a=b))
theorem CD:s9 false (fun n:Int=>Value.int .i64 n):=⟨fun a b=>by simp[IH]⟩
theorem sA:s9 true (fun s:ByteArray=>Value.string s):=⟨fun a b=>by
 simp only[IH,Option.some.injEq]
 obtain⟨a⟩:=a
 obtain⟨b⟩:=b
 show(a==b)=_
 rw[Bool.eq_iff_iff]
 simp⟩
section
variable {κ β:Type} [DecidableEq κ]
def nF (kf:κ→Value) (vf:β→AV) (E:List (κ×β)):List AV:=E.map fun p=>vU (kf p.1) (vf p.2)
def eA:List (κ×β)→κ→Option β
 |[],_=>none
 |p::E,k=>if k=p.1 then some p.2 else eA E k
def gT:List (κ×β)→κ→β→List (κ×β)
 |[],k,v=>[(k,v)]
 |p::E,k,v=>if k=p.1 then(k,v)::E else p::gT E k v
def FD:List (κ×β)→κ→List (κ×β)
 |[],_=>[]
 |p::E,k=>if k=p.1 then E else p::FD E k
theorem sG {str:Bool} {kf:κ→Value} (hk:s9 str kf) (vf:β→AV) (k:κ) (v:β):∀(E:List (κ×β)) (i:Nat),
 (ff str (kf k) (nF kf vf E) i=some none∧eA E k=none∧gT E k v=E++[(k,v)]∧FD E k=E)∨
 ∃j v0,ff str (kf k) (nF kf vf E) i=some (some (i+j,vf v0))∧eA E k=some v0∧gT E k v=E.set j (k,v)∧FD E k=E.eraseIdx j
 |[],i=> .inl ⟨rfl,rfl,rfl,rfl⟩
 |p::E,i=>by
  have e:ff str (kf k) (nF kf vf (p::E)) i=if k=p.1 then some (some (i,vf p.2)) else ff str (kf k) (nF kf vf E) (i+1):=by
   simp only[nF,List.map_cons,ff,vU,FH,hk.eq]
   by_cases h:k=p.1<;>simp[h]
  rw[e,eA,gT,FD]
  by_cases h:k=p.1
  ·simp only[h,if_true]
   exact .inr ⟨0,p.2,by simp,rfl,by simp,by simp⟩
  ·simp only[h,if_false]
   rcases sG hk vf k v E (i+1) with⟨h1,h2,h3,h4⟩|⟨j,v0,h1,h2,h3,h4⟩
   ·exact .inl ⟨h1,h2,by rw[h3];rfl,by rw[h4]⟩
   ·exact .inr ⟨j+1,v0,by rw[h1];congr 3;omega,h2,by rw[h3];rfl,by rw[h4];rfl⟩
theorem wT {str:Bool} {kf:κ→Value} (hk:s9 str kf) (vf:β→AV) (k:κ) (E:List (κ×β)) (z:AV):sH str (kf k) (nF kf vf E) z=some ((eA E k).elim z vf,(eA E k).isSome):=by
 unfold sH
 cases E with
 |nil=>rfl
 |cons p E=>
  rcases sG hk vf k p.2 (p::E) 0 with⟨h1,h2,_⟩|⟨j,v0,h1,h2,_⟩<;>rw[h1,h2]<;>rfl
theorem wU {str:Bool} {kf:κ→Value} (hk:s9 str kf) (vf:β→AV) (k:κ) (v:β) (E:List (κ×β)):ui str (kf k) (nF kf vf E) (vf v)=some (nF kf vf (gT E k v)):=by
 unfold ui
 rcases sG hk vf k v E 0 with⟨h1,_,h3,_⟩|⟨j,v0,h1,_,h3,_⟩
 ·rw[h1,h3];simp[nF,vU]
 ·rw[h1,h3];simp only[nF,Nat.zero_add,List.map_set];rfl
theorem jw:∀(E:List (κ×β)) (k:κ) (v:β) (k':κ),eA (gT E k v) k'=if k'=k then some v else eA E k'
 |[],k,v,k'=>by simp[gT,eA]
 |p::E,k,v,k'=>by
  rw[gT]
  by_cases h:k=p.1
  ·rw[if_pos h]
   simp only[eA]
   by_cases h2:k'=k
   ·simp[h2]
   ·have h3:¬k'=p.1:=fun e=>h2 (by rw[e,h])
    simp[h2,h3]
  ·rw[if_neg h]
   simp only[eA]
   rw[jw E k v k']
   by_cases h2:k'=p.1
   ·have h3:¬k'=k:=fun e=>h (by rw[←e,h2])
    simp only[h2,if_true,h3,if_false]
    rw[if_neg (fun e=>h e.symm)]
   ·simp[h2]
theorem nC:∀(E:List (κ×β)) (k:κ),eA E k=none↔k∉E.map Prod.fst
 |[],k=>by simp[eA]
 |p::E,k=>by
  rw[eA]
  by_cases h:k=p.1
  ·simp[h]
  ·simp[h,nC E k]
end
end Go.cO
end
