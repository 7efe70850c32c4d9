import Derived.Test.YtekfmjjmihomlaaGreatM18
section
/- Rows that are written no more, told as what is held by value. -/
namespace Go.cQ
open Go.RowKit
set_option linter.unusedSimpArgs false
set_option linter.unusedVariables false
def F6 (f:AV→AV) (G:Hp):AV→AV
 | .sl b len=>match bd G b with
  |some (.row _ sz _ es)=>if es.length=len then .im sz .any (es.map f) else .sl b len
  |none=> .sl b len
 | .agg cs=> .agg (cs.map f)
 | .de cs=> .de (cs.map f)
 |a=>a
def pk (G:Hp):Nat→AV→AV
 |0,a=>a
 |k+1,a=>F6 (pk G k) G a
theorem cm.pn {c c2:Cx} (f:AV→AV) (h:∀a,dA c c2 a (f a)):∀l:List AV,cm c c2 l (l.map f)
 |[]=> .nil
 |a::l=> .cons (h a) (cm.pn f h l)
theorem dA.LU {w0:World} {c c2:Cx} (hS:dC w0 c) {b:Nat} {e:TypeId} {sz:Nat} {d:AV} {es es2:List AV} (d2:AV) (hw:c2.w=c.w) (hH:c.H b=some (.row e sz d es)) (hM:∀blk o z,c.ρ b=some (blk,o,z)→¬c2.M blk) (h:cm c c2 es es2):dA c c2 (.sl b es.length) (.im sz d2 es2):=by
 have hl:=h.length
 intro v hv
 rw[VR] at hv
 obtain⟨_,a,cap,rfl,hr⟩:=hv
 obtain⟨_,hr⟩:=hr _ _ _ _ hH
 obtain⟨_,hz,hrow⟩:=hS.jd b _ _ _ _ hH (sW (hr rfl))
 rw[VR]
 rcases hr rfl with⟨hρ,rfl,rfl⟩|⟨blk,o,z,hρ,rfl,hc1,_,_⟩
 ·rcases hrow with⟨_,rfl⟩|⟨_,_,_,hρ',_⟩
  ·have:es2=[]:=List.eq_nil_of_length_eq_zero (by simpa using hl.symm)
   subst this
   exact⟨none,0,rfl,by simp, .inl rfl⟩
  ·rw[hρ] at hρ';cases hρ'
 ·rcases hrow with⟨hρ',_⟩|⟨blk1,o1,z1,hρ1,_,_,_,hrow⟩
  ·rw[hρ] at hρ';cases hρ'
  ·rw[hρ] at hρ1;cases hρ1
   exact⟨_,cap,by rw[←hl],by rw[←hl];exact hc1, .inr ⟨blk,o,rfl,hz,hM _ _ _ hρ,h.row hw hrow⟩⟩
theorem dA.pk {w0:World} {c c2:Cx} {G:Hp} (hS:dC w0 c) (hw:c2.w=c.w) (hle:c.le c2) (hG:∀b q,bd G b=some q→c.H b=some q∧∀blk o z,c.ρ b=some (blk,o,z)→¬c2.M blk):∀(k:Nat) (a:AV),dA c c2 a (pk G k a):=by
 intro k
 induction k with
 |zero=>intro a;rw[Go.cQ.pk];exact dA.cE hle a
 |succ k ih=>
  intro a
  cases a<;>rw[Go.cQ.pk]<;>simp only[F6]<;>try exact dA.cE hle _
  case sl b len=>
   cases hb:bd G b with
   |none=>simp only;exact dA.cE hle _
   |some q=>
    obtain⟨e,sz,d,es⟩:=q
    simp only
    split
    ·rename_i hl
     obtain⟨g1,g2⟩:=hG b _ hb
     rw[←hl]
     exact dA.LU hS .any hw g1 g2 (cm.pn _ ih es)
    ·exact dA.cE hle _
  case agg cs=>exact dA.agg (cm.pn _ ih cs)
  case de cs=>exact dA.de (cm.pn _ ih cs)
def j7 (G H:Hp):Hp:=G.map (fun p=>(p.1,none))++H
theorem zf (H:Hp):j7 [] H=H:=rfl
theorem lG (b:Nat) (q:Option dv) (G H:Hp):j7 ((b,q)::G) H=(b,none)::j7 G H:=rfl
theorem eN {H:Hp} {b:Nat}:∀{G:Hp},b∈G.map (·.1)→bd (j7 G H) b=none
 |(x,q)::G,h=>by
  rw[lG]
  by_cases hb:b=x
  ·subst hb;exact cU _ _ _
  ·rw[cF hb]
   exact eN (by simpa[hb] using h)
theorem e9 {H:Hp} {b:Nat}:∀{G:Hp},b∉G.map (·.1)→bd (j7 G H) b=bd H b
 |[],_=>rfl
 |(x,q)::G,h=>by
  simp only[List.map_cons,List.mem_cons,not_or] at h
  rw[lG,cF h.1,e9 h.2]
theorem kR {b:Nat} {q:dv}:∀{G:Hp},bd G b=some q→b∈G.map (·.1)
 |(x,p)::G,h=>by
  by_cases hb:b=x
  ·simp[hb]
  ·rw[cF hb] at h
   simp only[List.map_cons,List.mem_cons]
   exact .inr (kR h)
theorem Wk.LO {r:AV} {H:Hp} {nx:Nat} (G:Hp) (k:Nat) (hG:∀b q,bd G b=some q→bd H b=some q):Wk r H nx (pk G k r) (j7 G H) nx:=by
 refine Wk.tell (Nat.le_refl _) (fun b e sz d es he=> ?_) (fun w0 c c2 hS hU hc hc2 hw hle hnew hM=>⟨?_,fun b e sz d es d0 es0 h1 h2=> ?_⟩)
 ·by_cases hb:b∈G.map (·.1)
  ·rw[eN hb] at he;cases he
  ·rw[e9 hb] at he
   exact .inl ⟨d,es,he,rfl⟩
 ·refine dA.pk hS hw hle (fun b q hq=> ?_) k r
  have h1:=hG b q hq
  exact⟨by rw[hc];exact h1,fun blk o z hρ=>hM b q blk o z h1 (eN (kR hq)) hρ⟩
 ·by_cases hb:b∈G.map (·.1)
  ·rw[eN hb] at h1;cases h1
  ·rw[e9 hb] at h1
   rw[h1] at h2;cases h2
   exact cm.cE hle _
theorem Wk.pk {H:Hp} {nx cb:Nat} {e:TypeId} {sz:Nat} {d:AV} {es:List AV} (G:Hp) (k:Nat) (d2:AV) (hcb:bd H cb=some (.row e sz d es)) (hG:∀b q,bd G b=some q→bd H b=some q):Wk .any H nx .any (j7 G ((cb,some (.row e sz d2 (es.map (pk G k))))::H)) nx:=by
 refine Wk.tell (Nat.le_refl _) (fun b e' sz' d' es' he=> ?_) (fun w0 c c2 hS hU hc hc2 hw hle hnew hM=>⟨dA.any _ _ _,fun b e' sz' d' es' d0 es0 h1 h2=> ?_⟩)
 ·by_cases hb:b∈G.map (·.1)
  ·rw[eN hb] at he;cases he
  ·rw[e9 hb] at he
   by_cases hbc:b=cb
   ·subst hbc
    rw[cU] at he
    cases he
    exact .inl ⟨d,es,hcb,by simp⟩
   ·rw[cF hbc] at he
    exact .inl ⟨d',es',he,rfl⟩
 ·by_cases hb:b∈G.map (·.1)
  ·rw[eN hb] at h1;cases h1
  ·rw[e9 hb] at h1
   by_cases hbc:b=cb
   ·subst hbc
    rw[cU] at h1
    rw[hcb] at h2
    cases h1;cases h2
    exact cm.pn _ (dA.pk hS hw hle (fun b q hq=>by
     have h1:=hG b q hq
     exact⟨by rw[hc];exact h1,fun blk o z hρ=>hM b q blk o z h1 (eN (kR hq)) hρ⟩) k) _
   ·rw[cF hbc] at h1
    rw[h1] at h2;cases h2
    exact cm.cE hle _
theorem CN {G:Hp} {k b len:Nat} {e:TypeId} {sz:Nat} {d:AV} {es:List AV} (h:bd G b=some (.row e sz d es)) (hl:es.length=len):pk G (k+1) (.sl b len)= .im sz .any (es.map (pk G k)):=by
 rw[pk,F6,h];simp only;rw[if_pos hl]
theorem ox (G:Hp) (l:List AV):l.map (Go.cQ.pk G 0)=l:=by
 have e:pk G 0=id:=by funext a;rfl
 rw[e,List.map_id]
structure se (str:Bool) {κ:Type} [DecidableEq κ] (kf:κ→Value):Prop where
 eq:∀a b,IY str (kf a) (kf b)=some (decide (a=b))
theorem CR:se false (fun n:Int=>Value.int .i64 n):=⟨fun a b=>by simp[IY]⟩
theorem sA:se true (fun s:ByteArray=>Value.string s):=⟨fun a b=>by
 simp only[IY,Option.some.injEq]
 obtain⟨a⟩:=a
 obtain⟨b⟩:=b
 show(a==b)=_
 rw[Bool.eq_iff_iff]
 simp⟩
section
variable {κ β:Type} [DecidableEq κ]
def nG (kf:κ→Value) (vf:β→AV) (E:List (κ×β)):List AV:=E.map fun p=>vY (kf p.1) (vf p.2)
def eB:List (κ×β)→κ→Option β
 |[],_=>none
 |p::E,k=>if k=p.1 then some p.2 else eB E k
def gR:List (κ×β)→κ→β→List (κ×β)
 |[],k,v=>[(k,v)]
 |p::E,k,v=>if k=p.1 then(k,v)::E else p::gR E k v
def FV:List (κ×β)→κ→List (κ×β)
 |[],_=>[]
 |p::E,k=>if k=p.1 then E else p::FV E k
theorem sG {str:Bool} {kf:κ→Value} (hk:se str kf) (vf:β→AV) (k:κ) (v:β):∀(E:List (κ×β)) (i:Nat),
 (fe str (kf k) (nG kf vf E) i=some none∧eB E k=none∧gR E k v=E++[(k,v)]∧FV E k=E)∨
 ∃j v0,fe str (kf k) (nG kf vf E) i=some (some (i+j,vf v0))∧eB E k=some v0∧gR E k v=E.set j (k,v)∧FV E k=E.eraseIdx j
 |[],i=> .inl ⟨rfl,rfl,rfl,rfl⟩
 |p::E,i=>by
  have e:fe str (kf k) (nG kf vf (p::E)) i=if k=p.1 then some (some (i,vf p.2)) else fe str (kf k) (nG kf vf E) (i+1):=by
   simp only[nG,List.map_cons,fe,vY,FZ,hk.eq]
   by_cases h:k=p.1<;>simp[h]
  rw[e,eB,gR,FV]
  by_cases h:k=p.1
  ·simp only[h,if_true]
   exact .inr ⟨0,p.2,by simp,rfl,by simp,by simp⟩
  ·simp only[h,if_false]
   rcases sG hk vf k v E (i+1) with⟨h1,h2,h3,h4⟩|⟨j,v0,h1,h2,h3,h4⟩
   ·exact .inl ⟨h1,h2,by rw[h3];rfl,by rw[h4]⟩
   ·exact .inr ⟨j+1,v0,by rw[h1];congr 3;omega,h2,by rw[h3];rfl,by rw[h4];rfl⟩
theorem w5 {str:Bool} {kf:κ→Value} (hk:se str kf) (vf:β→AV) (k:κ) (E:List (κ×β)) (z:AV):sH str (kf k) (nG kf vf E) z=some ((eB E k).elim z vf,(eB E k).isSome):=by
 unfold sH
 cases E with
 |nil=>rfl
 |cons p E=>
  rcases sG hk vf k p.2 (p::E) 0 with⟨h1,h2,_⟩|⟨j,v0,h1,h2,_⟩<;>rw[h1,h2]<;>rfl
theorem w6 {str:Bool} {kf:κ→Value} (hk:se str kf) (vf:β→AV) (k:κ) (v:β) (E:List (κ×β)):uo str (kf k) (nG kf vf E) (vf v)=some (nG kf vf (gR E k v)):=by
 unfold uo
 rcases sG hk vf k v E 0 with⟨h1,_,h3,_⟩|⟨j,v0,h1,_,h3,_⟩
 ·rw[h1,h3];simp[nG,vY]
 ·rw[h1,h3];simp only[nG,Nat.zero_add,List.map_set];rfl
theorem jw:∀(E:List (κ×β)) (k:κ) (v:β) (k':κ),eB (gR E k v) k'=if k'=k then some v else eB E k'
 |[],k,v,k'=>by simp[gR,eB]
 |p::E,k,v,k'=>by
  rw[gR]
  by_cases h:k=p.1
  ·rw[if_pos h]
   simp only[eB]
   by_cases h2:k'=k
   ·simp[h2]
   ·have h3:¬k'=p.1:=fun e=>h2 (by rw[e,h])
    simp[h2,h3]
  ·rw[if_neg h]
   simp only[eB]
   rw[jw E k v k']
   by_cases h2:k'=p.1
   ·have h3:¬k'=k:=fun e=>h (by rw[←e,h2])
    simp only[h2,if_true,h3,if_false]
    rw[if_neg (fun e=>h e.symm)]
   ·simp[h2]
theorem nD:∀(E:List (κ×β)) (k:κ),eB E k=none↔k∉E.map Prod.fst
 |[],k=>by simp[eB]
 |p::E,k=>by
  rw[eB]
  by_cases h:k=p.1
  ·simp[h]
  ·simp[h,nD E k]
end
end Go.cQ
end
