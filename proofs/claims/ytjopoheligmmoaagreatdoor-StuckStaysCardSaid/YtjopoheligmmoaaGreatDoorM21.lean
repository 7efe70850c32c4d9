import Derived.Test.YtjopoheligmmoaaGreatDoorM19
namespace Go.cp
open Go.RowKit
set_option linter.unusedSimpArgs false
set_option linter.unusedVariables false
def LR (f:AV->AV) (G:Hp):AV->AV
 | .sl b len=>match bw G b with
  |some (.row _ sz _ es)=>if es.length=len then .im sz .any (es.map f) else .sl b len
  |none=> .sl b len
 | .agg cs=> .agg (cs.map f)
 | .dO cs=> .dO (cs.map f)
 |a=>a
def tM (G:Hp):Nat->AV->AV
 |0,a=>a
 |k+1,a=>LR (tM G k) G a
theorem dK.tQ {c c2:Cx} (f:AV->AV) (h:∀a,dN c c2 a (f a)):∀l:List AV,dK c c2 l (l.map f)
 |[]=> .nil
 |a::l=> .cons (h a) (dK.tQ f h l)
theorem dN.Q2 {w0:World} {c c2:Cx} (hS:dY w0 c) {b:Nat} {e:TypeId} {sz:Nat} {d:AV} {es es2:List AV} (d2:AV) (hw:c2.w=c.w) (hH:c.H b=some (.row e sz d es)) (hM:∀blk o z,c.ρ b=some (blk,o,z)->¬c2.M blk) (h:dK c c2 es es2):dN c c2 (.sl b es.length) (.im sz d2 es2):=by
 have hl:=h.length
 intro v hv
 rw[VR] at hv
 obtain⟨_,a,cap,rfl,hr⟩:=hv
 obtain⟨_,hr⟩:=hr _ _ _ _ hH
 obtain⟨_,hz,hrow⟩:=hS.jU b _ _ _ _ hH (sh (hr rfl))
 rw[VR]
 rcases hr rfl with⟨hρ,rfl,rfl⟩|⟨blk,o,z,hρ,rfl,hc1,_,_⟩
 ·rcases hrow with⟨_,rfl⟩|⟨_,_,_,hρ',_⟩
  ·have:es2=[]:=List.eq_nil_of_length_eq_zero (by simpa using hl.symm)
   subst this
   exact⟨none,0,rfl,by simp, .inl rfl⟩
  ·rw[hρ] at hρ';cases hρ'
 ·rcases hrow with⟨hρ',_⟩|⟨blk1,o1,z1,hρ1,_,_,_,hrow⟩
  ·rw[hρ] at hρ';cases hρ'
  ·rw[hρ] at hρ1;cases hρ1
   exact⟨_,cap,by rw[<-hl],by rw[<-hl];exact hc1, .inr ⟨blk,o,rfl,hz,hM _ _ _ hρ,h.row hw hrow⟩⟩
theorem dN.tM {w0:World} {c c2:Cx} {G:Hp} (hS:dY w0 c) (hw:c2.w=c.w) (hle:c.le c2) (hG:∀b q,bw G b=some q->c.H b=some q/\∀blk o z,c.ρ b=some (blk,o,z)->¬c2.M blk):∀(k:Nat) (a:AV),dN c c2 a (tM G k a):=by
 intro k
 induction k with
 |zero=>intro a;rw[Go.cp.tM];exact dN.cT hle a
 |succ k ih=>
  intro a
  cases a<;>rw[Go.cp.tM]<;>simp only[LR]<;>try exact dN.cT hle _
  case sl b len=>
   cases hb:bw G b with
   |none=>simp only;exact dN.cT hle _
   |some q=>
    obtain⟨e,sz,d,es⟩:=q
    simp only
    split
    ·rename_i hl
     obtain⟨g1,g2⟩:=hG b _ hb
     rw[<-hl]
     exact dN.Q2 hS .any hw g1 g2 (dK.tQ _ ih es)
    ·exact dN.cT hle _
  case agg cs=>exact dN.agg (dK.tQ _ ih cs)
  case dO cs=>exact dN.dO (dK.tQ _ ih cs)
def lO (G H:Hp):Hp:=G.map (fun p=>(p.1,none))++H
theorem D6 (H:Hp):lO [] H=H:=rfl
theorem nX (b:Nat) (q:Option e8) (G H:Hp):lO ((b,q)::G) H=(b,none)::lO G H:=rfl
theorem fJ {H:Hp} {b:Nat}:∀{G:Hp},b∈G.map (·.1)->bw (lO G H) b=none
 |(x,q)::G,h=>by
  rw[nX]
  by_cases hb:b=x
  ·subst hb;exact ct _ _ _
  ·rw[cZ hb]
   exact fJ (by simpa[hb] using h)
theorem fU {H:Hp} {b:Nat}:∀{G:Hp},b∉G.map (·.1)->bw (lO G H) b=bw H b
 |[],_=>rfl
 |(x,q)::G,h=>by
  simp only[List.map_cons,List.mem_cons,not_or] at h
  rw[nX,cZ h.1,fU h.2]
theorem mZ {b:Nat} {q:e8}:∀{G:Hp},bw G b=some q->b∈G.map (·.1)
 |(x,p)::G,h=>by
  by_cases hb:b=x
  ·simp[hb]
  ·rw[cZ hb] at h
   simp only[List.map_cons,List.mem_cons]
   exact .inr (mZ h)
theorem Wk.QZ {r:AV} {H:Hp} {nx:Nat} (G:Hp) (k:Nat) (hG:∀b q,bw G b=some q->bw H b=some q):Wk r H nx (tM G k r) (lO G H) nx:=by
 refine Wk.tell (Nat.le_refl _) (fun b e sz d es he=> ?_) (fun w0 c c2 hS hU hc hc2 hw hle hnew hM=>⟨?_,fun b e sz d es d0 es0 h1 h2=> ?_⟩)
 ·by_cases hb:b∈G.map (·.1)
  ·rw[fJ hb] at he;cases he
  ·rw[fU hb] at he
   exact .inl ⟨d,es,he,rfl⟩
 ·refine dN.tM hS hw hle (fun b q hq=> ?_) k r
  have h1:=hG b q hq
  exact⟨by rw[hc];exact h1,fun blk o z hρ=>hM b q blk o z h1 (fJ (mZ hq)) hρ⟩
 ·by_cases hb:b∈G.map (·.1)
  ·rw[fJ hb] at h1;cases h1
  ·rw[fU hb] at h1
   rw[h1] at h2;cases h2
   exact dK.cT hle _
theorem Wk.tM {H:Hp} {nx cb:Nat} {e:TypeId} {sz:Nat} {d:AV} {es:List AV} (G:Hp) (k:Nat) (d2:AV) (hcb:bw H cb=some (.row e sz d es)) (hG:∀b q,bw G b=some q->bw H b=some q):Wk .any H nx .any (lO G ((cb,some (.row e sz d2 (es.map (tM G k))))::H)) nx:=by
 refine Wk.tell (Nat.le_refl _) (fun b e' sz' d' es' he=> ?_) (fun w0 c c2 hS hU hc hc2 hw hle hnew hM=>⟨dN.any _ _ _,fun b e' sz' d' es' d0 es0 h1 h2=> ?_⟩)
 ·by_cases hb:b∈G.map (·.1)
  ·rw[fJ hb] at he;cases he
  ·rw[fU hb] at he
   by_cases hbc:b=cb
   ·subst hbc
    rw[ct] at he
    cases he
    exact .inl ⟨d,es,hcb,by simp⟩
   ·rw[cZ hbc] at he
    exact .inl ⟨d',es',he,rfl⟩
 ·by_cases hb:b∈G.map (·.1)
  ·rw[fJ hb] at h1;cases h1
  ·rw[fU hb] at h1
   by_cases hbc:b=cb
   ·subst hbc
    rw[ct] at h1
    rw[hcb] at h2
    cases h1;cases h2
    exact dK.tQ _ (dN.tM hS hw hle (fun b q hq=>by
     have h1:=hG b q hq
     exact⟨by rw[hc];exact h1,fun blk o z hρ=>hM b q blk o z h1 (fJ (mZ hq)) hρ⟩) k) _
   ·rw[cZ hbc] at h1
    rw[h1] at h2;cases h2
    exact dK.cT hle _
theorem IP {G:Hp} {k b len:Nat} {e:TypeId} {sz:Nat} {d:AV} {es:List AV} (h:bw G b=some (.row e sz d es)) (hl:es.length=len):tM G (k+1) (.sl b len)= .im sz .any (es.map (tM G k)):=by
 rw[tM,LR,h];simp only;rw[if_pos hl]
theorem sI (G:Hp) (l:List AV):l.map (Go.cp.tM G 0)=l:=by
 have e:tM G 0=id:=by funext a;rfl
 rw[e,List.map_id]
structure wV (str:Bool) {κ:Type} [DecidableEq κ] (kf:κ->Value):Prop where
 eq:∀a b,zk str (kf a) (kf b)=some (decide (a=b))
theorem IT:wV false (fun n:Int=>Value.int .i64 n):=⟨fun a b=>by simp[zk]⟩
theorem vk:wV true (fun s:ByteArray=>Value.string s):=⟨fun a b=>by
 simp only[zk,Option.some.injEq]
 obtain⟨a⟩:=a
 obtain⟨b⟩:=b
 show(a==b)=_
 rw[Bool.eq_iff_iff]
 simp⟩
section
variable {κ β:Type} [DecidableEq κ]
def py (kf:κ->Value) (vf:β->AV) (E:List (κ×β)):List AV:=E.map fun p=>mz (kf p.1) (vf p.2)
def ef:List (κ×β)->κ->Option β
 |[],_=>none
 |p::E,k=>if k=p.1 then some p.2 else ef E k
def ic:List (κ×β)->κ->β->List (κ×β)
 |[],k,v=>[(k,v)]
 |p::E,k,v=>if k=p.1 then(k,v)::E else p::ic E k v
def K8:List (κ×β)->κ->List (κ×β)
 |[],_=>[]
 |p::E,k=>if k=p.1 then E else p::K8 E k
theorem vt {str:Bool} {kf:κ->Value} (hk:wV str kf) (vf:β->AV) (k:κ) (v:β):∀(E:List (κ×β)) (i:Nat),
 (eZ str (kf k) (py kf vf E) i=some none/\ef E k=none/\ic E k v=E++[(k,v)]/\K8 E k=E)\/
 ∃j v0,eZ str (kf k) (py kf vf E) i=some (some (i+j,vf v0))/\ef E k=some v0/\ic E k v=E.set j (k,v)/\K8 E k=E.eraseIdx j
 |[],i=> .inl ⟨rfl,rfl,rfl,rfl⟩
 |p::E,i=>by
  have e:eZ str (kf k) (py kf vf (p::E)) i=if k=p.1 then some (some (i,vf p.2)) else eZ str (kf k) (py kf vf E) (i+1):=by
   simp only[py,List.map_cons,eZ,mz,rl,hk.eq]
   by_cases h:k=p.1<;>simp[h]
  rw[e,ef,ic,K8]
  by_cases h:k=p.1
  ·simp only[h,if_true]
   exact .inr ⟨0,p.2,by simp,rfl,by simp,by simp⟩
  ·simp only[h,if_false]
   rcases vt hk vf k v E (i+1) with⟨h1,h2,h3,h4⟩|⟨j,v0,h1,h2,h3,h4⟩
   ·exact .inl ⟨h1,h2,by rw[h3];rfl,by rw[h4]⟩
   ·exact .inr ⟨j+1,v0,by rw[h1];congr 3;omega,h2,by rw[h3];rfl,by rw[h4];rfl⟩
theorem zt {str:Bool} {kf:κ->Value} (hk:wV str kf) (vf:β->AV) (k:κ) (E:List (κ×β)) (z:AV):mA str (kf k) (py kf vf E) z=some ((ef E k).elim z vf,(ef E k).isSome):=by
 unfold mA
 cases E with
 |nil=>rfl
 |cons p E=>
  rcases vt hk vf k p.2 (p::E) 0 with⟨h1,h2,_⟩|⟨j,v0,h1,h2,_⟩<;>rw[h1,h2]<;>rfl
theorem zu {str:Bool} {kf:κ->Value} (hk:wV str kf) (vf:β->AV) (k:κ) (v:β) (E:List (κ×β)):oc str (kf k) (py kf vf E) (vf v)=some (py kf vf (ic E k v)):=by
 unfold oc
 rcases vt hk vf k v E 0 with⟨h1,_,h3,_⟩|⟨j,v0,h1,_,h3,_⟩
 ·rw[h1,h3];simp[py,mz]
 ·rw[h1,h3];simp only[py,Nat.zero_add,List.map_set];rfl
theorem ly:∀(E:List (κ×β)) (k:κ) (v:β) (k':κ),ef (ic E k v) k'=if k'=k then some v else ef E k'
 |[],k,v,k'=>by simp[ic,ef]
 |p::E,k,v,k'=>by
  rw[ic]
  by_cases h:k=p.1
  ·rw[if_pos h]
   simp only[ef]
   by_cases h2:k'=k
   ·simp[h2]
   ·have h3:¬k'=p.1:=fun e=>h2 (by rw[e,h])
    simp[h2,h3]
  ·rw[if_neg h]
   simp only[ef]
   rw[ly E k v k']
   by_cases h2:k'=p.1
   ·have h3:¬k'=k:=fun e=>h (by rw[<-e,h2])
    simp only[h2,if_true,h3,if_false]
    rw[if_neg (fun e=>h e.symm)]
   ·simp[h2]
theorem pk:∀(E:List (κ×β)) (k:κ),ef E k=none↔k∉E.map Prod.fst
 |[],k=>by simp[ef]
 |p::E,k=>by
  rw[ef]
  by_cases h:k=p.1
  ·simp[h]
  ·simp[h,pk E k]
end
end Go.cp
