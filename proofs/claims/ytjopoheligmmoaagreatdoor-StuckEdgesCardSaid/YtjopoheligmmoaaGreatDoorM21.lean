import Derived.Test.YtjopoheligmmoaaGreatDoorM19
namespace Go.dA
open Go.RowKit
set_option linter.unusedSimpArgs false
set_option linter.unusedVariables false
def QF (f:AV->AV) (G:Hp):AV->AV
 | .sl b len=>match cC G b with
  |some (.row _ sz _ es)=>if es.length=len then .im sz .any (es.map f) else .sl b len
  |none=> .sl b len
 | .agg cs=> .agg (cs.map f)
 | .dQ cs=> .dQ (cs.map f)
 |a=>a
def pT (G:Hp):Nat->AV->AV
 |0,a=>a
 |k+1,a=>QF (pT G k) G a
theorem dZ.vO {c c2:Cx} (f:AV->AV) (h:∀a,dY c c2 a (f a)):∀l:List AV,dZ c c2 l (l.map f)
 |[]=> .nil
 |a::l=> .cons (h a) (dZ.vO f h l)
theorem dY.V4 {w0:World} {c c2:Cx} (hS:du w0 c) {b:Nat} {e:TypeId} {sz:Nat} {d:AV} {es es2:List AV} (d2:AV) (hw:c2.w=c.w) (hH:c.H b=some (.row e sz d es)) (hM:∀blk o z,c.ρ b=some (blk,o,z)->¬c2.M blk) (h:dZ c c2 es es2):dY c c2 (.sl b es.length) (.im sz d2 es2):=by
 have hl:=h.length
 intro v hv
 rw[VR] at hv
 obtain⟨_,a,cap,rfl,hr⟩:=hv
 obtain⟨_,hr⟩:=hr _ _ _ _ hH
 obtain⟨_,hz,hrow⟩:=hS.jo b _ _ _ _ hH (sa (hr rfl))
 rw[VR]
 rcases hr rfl with⟨hρ,rfl,rfl⟩|⟨blk,o,z,hρ,rfl,hc1,_,_⟩
 ·rcases hrow with⟨_,rfl⟩|⟨_,_,_,hρ',_⟩
  ·have:es2=[]:=List.eq_nil_of_length_eq_zero (by simpa using hl.symm)
   subst this
   exact⟨none,0,rfl,by simp, .inl rfl⟩
  ·rw[hρ] at hρ';cases hρ'
 ·rcases hrow with⟨hρ',_⟩|⟨blk1,o1,z1,hρ1,_,_,_,hrow⟩
  ·rw[hρ] at hρ';cases hρ'
  ·rw[hρ] at hρ1;cases hρ1
   exact⟨_,cap,by rw[<-hl],by rw[<-hl];exact hc1, .inr ⟨blk,o,rfl,hz,hM _ _ _ hρ,h.row hw hrow⟩⟩
theorem dY.pT {w0:World} {c c2:Cx} {G:Hp} (hS:du w0 c) (hw:c2.w=c.w) (hle:c.le c2) (hG:∀b q,cC G b=some q->c.H b=some q/\∀blk o z,c.ρ b=some (blk,o,z)->¬c2.M blk):∀(k:Nat) (a:AV),dY c c2 a (pT G k a):=by
 intro k
 induction k with
 |zero=>intro a;rw[Go.dA.pT];exact dY.cd hle a
 |succ k ih=>
  intro a
  cases a<;>rw[Go.dA.pT]<;>simp only[QF]<;>try exact dY.cd hle _
  case sl b len=>
   cases hb:cC G b with
   |none=>simp only;exact dY.cd hle _
   |some q=>
    obtain⟨e,sz,d,es⟩:=q
    simp only
    split
    ·rename_i hl
     obtain⟨g1,g2⟩:=hG b _ hb
     rw[<-hl]
     exact dY.V4 hS .any hw g1 g2 (dZ.vO _ ih es)
    ·exact dY.cd hle _
  case agg cs=>exact dY.agg (dZ.vO _ ih cs)
  case dQ cs=>exact dY.dQ (dZ.vO _ ih cs)
def mm (G H:Hp):Hp:=G.map (fun p=>(p.1,none))++H
theorem wQ (H:Hp):mm [] H=H:=rfl
theorem mR (b:Nat) (q:Option fD) (G H:Hp):mm ((b,q)::G) H=(b,none)::mm G H:=rfl
theorem fj {H:Hp} {b:Nat}:∀{G:Hp},b∈G.map (·.1)->cC (mm G H) b=none
 |(x,q)::G,h=>by
  rw[mR]
  by_cases hb:b=x
  ·subst hb;exact cx _ _ _
  ·rw[cc hb]
   exact fj (by simpa[hb] using h)
theorem gI {H:Hp} {b:Nat}:∀{G:Hp},b∉G.map (·.1)->cC (mm G H) b=cC H b
 |[],_=>rfl
 |(x,q)::G,h=>by
  simp only[List.map_cons,List.mem_cons,not_or] at h
  rw[mR,cc h.1,gI h.2]
theorem oJ {b:Nat} {q:fD}:∀{G:Hp},cC G b=some q->b∈G.map (·.1)
 |(x,p)::G,h=>by
  by_cases hb:b=x
  ·simp[hb]
  ·rw[cc hb] at h
   simp only[List.map_cons,List.mem_cons]
   exact .inr (oJ h)
theorem Wk.TO {r:AV} {H:Hp} {nx:Nat} (G:Hp) (k:Nat) (hG:∀b q,cC G b=some q->cC H b=some q):Wk r H nx (pT G k r) (mm G H) nx:=by
 refine Wk.tell (Nat.le_refl _) (fun b e sz d es he=> ?_) (fun w0 c c2 hS hU hc hc2 hw hle hnew hM=>⟨?_,fun b e sz d es d0 es0 h1 h2=> ?_⟩)
 ·by_cases hb:b∈G.map (·.1)
  ·rw[fj hb] at he;cases he
  ·rw[gI hb] at he
   exact .inl ⟨d,es,he,rfl⟩
 ·refine dY.pT hS hw hle (fun b q hq=> ?_) k r
  have h1:=hG b q hq
  exact⟨by rw[hc];exact h1,fun blk o z hρ=>hM b q blk o z h1 (fj (oJ hq)) hρ⟩
 ·by_cases hb:b∈G.map (·.1)
  ·rw[fj hb] at h1;cases h1
  ·rw[gI hb] at h1
   rw[h1] at h2;cases h2
   exact dZ.cd hle _
theorem Wk.pT {H:Hp} {nx cb:Nat} {e:TypeId} {sz:Nat} {d:AV} {es:List AV} (G:Hp) (k:Nat) (d2:AV) (hcb:cC H cb=some (.row e sz d es)) (hG:∀b q,cC G b=some q->cC H b=some q):Wk .any H nx .any (mm G ((cb,some (.row e sz d2 (es.map (pT G k))))::H)) nx:=by
 refine Wk.tell (Nat.le_refl _) (fun b e' sz' d' es' he=> ?_) (fun w0 c c2 hS hU hc hc2 hw hle hnew hM=>⟨dY.any _ _ _,fun b e' sz' d' es' d0 es0 h1 h2=> ?_⟩)
 ·by_cases hb:b∈G.map (·.1)
  ·rw[fj hb] at he;cases he
  ·rw[gI hb] at he
   by_cases hbc:b=cb
   ·subst hbc
    rw[cx] at he
    cases he
    exact .inl ⟨d,es,hcb,by simp⟩
   ·rw[cc hbc] at he
    exact .inl ⟨d',es',he,rfl⟩
 ·by_cases hb:b∈G.map (·.1)
  ·rw[fj hb] at h1;cases h1
  ·rw[gI hb] at h1
   by_cases hbc:b=cb
   ·subst hbc
    rw[cx] at h1
    rw[hcb] at h2
    cases h1;cases h2
    exact dZ.vO _ (dY.pT hS hw hle (fun b q hq=>by
     have h1:=hG b q hq
     exact⟨by rw[hc];exact h1,fun blk o z hρ=>hM b q blk o z h1 (fj (oJ hq)) hρ⟩) k) _
   ·rw[cc hbc] at h1
    rw[h1] at h2;cases h2
    exact dZ.cd hle _
theorem uH (G:Hp) (k:Nat) (v:Value):pT G k (.sc v)= .sc v:=by cases k<;>rfl
theorem pU {G:Hp} {k b len:Nat} {e:TypeId} {sz:Nat} {d:AV} {es:List AV} (h:cC G b=some (.row e sz d es)) (hl:es.length=len):pT G (k+1) (.sl b len)= .im sz .any (es.map (pT G k)):=by
 rw[pT,QF,h];simp only;rw[if_pos hl]
theorem qQ (G:Hp) (l:List AV):l.map (Go.dA.pT G 0)=l:=by
 have e:pT G 0=id:=by funext a;rfl
 rw[e,List.map_id]
structure yW (str:Bool) {κ:Type} [DecidableEq κ] (kf:κ->Value):Prop where
 eq:∀a b,DB str (kf a) (kf b)=some (decide (a=b))
theorem ND:yW false (fun n:Int=>Value.int .i64 n):=⟨fun a b=>by simp[DB]⟩
theorem xc:yW true (fun s:ByteArray=>Value.string s):=⟨fun a b=>by
 simp only[DB,Option.some.injEq]
 obtain⟨a⟩:=a
 obtain⟨b⟩:=b
 show(a==b)=_
 rw[Bool.eq_iff_iff]
 simp⟩
section
variable {κ β:Type} [DecidableEq κ]
def rn (kf:κ->Value) (vf:β->AV) (E:List (κ×β)):List AV:=E.map fun p=>oc (kf p.1) (vf p.2)
def fQ:List (κ×β)->κ->Option β
 |[],_=>none
 |p::E,k=>if k=p.1 then some p.2 else fQ E k
def jl:List (κ×β)->κ->β->List (κ×β)
 |[],k,v=>[(k,v)]
 |p::E,k,v=>if k=p.1 then(k,v)::E else p::jl E k v
def P0:List (κ×β)->κ->List (κ×β)
 |[],_=>[]
 |p::E,k=>if k=p.1 then E else p::P0 E k
theorem xl {str:Bool} {kf:κ->Value} (hk:yW str kf) (vf:β->AV) (k:κ) (v:β):∀(E:List (κ×β)) (i:Nat),
 (fJ str (kf k) (rn kf vf E) i=some none/\fQ E k=none/\jl E k v=E++[(k,v)]/\P0 E k=E)\/
 ∃j v0,fJ str (kf k) (rn kf vf E) i=some (some (i+j,vf v0))/\fQ E k=some v0/\jl E k v=E.set j (k,v)/\P0 E k=E.eraseIdx j
 |[],i=> .inl ⟨rfl,rfl,rfl,rfl⟩
 |p::E,i=>by
  have e:fJ str (kf k) (rn kf vf (p::E)) i=if k=p.1 then some (some (i,vf p.2)) else fJ str (kf k) (rn kf vf E) (i+1):=by
   simp only[rn,List.map_cons,fJ,oc,tg,hk.eq]
   by_cases h:k=p.1<;>simp[h]
  rw[e,fQ,jl,P0]
  by_cases h:k=p.1
  ·simp only[h,if_true]
   exact .inr ⟨0,p.2,by simp,rfl,by simp,by simp⟩
  ·simp only[h,if_false]
   rcases xl hk vf k v E (i+1) with⟨h1,h2,h3,h4⟩|⟨j,v0,h1,h2,h3,h4⟩
   ·exact .inl ⟨h1,h2,by rw[h3];rfl,by rw[h4]⟩
   ·exact .inr ⟨j+1,v0,by rw[h1];congr 3;omega,h2,by rw[h3];rfl,by rw[h4];rfl⟩
theorem DK {str:Bool} {kf:κ->Value} (hk:yW str kf) (vf:β->AV) (k:κ) (E:List (κ×β)) (z:AV):nY str (kf k) (rn kf vf E) z=some ((fQ E k).elim z vf,(fQ E k).isSome):=by
 unfold nY
 cases E with
 |nil=>rfl
 |cons p E=>
  rcases xl hk vf k p.2 (p::E) 0 with⟨h1,h2,_⟩|⟨j,v0,h1,h2,_⟩<;>rw[h1,h2]<;>rfl
theorem DL {str:Bool} {kf:κ->Value} (hk:yW str kf) (vf:β->AV) (k:κ) (v:β) (E:List (κ×β)):qW str (kf k) (rn kf vf E) (vf v)=some (rn kf vf (jl E k v)):=by
 unfold qW
 rcases xl hk vf k v E 0 with⟨h1,_,h3,_⟩|⟨j,v0,h1,_,h3,_⟩
 ·rw[h1,h3];simp[rn,oc]
 ·rw[h1,h3];simp only[rn,Nat.zero_add,List.map_set];rfl
theorem nW:∀(E:List (κ×β)) (k:κ) (v:β) (k':κ),fQ (jl E k v) k'=if k'=k then some v else fQ E k'
 |[],k,v,k'=>by simp[jl,fQ]
 |p::E,k,v,k'=>by
  rw[jl]
  by_cases h:k=p.1
  ·rw[if_pos h]
   simp only[fQ]
   by_cases h2:k'=k
   ·simp[h2]
   ·have h3:¬k'=p.1:=fun e=>h2 (by rw[e,h])
    simp[h2,h3]
  ·rw[if_neg h]
   simp only[fQ]
   rw[nW E k v k']
   by_cases h2:k'=p.1
   ·have h3:¬k'=k:=fun e=>h (by rw[<-e,h2])
    simp only[h2,if_true,h3,if_false]
    rw[if_neg (fun e=>h e.symm)]
   ·simp[h2]
theorem rh:∀(E:List (κ×β)) (k:κ),fQ E k=none↔k∉E.map Prod.fst
 |[],k=>by simp[fQ]
 |p::E,k=>by
  rw[fQ]
  by_cases h:k=p.1
  ·simp[h]
  ·simp[h,rh E k]
end
end Go.dA
