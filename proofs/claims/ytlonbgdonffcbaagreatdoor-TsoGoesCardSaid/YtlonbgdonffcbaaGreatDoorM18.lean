import Derived.Test.YtlonbgdonffcbaaGreatDoorM17
section
/- Rows of rows; loops at whose head things are told anew. -/
set_option linter.unusedSimpArgs false
set_option linter.unusedVariables false
namespace Go.cY
open Go.RowKit
theorem ao {sz:Nat} {b:Bool}:Ask (fits true sz (.agg (List.replicate sz (.sc (.bool b))))=true):=⟨EB rfl⟩
theorem Holds.NJ {w0:World} {M0:Nat→Prop} {c0:Cx} {lo n:Nat} {fr:Fr} {H:Hp} {nx:Nat} {a:Act} {w:World} (h:Holds w0 M0 c0 lo n fr H nx a w) {H2:Hp} {nx2:Nat} (hw:Wk .any H nx .any H2 nx2):Holds w0 M0 c0 lo n fr H2 nx2 a w:=by
 obtain⟨h1,h2,ρ,U,hU,hS,hF,hT⟩:=h
 obtain⟨ρ2,U2,k1,k2,k3,_⟩:=hw w0 ρ U w M0 hU hS
 exact⟨h1,h2,ρ2,U2,k1,k2,fun t=>VR.cP k3 (hF t),hT.to k3⟩
theorem cA {p:Prop} (h:p:=by repeat(first|exact rfl|(refine Eq.trans (bj (by first|omega|(simp only[List.length_cons,List.length_nil];omega))) ?_))):p:=h
section
variable {P:Program}
end
def AE (e:TypeId) (sz:Nat) (n:Nat):Nat→Hp→Hp
 |0,H=>H
 |k+1,H=>(n+k,some (.row e sz .any []))::AE e sz n k H
theorem fm {e:TypeId} {sz n:Nat} {H:Hp} {b:Nat}:∀(k:Nat),bf (AE e sz n k H) b=if n≤b∧b<n+k then some (.row e sz .any []) else bf H b
 |0=>by simp only[AE];rw[if_neg (by omega)]
 |k+1=>by
  simp only[AE]
  by_cases h:b=n+k
  ·subst h;rw[cN,if_pos (by omega)]
  ·rw[bj h,fm k]
   by_cases h2:n≤b∧b<n+k
   ·rw[if_pos h2,if_pos (by omega)]
   ·rw[if_neg h2,if_neg (by omega)]
def pN (ids:List Nat) (S:List (List AV)):List AV:=List.zipWith (fun x l=>AV.sl x l.length) ids S
structure xD (te e:TypeId) (sz b:Nat) (ids:List Nat) (S:List (List AV)) (H:Hp):Prop where
 row:∃d,bf H b=some (.row te 1 d (pN ids S))
 qs:∀i,i<S.length→∃d,bf H (ids.getD i 0)=some (.row e sz d (S.getD i []))
 lens:ids.length=S.length
 nodup:(b::ids).Nodup
theorem kq {l:List Nat} {q:Nat} (h:q<l.length):l.getD q 0∈l:=by
 have:l.getD q 0=l[q]:=by simp[List.getD,h]
 rw[this];exact List.getElem_mem h
section
variable {te e:TypeId} {sz b:Nat} {ids:List Nat} {S:List (List AV)} {H:Hp}
theorem xD.len (h:xD te e sz b ids S H):(pN ids S).length=S.length:=by simp[pN,h.lens]
theorem xD.get (h:xD te e sz b ids S H) {q:Nat} (hq:q<S.length) (d:AV):(pN ids S).getD q d= .sl (ids.getD q 0) (S.getD q []).length:=by
 have h2:q<ids.length:=by rw[h.lens];exact hq
 have h3:q<(pN ids S).length:=by rw[h.len];exact hq
 rw[List.getD,List.getElem?_eq_getElem h3]
 simp[pN,List.getD,hq,h2]
theorem xD.ne (h:xD te e sz b ids S H) {q:Nat} (hq:q<S.length):b≠ids.getD q 0:=by
 have hn:=h.nodup
 simp only[List.nodup_cons] at hn
 exact fun he=>hn.1 (he▸kq (by rw[h.lens];exact hq))
theorem xD.other (h:xD te e sz b ids S H) {q j:Nat} (hq:q<S.length) (hj:j<S.length) (hne:j≠q):ids.getD j 0≠ids.getD q 0:=by
 have hn:=h.nodup
 simp only[List.nodup_cons] at hn
 have e1:ids.getD j 0=ids[j]'(by rw[h.lens];exact hj):=by simp[List.getD,h.lens,hj]
 have e2:ids.getD q 0=ids[q]'(by rw[h.lens];exact hq):=by simp[List.getD,h.lens,hq]
 rw[e1,e2]
 have hp:=List.pairwise_iff_getElem.1 hn.2
 rcases Nat.lt_or_gt_of_ne hne with h1|h1
 ·exact hp _ _ _ _ h1
 ·exact(hp _ _ _ _ h1).symm
theorem xD.cP (h:xD te e sz b ids S H) {H':Hp} (hf:∀x∈b::ids,bf H' x=bf H x):xD te e sz b ids S H':=by
 obtain⟨d,h1⟩:=h.row
 refine⟨⟨d,(hf _ (by simp)).trans h1⟩,fun i hi=> ?_,h.lens,h.nodup⟩
 obtain⟨d2,h2⟩:=h.qs i hi
 exact⟨d2,(hf _ (by simp only[List.mem_cons];exact .inr (kq (by rw[h.lens];exact hi)))).trans h2⟩
theorem B2 {l:List Nat} {q b:Nat} (h:l.Nodup) (hb:b∉l):(l.set q b).Nodup:=by
 refine List.pairwise_iff_getElem.2 fun i j hi hj hij=> ?_
 have hp:=List.pairwise_iff_getElem.1 h
 simp only[List.length_set] at hi hj
 simp only[List.getElem_set]
 by_cases e1:q=i
 ·rw[if_pos e1,if_neg (by omega)]
  intro he;exact hb (he▸List.getElem_mem hj)
 ·rw[if_neg e1]
  by_cases e2:q=j
  ·rw[if_pos e2]
   intro he;exact hb (he▸List.getElem_mem hi)
  ·rw[if_neg e2];exact hp _ _ _ _ hij
theorem xD.next (h:xD te e sz b ids S H) {H':Hp} {q x:Nat} (hq:q<S.length) (l:List AV) (hx:x=ids.getD q 0∨x∉b::ids)
 (h1:∃d es,bf H' b=some (.row te 1 d es)∧es=(pN ids S).set q (.sl x l.length)) (h2:∃d es,bf H' x=some (.row e sz d es)∧es=l)
 (h3:∀j,j<S.length→j≠q→ids.getD j 0≠b→ids.getD j 0≠ids.getD q 0→ids.getD j 0≠x→bf H' (ids.getD j 0)=bf H (ids.getD j 0)):xD te e sz b (ids.set q x) (S.set q l) H':=by
 obtain⟨d1,_,h1,rfl⟩:=h1
 obtain⟨d2,es2,h2,he2⟩:=h2
 rw[he2] at h2
 have hqb:q<ids.length:=by rw[h.lens];exact hq
 have hn:=h.nodup
 simp only[List.nodup_cons] at hn
 refine⟨⟨d1, ?_⟩,fun i hi=> ?_,by simp[h.lens], ?_⟩
 ·rw[h1]
  congr 2
  simp only[pN]
  apply List.ext_getElem
  ·simp
  ·intro i p1 p2
   simp only[List.getElem_zipWith,List.getElem_set]
   by_cases he:q=i<;>simp[he]
 ·simp only[List.length_set] at hi
  by_cases he:i=q
  ·subst he
   simp only[List.getD,List.getElem?_set_self hqb,List.getElem?_set_self hq,Option.getD_some]
   exact⟨_,h2⟩
  ·have e1:(ids.set q x).getD i 0=ids.getD i 0:=by simp[List.getD,List.getElem?_set_ne (Ne.symm he)]
   have e2:(S.set q l).getD i []=S.getD i []:=by simp[List.getD,List.getElem?_set_ne (Ne.symm he)]
   have ho:=h.other hq hi he
   rw[e1,e2,h3 i hi he (h.ne hi).symm ho ?_]
   ·exact h.qs i hi
   ·rcases hx with rfl|hx
    ·exact ho
    ·exact fun hh=>hx (by rw[←hh];simp only[List.mem_cons];exact .inr (kq (by rw[h.lens];exact hi)))
 ·simp only[List.nodup_cons]
  constructor
  ·intro hm
   rcases List.mem_or_eq_of_mem_set hm with hm|rfl
   ·exact hn.1 hm
   ·rcases hx with hx|hx
    ·exact h.ne hq hx
    ·exact hx (by simp)
  ·rcases hx with rfl|hx
   ·have:ids.set q (ids.getD q 0)=ids:=by
     have e:ids.getD q 0=ids[q]:=by simp[List.getD,hqb]
     rw[e,List.set_getElem_self]
    rw[this];exact hn.2
   ·exact B2 hn.2 fun hm=>hx (by simp[hm])
end
def ki (te e:TypeId) (sz b n nx:Nat) (H:Hp):Hp:=(b,some (.row te 1 .any (pN ((List.range n).map (nx+·)) (List.replicate n []))))::AE e sz nx n H
theorem tI (n nx:Nat):pN ((List.range n).map (nx+·)) (List.replicate n [])=(List.range n).map fun i=>AV.sl (nx+i) 0:=by
 apply List.ext_getElem
 ·simp[pN]
 ·intro i p1 p2
  simp[pN]
theorem DN {te e:TypeId} {sz b n nx:Nat} {H:Hp} {x:Nat} (hx:x<nx) (hne:x≠b):bf (ki te e sz b n nx H) x=bf H x:=by
 rw[ki,bj hne,fm,if_neg (by omega)]
theorem xD.born {te e:TypeId} {sz b n nx:Nat} {H:Hp} (hb:b<nx):xD te e sz b ((List.range n).map (nx+·)) (List.replicate n []) (ki te e sz b n nx H):=by
 refine⟨⟨_,cN _ _ _⟩,fun i hi=> ?_,by simp, ?_⟩
 ·have hi2:i<n:=by simpa using hi
  have e1:((List.range n).map (nx+·)).getD i 0=nx+i:=by simp[List.getD,hi2]
  have e2:(List.replicate n ([]:List AV)).getD i []=[]:=by simp[List.getD,hi2]
  rw[e1,e2,ki,bj (by omega),fm,if_pos (by omega)]
  exact⟨_,rfl⟩
 ·simp only[List.nodup_cons,List.mem_map,List.mem_range,not_exists,not_and]
  refine⟨fun i hi=>by omega, ?_⟩
  refine List.pairwise_iff_getElem.2 fun i j hi hj hij=> ?_
  simp;omega
theorem Wk.born {te e:TypeId} {sz b n nx:Nat} {H:Hp} {d:AV} (hb:b<nx) (hsz:0<sz) (h:bf H b=some (.row te 1 d (List.replicate n (.sc (.slice none 0 0))))):Wk .any H nx .any (ki te e sz b n nx H) (nx+n):=by
 have look:∀x,bf (ki te e sz b n nx H) x=if x=b then some (.row te 1 .any ((List.range n).map fun i=>AV.sl (nx+i) 0)) else if nx≤x∧x<nx+n then some (.row e sz .any []) else bf H x:=by
  intro x
  rw[ki]
  by_cases h1:x=b
  ·subst h1;rw[cN,if_pos rfl,tI]
  ·rw[bj h1,if_neg h1,fm]
 refine Wk.tell (by omega) (fun x e' sz' d' es he=> ?_) (fun w0 c c2 hS hU hc hc2 hw hle hnew _=>⟨cc.any _ _ _,fun x e' sz' d' es d0 es0 he he0=> ?_⟩)
 ·rw[look] at he
  by_cases h1:x=b
  ·subst h1
   rw[if_pos rfl] at he
   cases he
   exact .inl ⟨_,_,h,by simp⟩
  ·rw[if_neg h1] at he
   by_cases h2:nx≤x∧x<nx+n
   ·rw[if_pos h2] at he
    cases he
    exact .inr ⟨h2.1,h2.2,rfl,hsz⟩
   ·rw[if_neg h2] at he
    exact .inl ⟨_,_,he,rfl⟩
 ·rw[look] at he
  by_cases h1:x=b
  ·subst h1
   rw[if_pos rfl] at he
   cases he
   rw[h] at he0
   cases he0
   refine dF.yG (by simp) fun i hi=> ?_
   have hi2:i<n:=by simpa using hi
   have e1:(List.replicate n (AV.sc (.slice none 0 0))).getD i .any= .sc (.slice none 0 0):=by simp[List.getD,hi2]
   have e2:((List.range n).map fun i=>AV.sl (nx+i) 0).getD i .any= .sl (nx+i) 0:=by simp[List.getD,hi2]
   rw[e1,e2]
   have h3:bf (ki te e sz x n nx H) (nx+i)=some (.row e sz .any []):=by rw[look,if_neg (by omega),if_pos (by omega)]
   obtain⟨g1,g2⟩:=hnew (nx+i) e sz .any (by omega) h3
   exact cc.nil g1 (by rw[hc2];exact h3) g2
  ·rw[if_neg h1] at he
   by_cases h2:nx≤x∧x<nx+n
   ·have:=hU x (hS.row x _ _ _ _ (by rw[hc];exact he0)).1
    omega
   ·rw[if_neg h2,he0] at he
    cases he
    exact dF.cP hle _
theorem Wk.part {te e:TypeId} {sz b x q nx len lo n:Nat} {H:Hp} {d d2:AV} {es l:List AV} (h1:bf H b=some (.row te 1 d es)) (hq:q<es.length) (h2:es.getD q .any= .sv x len lo n) (h3:bf H x=some (.row e sz d2 l)) (hl:l.length=len) (hn:lo+n≤len) (hne:x≠b) (hxt:e∉XT:=by decide):
 Wk .any H nx .any ((nx,some (.row e sz .any ((l.drop lo).take n)))::(x,none)::(b,some (.row te 1 .any (es.set q (.sl nx n))))::H) (nx+1):=by
 intro w0 ρ U w M0 hU hS
 obtain⟨hbU,_,hbrow⟩:=hS.CE b _ _ _ _ h1 (by omega)
 have hxU:=(hS.row x _ _ _ _ h3).1
 have hbn:=hU b hbU
 have hxn:=hU x hxU
 -- the value that stands there
 have hval:∃blk o z v,ρ b=some (blk,o,z)∧At w blk (o+q * 1) 1 v∧VR ⟨ρ,bf H,U,w,M0⟩ (.sv x len lo n) v:=by
  rcases hbrow with⟨_,h0⟩|⟨blk,o,z,hρ,_,_,_,hrow⟩
  ·rw[h0] at hq;simp at hq
  ·obtain⟨v,ha,hv⟩:=dN hrow q hq
   exact⟨blk,o,z,v,hρ,ha,by rw[h2] at hv;exact hv⟩
 obtain⟨blk0,o0,z0,v,hρb,hat,hv⟩:=hval
 rw[VR] at hv
 obtain⟨_,_,a,cap,rfl,hcn,hvr⟩:=hv
 obtain⟨_,hvr⟩:=hvr e sz d2 l h3
 obtain⟨hv1,hv2⟩:=hvr hl
 obtain⟨_,hsz,hxrow⟩:=hS.jr x _ _ _ _ h3 (CR hv2)
 -- where the new row lies
 let ρn:Option (Nat×Nat×Nat):=(ρ x).bind fun p=>a.map fun ad=>(p.1,ad.off,p.2.1+p.2.2 - ad.off)
 let ρ2:Nat→Option (Nat×Nat×Nat):=fun y=>if y=nx then ρn else ρ y
 let H2:Hp:=(nx,some (.row e sz .any ((l.drop lo).take n)))::(x,none)::(b,some (.row te 1 .any (es.set q (.sl nx n))))::H
 have look:∀y,bf H2 y=if y=nx then some (.row e sz .any ((l.drop lo).take n)) else if y=x then none else if y=b then some (.row te 1 .any (es.set q (.sl nx n))) else bf H y:=by
  intro y
  show bf ((nx,_)::(x,none)::(b,_)::H) y=_
  by_cases g1:y=nx
  ·subst g1;rw[cN,if_pos rfl]
  rw[bj g1,if_neg g1]
  by_cases g2:y=x
  ·subst g2;rw[cN,if_pos rfl]
  rw[bj g2,if_neg g2]
  by_cases g3:y=b
  ·subst g3;rw[cN,if_pos rfl]
  rw[bj g3,if_neg g3]
 have hρn:(ρ x=none∧a=none∧cap=0∧ρn=none)∨∃blk o z o2,ρ x=some (blk,o,z)∧a=some ⟨blk,o2,none⟩∧o≤o2∧o2+cap * sz≤o+z∧cap≤maxLen∧ρn=some (blk,o2,o+z - o2):=by
  rcases hv2 with⟨g1,g2,g3⟩|⟨blk,o,z,o2,g1,g2,g3,g4,g5,_⟩
  ·have g1:ρ x=none:=g1
   exact .inl ⟨g1,g2,g3,by simp[ρn,g1]⟩
  ·have g1:ρ x=some (blk,o,z):=g1
   exact .inr ⟨blk,o,z,o2,g1,g2,g3,g4,g5,by simp[ρn,g1,g2]⟩
 have hmono:∀blk,(⟨ρ2,bf H2,fun y=>U y∨y=nx,w,M0⟩:Cx).M blk→(⟨ρ,bf H,U,w,M0⟩:Cx).M blk:=by
  rintro blk (h0|⟨y,k,o,z,hk,hy⟩)
  ·exact .inl h0
  ·simp only at hk hy
   rw[look] at hk
   by_cases g1:y=nx
   ·simp only[ρ2] at hy
    rw[if_pos g1] at hy
    rcases hρn with⟨_,_,_,g2⟩|⟨blk',o',z',o2,g2,_,_,_,_,g3⟩
    ·rw[g2] at hy;cases hy
    ·rw[g3] at hy;cases hy
     exact .inr ⟨x,_,_,_,h3,g2⟩
   ·rw[if_neg g1] at hk
    simp only[ρ2] at hy
    rw[if_neg g1] at hy
    by_cases g2:y=x
    ·rw[if_pos g2] at hk;cases hk
    ·rw[if_neg g2] at hk
     by_cases g3:y=b
     ·subst g3;exact .inr ⟨y,_,_,_,h1,hy⟩
     ·rw[if_neg g3] at hk;exact .inr ⟨y,_,_,_,hk,hy⟩
 have hle:Cx.le ⟨ρ,bf H,U,w,M0⟩ ⟨ρ2,bf H2,fun y=>U y∨y=nx,w,M0⟩:=by
  refine⟨fun _ h=> .inl h,Nat.le_refl _,fun blk hm _=>⟨rfl,fun hh=>hm (hmono blk hh)⟩,fun y hy e' sz' d' es' he=> ?_⟩
  have hyn:=hU y hy
  simp only at he
  rw[look,if_neg (by omega)] at he
  have e2:ρ2 y=ρ y:=by simp only[ρ2];rw[if_neg (by omega)]
  by_cases g2:y=x
  ·rw[if_pos g2] at he;cases he
  ·rw[if_neg g2] at he
   by_cases g3:y=b
   ·subst g3
    rw[if_pos rfl] at he
    cases he
    exact⟨_,_,_,h1, .inl ⟨by simp,e2⟩⟩
   ·rw[if_neg g3] at he
    exact⟨_,_,_,he, .inl ⟨rfl,e2⟩⟩
 have hdl:((l.drop lo).take n).length=n:=by simp;omega
 have e2n:ρ2 nx=ρn:=by simp only[ρ2];rw[if_pos trivial]
 have hval2:VR ⟨ρ2,bf H2,fun y=>U y∨y=nx,w,M0⟩ (.sl nx n) (.slice a n cap):=by
  rw[VR]
  refine⟨.inr rfl,a,cap,rfl,fun e' sz' d' es' he=> ?_⟩
  simp only at he
  rw[look,if_pos rfl] at he
  cases he
  refine⟨by omega,fun _=> ?_⟩
  simp only[e2n]
  rcases hρn with⟨_,g2,g3,g4⟩|⟨blk,o,z,o2,_,g2,g3,g4,g5,g6⟩
  ·exact .inl ⟨g4,g2,g3⟩
  ·exact .inr ⟨blk,o2,o+z - o2,g6,g2,hcn,by omega,g5,hsz⟩
 refine⟨ρ2,fun y=>U y∨y=nx, ?_,⟨hS.below,hS.m0,fun y e' sz' d' es' he=> ?_, ?_⟩,hle,cc.any _ _ _⟩
 ·rintro y (hy|rfl)
  ·have:=hU y hy;omega
  ·omega
 ·simp only at he
  rw[look] at he
  by_cases g1:y=nx
  ·rw[if_pos g1] at he
   cases he
   refine⟨.inr g1, .inl ⟨hsz, ?_⟩⟩
   rw[g1]
   simp only[e2n]
   rcases hρn with⟨g2,_,_,g4⟩|⟨blk,o,z,o2,g2,ga,g3,g4,g5,g6⟩
   ·rcases hxrow with⟨_,h0⟩|⟨_,_,_,hρ,_⟩
    ·exact .inl ⟨g4,by rw[h0];simp⟩
    ·simp only at hρ;rw[g2] at hρ;cases hρ
   ·rcases hxrow with⟨hρ,_⟩|⟨blk',o',z',hρ,k1,⟨arr,k2,k3⟩,k4,k5⟩
    ·simp only at hρ;rw[g2] at hρ;cases hρ
    ·simp only at hρ
     rw[g2] at hρ;cases hρ
     refine .inr ⟨blk,o2,o+z - o2,g6,k1,⟨arr,k2,by omega,fun he=>absurd he hxt⟩, ?_, ?_⟩
     ·rw[hdl]
      have:n * sz≤cap * sz:=Nat.mul_le_mul_right _ hcn
      omega
     ·rcases hv1 with h0|⟨blk',o',z',q1,q2⟩
      ·have:(l.drop lo).take n=[]:=by rw[h0];simp
       rw[this,dI];trivial
      ·simp only at q1
       rw[g2] at q1;cases q1
       rw[ga] at q2
       simp only[Option.some.injEq,Addr.mk.injEq,true_and,and_true] at q2
       subst q2
       have k6:=gY (dI.cP hle rfl k5) lo n (by omega)
       exact k6
  ·rw[if_neg g1] at he
   have e2:ρ2 y=ρ y:=by simp only[ρ2];rw[if_neg g1]
   by_cases g2:y=x
   ·rw[if_pos g2] at he;cases he
   ·rw[if_neg g2] at he
    by_cases g3:y=b
    ·subst g3
     rw[if_pos rfl] at he
     cases he
     refine⟨.inl hbU, .inl ⟨by omega, ?_⟩⟩
     simp only[e2]
     rcases hbrow with⟨_,h0⟩|⟨blk,o,z,hρ,k1,k2,k4,k5⟩
     ·rw[h0] at hq;simp at hq
     ·simp only at hρ
      rw[hρ] at hρb;cases hρb
      refine .inr ⟨_,_,_,hρ,k1,by simpa using k2,by rw[List.length_set];exact k4,jF fun i hi=> ?_⟩
      rw[List.length_set] at hi
      by_cases hiq:i=q
      ·subst hiq
       refine⟨_,hat, ?_⟩
       simp only[List.getD,List.getElem?_set_self hq,Option.getD_some]
       exact hval2
      ·obtain⟨u,u1,u2⟩:=dN k5 i hi
       refine⟨u,u1, ?_⟩
       have:(es.set q (.sl nx n)).getD i .any=es.getD i .any:=by simp[List.getD,List.getElem?_set_ne (Ne.symm hiq)]
       rw[this]
       exact VR.cP hle u2
    ·rw[if_neg g3] at he
     obtain⟨k0,k2⟩:=hS.row y _ _ _ _ he
     exact⟨.inl k0,k2.cP hle e2 fun _ _ _ _ _=>rfl⟩
 ·intro y y' k k' blk o z o' z' hk hk' hρ hρ'
  have get:∀{y k},y≠nx→bf H2 y=some k→y≠x∧∃k2,bf H y=some k2:=by
   intro y k g1 hk
   rw[look,if_neg g1] at hk
   by_cases g2:y=x
   ·rw[if_pos g2] at hk;cases hk
   ·rw[if_neg g2] at hk
    by_cases g3:y=b
    ·subst g3;exact⟨g2,_,h1⟩
    ·rw[if_neg g3] at hk;exact⟨g2,_,hk⟩
  have nxρ:∀{blk o z},ρn=some (blk,o,z)→∃o1 z1,ρ x=some (blk,o1,z1):=by
   intro blk o z h
   rcases hρn with⟨_,_,_,g4⟩|⟨blk',o1,z1,o2,g2,_,_,_,_,g6⟩
   ·rw[g4] at h;cases h
   ·rw[g6] at h;cases h;exact⟨_,_,g2⟩
  simp only at hk hk' hρ hρ'
  by_cases g1:y=nx
  ·by_cases g2:y'=nx
   ·rw[g1,g2]
   ·obtain⟨g3,k2,g4⟩:=get g2 hk'
    rw[g1,e2n] at hρ
    obtain⟨o1,z1,g5⟩:=nxρ hρ
    have e2:ρ2 y'=ρ y':=by simp only[ρ2];rw[if_neg g2]
    rw[e2] at hρ'
    exact absurd (hS.inj y' x _ _ _ _ _ _ _ g4 h3 hρ' g5) g3
  ·have e1:ρ2 y=ρ y:=by simp only[ρ2];rw[if_neg g1]
   rw[e1] at hρ
   obtain⟨g3,k1,g4⟩:=get g1 hk
   by_cases g2:y'=nx
   ·rw[g2,e2n] at hρ'
    obtain⟨o1,z1,g5⟩:=nxρ hρ'
    exact absurd (hS.inj y x _ _ _ _ _ _ _ g4 h3 hρ g5) g3
   ·obtain⟨_,k2,g6⟩:=get g2 hk'
    have e2:ρ2 y'=ρ y':=by simp only[ρ2];rw[if_neg g2]
    rw[e2] at hρ'
    exact hS.inj y y' _ _ _ _ _ _ _ g4 g6 hρ hρ'
theorem MR {H:Hp} {k b len i off:Nat} {e:TypeId} {sz:Nat} {d:AV} {es:List AV} (h:bf H b=some (.row e sz d es)) (hl:es.length=len):eM H (k+1) (.pt b len i off)= .ip sz .any (es.map (eM H k)) i off:=by
 simp only[eM,h];rw[if_pos hl]
theorem mN {H:Hp} {k b len:Nat} {e:TypeId} {sz:Nat} {d:AV} {es:List AV} (h:bf H b=some (.row e sz d es)) (hl:es.length=len):eM H (k+1) (.sl b len)= .im sz .any (es.map (eM H k)):=by
 simp only[eM,h];rw[if_pos hl]
theorem eK {H:Hp} (k:Nat) {es:List AV} (h:cJ 0 es):es.map (eM H k)=es:=qx fun a ha=>lY k (ko h a ha)
end Go.cY
namespace Go.cY
theorem mX.QJ {P:Program} {f:FuncId} {args:List AV} {H:Hp} {nx:Nat} {K:AV→Hp→Prop} (h:mX P f args H nx K):bz P f args H nx (fun r H' n=>K r H'∧n=nx+1):=by
 refine⟨h.1,fun w0 c vs hS hH hU hv=>(h.2 w0 c vs hS hH (fun hu=>Nat.lt_irrefl _ (hU _ hu)) hv).mono ?_⟩
 rintro e w' ⟨v,r,H',ρ,he,hK,h1,h2,h3⟩
 refine⟨v,r,H',nx+1,ρ,_,he,⟨hK,rfl⟩, ?_,h1,h2,h3⟩
 rintro b (hb|rfl)
 ·have:=hU b hb;omega
 ·omega
end Go.cY
end
