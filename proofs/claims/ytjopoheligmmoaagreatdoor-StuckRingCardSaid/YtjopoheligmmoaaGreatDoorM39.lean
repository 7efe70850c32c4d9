import Derived.Test.YtjopoheligmmoaaGreatDoorM38
section
/- Way: the walk. -/
namespace Go.Proofs.YtjopoheligmmoaaGreatDoor
open Go Go.cX Go.Proofs
set_option linter.unusedSimpArgs false
set_option linter.unusedVariables false
set_option maxRecDepth 8000
theorem W1 {te e:TypeId} {sz b nx:Nat} {H:Hp} {d:AV} (hb:b<nx) (hsz:0<sz) (h:br H b=some (.row te 1 d [.sc (.slice none 0 0)])):∃H2,Wk .any H nx .any H2 (nx+1)∧br H2 b=some (.row te 1 .any [.sl nx 0])∧br H2 nx=some (.row e sz .any [])∧∀y,y<nx→y≠b→br H2 y=br H y:=by
 refine⟨lU te e sz b 1 nx H,Wk.born hb hsz h, ?_, ?_,fun y y1 y2=>K0 y1 y2⟩
 ·rw[lU,cn,ud];rfl
 ·rw[lU,cV (by omega),kD,if_pos (by omega)]
noncomputable def uq (u:bt) (most:Int) (e:cj):AV:=
 if(eG u most).1=0 then .dP [cR (ja (eG u most).2 (fG u (eG u most).2 e (eG u most).2.length)),bl (fG u (eG u most).2 e (eG u most).2.length).isSome,i64 0] else .dP [.sc (.slice none 0 0),bl false,i64 (eG u most).1]
theorem K1 {P:Program} {f:FuncId} {args:List AV} {te:TypeId} (e:TypeId) (sz:Nat) {b nx:Nat} {H:Hp} {d:AV} {R:AV→Hp→Nat→Prop} (hb:b<nx) (hsz:0<sz) (h:br H b=some (.row te 1 d [.sc (.slice none 0 0)]))
 (k:∀H2,br H2 b=some (.row te 1 .any [.sl nx 0])→br H2 nx=some (.row e sz .any [])→(∀y,y<nx→y≠b→br H2 y=br H y)→cI P f args H2 (nx+1) R):cI P f args H nx R:=by
 obtain⟨H2,hw,q1,q2,q3⟩:=W1 hb hsz h
 exact cI.O1 (k H2 q1 q2 q3) (hw.same _)
def wY (u:bt) (most:Int) (I:Nat→Hp→Prop) (r:AV) (H:Hp):Prop:=
 match gP u most.toNat with
 |none=>r= .dP [i64 0,i64 3]
 |some l=>r= .dP [i64 l.length,i64 0]∧I l.length H
theorem PJ.short {u:bt} {most:Int} {I:Nat→Hp→Prop} {nx:Nat} {H0:Hp} {r:AV} {H:Hp} {n:Nat} (h:PJ u most I nx H0 r H n):wY u most I r H:=by
 obtain⟨_,h⟩:=h
 unfold wY
 revert h
 cases gP u most.toNat with
 |none=>exact fun h=>h.1
 |some l=>exact id
set_option maxHeartbeats 2000000 in
theorem O8 (u:bt) (hu:u.Wf) (most:Int) (e:cj) (he1:e.cM.length * 16≤140737488355328) (he2:e.mem.length * 8≤140737488355328):Pure Tryz.prog 58 [u.av,i64 most,e.av] (fun r=>r=uq u most e):=by
 refine dS ?_ (by unfold uq;split<;>simp[cK,cW,cB])
 refine aM NH rfl ?_
 have hnil:cR []= .im 1 .any []:=rfl
 by_cases hr:cY u
 ·by_cases hm:1≤most∧most≤65536
  ·unfold uq
   rw[oF hr hm]
   refine cT ?_
   let l:=(gP u most.toNat).getD []
   let I:Nat→Hp→Prop:=fun k H=>(∃d,br H 0=some (.row 25 3 d [u.av]))∧(∃d,br H 6=some (.row 4 1 d [bl (fG u l e k).isSome]))∧(∃d,br H 1=some (.row 105 3 d [e.av]))∧(∃d,br H 5=some (.row 31 1 d [.sl 11 (ja l (fG u l e k)).length]))∧(∃d,br H 11=some (.row 3 1 d ((ja l (fG u l e k)).map i64)))
   refine aJ (R:=fun r H n=>12≤n∧wY u most I r H) (K1 (b:=5) 3 1 (by omega) (by omega) (d:=gH false [.slice none 0 0]) (te:=31) ?_ fun H2 q1 q2 q3=> ?_) ?_
   ·exact bu
   ·refine(rC u hu hr most hm _ [.pt 0 1 0 0, .pt 6 1 0 0, .pt 1 1 0 0, .pt 5 1 0 0] H2 12 I ?_ ?_ ?_).mono fun r H n h=>⟨h.1,h.short⟩
    ·exact⟨⟨_,(q3 0 (by omega) (by omega)).trans bu⟩,⟨_,(q3 6 (by omega) (by omega)).trans bu⟩,⟨_,(q3 1 (by omega) (by omega)).trans bu⟩,⟨_,q1⟩,⟨_,q2⟩⟩
    ·rintro k H H' ⟨⟨d0,p0⟩,⟨d1,p1⟩,⟨d2,p2⟩,⟨d3,p3⟩,⟨d4,p4⟩⟩ hk
     exact⟨⟨d0,(hk 0 (by omega)).trans p0⟩,⟨d1,(hk 6 (by omega)).trans p1⟩,⟨d2,(hk 1 (by omega)).trans p2⟩,⟨d3,(hk 5 (by omega)).trans p3⟩,⟨d4,(hk 11 (by omega)).trans p4⟩⟩
    ·intro l' hl' k H n hk hn ⟨p0,p1,p2,p3,p4⟩
     have hll:l=l':=by show(gP u most.toNat).getD []=l';rw[hl'];rfl
     rw[hll] at p1 p3 p4
     obtain⟨hf,hlm,_⟩:=kX hu hr (by omega) hl'
     refine(V1 hr hf (by omega) he1 he2 hk (ub:=0) (ib:=6) (eb:=1) (wb:=5) (W:=11) ⟨by omega,by omega,by omega,by omega,by omega⟩ ⟨by omega,by omega,by omega,by omega,by omega,by omega,by omega,by omega,by omega⟩ p0 p1 p2 p3 p4).mono ?_
     rintro _ H' n' ⟨s1,s2,s3,s4,s5⟩
     obtain⟨d0,p0⟩:=p0
     obtain⟨d2,p2⟩:=p2
     refine⟨⟨⟨d0,(s5 0 (by omega) (by omega) (by omega) (by omega)).trans p0⟩, ?_,⟨d2,(s5 1 (by omega) (by omega) (by omega) (by omega)).trans p2⟩, ?_, ?_⟩,s4,fun y y1 y2=>s5 y y2 (by omega) (by omega) (by omega)⟩
     ·rw[hll];exact s1
     ·rw[hll];exact s2
     ·rw[hll];exact s3
   rintro r H' n' ⟨hn,hA⟩
   revert hA
   unfold wY
   cases hs:gP u most.toNat with
   |none=>
    rintro rfl
    refine cT ?_
    exact⟨rfl⟩
   |some l'=>
    rintro⟨rfl,⟨d0,p0⟩,⟨d1,p1⟩,⟨d2,p2⟩,⟨d3,p3⟩,⟨d4,p4⟩⟩
    have hll:l=l':=by show(gP u most.toNat).getD []=l';rw[hs];rfl
    rw[hll] at p1 p3 p4
    refine cT ?_
    refine⟨?_⟩
    dsimp only
    rw[if_pos rfl]
    have hf1:cX.dU H' 5 (.sl 11 (ja l' (fG u l' e l'.length)).length)=cR (ja l' (fG u l' e l'.length)):=by
     rw[de (k:=4) p4 (by simp),cx _ ((cB _ _).2 fun _ _=>by simp[cK])]
    show AV.dP [cX.dU H' 5 (.sl 11 (ja l' (fG u l' e l'.length)).length),bl (fG u l' e l'.length).isSome,i64 0]=_
    rw[hf1]
  ·unfold uq
   rw[kW hr hm]
   refine cT ?_
   refine aJ (tV u hu hr most hm _ _ _ _) ?_
   rintro r H' n' ⟨rfl,hn,hk⟩
   refine cT ?_
   exact⟨rfl⟩
 ·unfold uq
  rw[oE hr]
  refine cT ?_
  refine aJ (DU u hu hr most _ _ _ _) ?_
  rintro r H' n' ⟨rfl,hn,hk⟩
  refine cT ?_
  exact⟨rfl⟩
end Go.Proofs.YtjopoheligmmoaaGreatDoor
end
section
/- The order of ends: what sorts them. -/
namespace Go.Proofs.YtjopoheligmmoaaGreatDoor
open Go Go.cX Go.Proofs
set_option linter.unusedSimpArgs false
set_option linter.unusedVariables false
theorem vW {x y z:Int} (h1:eU x y<0) (h2:eU y z<0):eU x z<0:=by
 unfold eU at *
 repeat' split at *
 all_goals omega
theorem ZA (a b c:Int):sX [a,b,c]<0↔a<0∨a=0∧(b<0∨b=0∧c<0):=by
 simp only[sX]
 repeat' split
 all_goals omega
theorem Y9 (a b:Int):sX [a,b]<0↔a<0∨a=0∧b<0:=by
 simp only[sX]
 repeat' split
 all_goals omega
theorem P5 {p q r:dR} (h1:jC p q<0) (h2:jC q r<0):jC p r<0:=by
 unfold jC at *
 rw[Y9] at *
 simp only[jy] at *
 rcases h1 with h1|⟨e1,h1⟩<;>rcases h2 with h2|⟨e2,h2⟩
 ·exact .inl (vW h1 h2)
 ·rw[←e2];exact .inl h1
 ·rw[e1];exact .inl h2
 ·exact .inr ⟨e1.trans e2,vW h1 h2⟩
theorem vY {α:Type} {f:α→α→Int} (hz:∀x y,f x y=0↔x=y) (hf:∀x y z,f x y<0→f y z<0→f x z<0):∀a b c:List α,eX f a b<0→eX f b c<0→eX f a c<0
 |[],[],_,h1,_=>by simp[eX] at h1
 |[],_::_,[],_,h2=>by simp[eX] at h2
 |[],_::_,_::_,_,_=>by simp[eX]
 |_::_,[],_,h1,_=>by simp[eX] at h1
 |_::_,_::_,[],_,h2=>by simp[eX] at h2
 |x::a,y::b,z::c,h1,h2=>by
  rw[eX] at h1 h2 ⊢
  by_cases e1:f x y=0
  ·have:=(hz _ _).1 e1
   subst this
   rw[if_pos e1] at h1
   by_cases e2:f x z=0
   ·rw[if_pos e2] at h2 ⊢
    exact vY hz hf a b c h1 h2
   ·rw[if_neg e2] at h2 ⊢
    exact h2
  ·rw[if_neg e1] at h1
   by_cases e2:f y z=0
   ·have:=(hz _ _).1 e2
    subst this
    rw[if_neg e1]
    exact h1
   ·rw[if_neg e2] at h2
    have h3:=hf _ _ _ h1 h2
    rw[if_neg (by omega)]
    exact h3
theorem P3 {a b c:cj} (h1:fj a b<0) (h2:fj b c<0):fj a c<0:=by
 unfold fj at *
 rw[ZA] at *
 simp only[jz (fun x y=>pZ),jz (fun x y=>jy)] at *
 have tp:=vY (f:=jC) (fun x y=>pZ) (fun x y z=>P5) a.cM b.cM c.cM
 have ti:=vY (f:=eU) (fun x y=>jy) (fun x y z=>vW) a.mem b.mem c.mem
 have tb:vV a.ended b.ended<0→vV b.ended c.ended<0→vV a.ended c.ended<0:=by
  cases a.ended<;>cases b.ended<;>cases c.ended<;>simp[vV]
 rcases h1 with h1|⟨e1,h1⟩<;>rcases h2 with h2|⟨e2,h2⟩
 ·exact .inl (tp h1 h2)
 ·rw[←e2];exact .inl h1
 ·rw[e1];exact .inl h2
 ·refine .inr ⟨e1.trans e2, ?_⟩
  rcases h1 with h1|⟨e1',h1⟩<;>rcases h2 with h2|⟨e2',h2⟩
  ·exact .inl (ti h1 h2)
  ·rw[←e2'];exact .inl h1
  ·rw[e1'];exact .inl h2
  ·exact .inr ⟨e1'.trans e2',tb h1 h2⟩
structure jq {α:Type} (f:α→α→Int):Prop where
 neg:∀x y,f y x=-f x y
 zero:∀x y,f x y=0↔x=y
 tr:∀x y z,f x y<0→f y z<0→f x z<0
theorem jU:jq fj:=⟨K5,fun _ _=>pY,fun _ _ _=>P3⟩
def uV {α:Type} (f:α→α→Int) (x y:α):Bool:=decide (f x y≤0)
theorem jq.XL {α:Type} {f:α→α→Int} (h:jq f) {x y z:α} (h1:uV f x y=true) (h2:uV f y z=true):uV f x z=true:=by
 simp only[uV,decide_eq_true_eq] at *
 by_cases e1:f x y=0
 ·rw[(h.zero _ _).1 e1];exact h2
 ·by_cases e2:f y z=0
  ·rw[←(h.zero _ _).1 e2];exact h1
  ·have:=h.tr x y z (by omega) (by omega);omega
theorem jq.le_total {α:Type} {f:α→α→Int} (h:jq f) (x y:α):(uV f x y||uV f y x)=true:=by
 have:=h.neg x y
 simp only[uV,Bool.or_eq_true,decide_eq_true_eq]
 omega
theorem jq.EG {α:Type} {f:α→α→Int} (h:jq f) {x y:α} (h1:uV f x y=true) (h2:uV f y x=true):x=y:=by
 have:=h.neg x y
 simp only[uV,decide_eq_true_eq] at *
 exact(h.zero _ _).1 (by omega)
def fW {α:Type} (f:α→α→Int) (l:List α):List α:=l.mergeSort (uV f)
theorem mi {α:Type} (f:α→α→Int) (l:List α):(fW f l).length=l.length:=by simp[fW]
theorem ky {α:Type} (f:α→α→Int) (l:List α):(fW f l).Perm l:=List.mergeSort_perm _ _
theorem jq.sorted {α:Type} {f:α→α→Int} (h:jq f) (l:List α):(fW f l).Pairwise fun x y=>uV f x y=true:=
 List.pairwise_mergeSort (le:=uV f) (fun a b c h1 h2=>h.XL h1 h2) (fun a b=>h.le_total a b) l
theorem jq.SU {α:Type} {f:α→α→Int} (h:jq f) {l l':List α} (hp:l'.Perm l) (hs:l'.Pairwise fun x y=>uV f x y=true):l'=fW f l:=
 List.Perm.eq_of_pairwise (fun a b _ _ h1 h2=>h.EG h1 h2) hs (h.sorted l) (hp.trans (ky f l).symm)
end Go.Proofs.YtjopoheligmmoaaGreatDoor
end
