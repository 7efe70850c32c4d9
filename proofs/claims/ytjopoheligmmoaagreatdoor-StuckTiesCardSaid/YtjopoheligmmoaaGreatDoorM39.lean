import Derived.Test.YtjopoheligmmoaaGreatDoorM38
section
/- Way: the walk. -/
namespace Go.Proofs.YtjopoheligmmoaaGreatDoor
open Go Go.cY Go.Proofs
set_option linter.unusedSimpArgs false
set_option linter.unusedVariables false
set_option maxRecDepth 8000
theorem XL {te e:TypeId} {sz b nx:Nat} {H:Hp} {d:AV} (hb:b<nx) (hsz:0<sz) (h:bt H b=some (.row te 1 d [.sc (.slice none 0 0)])):∃H2,Wk .any H nx .any H2 (nx+1)∧bt H2 b=some (.row te 1 .any [.sl nx 0])∧bt H2 nx=some (.row e sz .any [])∧∀y,y<nx→y≠b→bt H2 y=bt H y:=by
 refine⟨lg te e sz b 1 nx H,Wk.born hb hsz h, ?_, ?_,fun y y1 y2=>LO y1 y2⟩
 ·rw[lg,cp,vA];rfl
 ·rw[lg,cX (by omega),kM,if_pos (by omega)]
noncomputable def vI (u:bw) (most:Int) (e:cm):AV:=
 if(eH u most).1=0 then .dP [cO (jh (eH u most).2 (fM u (eH u most).2 e (eH u most).2.length)),bl (fM u (eH u most).2 e (eH u most).2.length).isSome,i64 0] else .dP [.sc (.slice none 0 0),bl false,i64 (eH u most).1]
theorem LP {P:Program} {f:FuncId} {args:List AV} {te:TypeId} (e:TypeId) (sz:Nat) {b nx:Nat} {H:Hp} {d:AV} {R:AV→Hp→Nat→Prop} (hb:b<nx) (hsz:0<sz) (h:bt H b=some (.row te 1 d [.sc (.slice none 0 0)]))
 (k:∀H2,bt H2 b=some (.row te 1 .any [.sl nx 0])→bt H2 nx=some (.row e sz .any [])→(∀y,y<nx→y≠b→bt H2 y=bt H y)→cJ P f args H2 (nx+1) R):cJ P f args H nx R:=by
 obtain⟨H2,hw,q1,q2,q3⟩:=XL hb hsz h
 exact cJ.PQ (k H2 q1 q2 q3) (hw.same _)
def wh (u:bw) (most:Int) (I:Nat→Hp→Prop) (r:AV) (H:Hp):Prop:=
 match gU u most.toNat with
 |none=>r= .dP [i64 0,i64 3]
 |some l=>r= .dP [i64 l.length,i64 0]∧I l.length H
theorem P7.short {u:bw} {most:Int} {I:Nat→Hp→Prop} {nx:Nat} {H0:Hp} {r:AV} {H:Hp} {n:Nat} (h:P7 u most I nx H0 r H n):wh u most I r H:=by
 obtain⟨_,h⟩:=h
 unfold wh
 revert h
 cases gU u most.toNat with
 |none=>exact fun h=>h.1
 |some l=>exact id
set_option maxHeartbeats 2000000 in
theorem PY (u:bw) (hu:u.Wf) (most:Int) (e:cm) (he1:e.cP.length * 16≤140737488355328) (he2:e.mem.length * 8≤140737488355328):Pure Tryz.prog 58 [u.av,i64 most,e.av] (fun r=>r=vI u most e):=by
 refine dD ?_ (by unfold vI;split<;>simp[cK,cZ,cC])
 refine aL N6 rfl ?_
 have hnil:cO []= .im 1 .any []:=rfl
 by_cases hr:cT u
 ·by_cases hm:1≤most∧most≤65536
  ·unfold vI
   rw[oO hr hm]
   refine cU ?_
   let l:=(gU u most.toNat).getD []
   let I:Nat→Hp→Prop:=fun k H=>(∃d,bt H 0=some (.row 25 3 d [u.av]))∧(∃d,bt H 6=some (.row 4 1 d [bl (fM u l e k).isSome]))∧(∃d,bt H 1=some (.row 105 3 d [e.av]))∧(∃d,bt H 5=some (.row 31 1 d [.sl 11 (jh l (fM u l e k)).length]))∧(∃d,bt H 11=some (.row 3 1 d ((jh l (fM u l e k)).map i64)))
   refine aJ (R:=fun r H n=>12≤n∧wh u most I r H) (LP (b:=5) 3 1 (by omega) (by omega) (d:=gM false [.slice none 0 0]) (te:=31) ?_ fun H2 q1 q2 q3=> ?_) ?_
   ·exact bx
   ·refine(rU u hu hr most hm _ [.pt 0 1 0 0, .pt 6 1 0 0, .pt 1 1 0 0, .pt 5 1 0 0] H2 12 I ?_ ?_ ?_).mono fun r H n h=>⟨h.1,h.short⟩
    ·exact⟨⟨_,(q3 0 (by omega) (by omega)).trans bx⟩,⟨_,(q3 6 (by omega) (by omega)).trans bx⟩,⟨_,(q3 1 (by omega) (by omega)).trans bx⟩,⟨_,q1⟩,⟨_,q2⟩⟩
    ·rintro k H H' ⟨⟨d0,p0⟩,⟨d1,p1⟩,⟨d2,p2⟩,⟨d3,p3⟩,⟨d4,p4⟩⟩ hk
     exact⟨⟨d0,(hk 0 (by omega)).trans p0⟩,⟨d1,(hk 6 (by omega)).trans p1⟩,⟨d2,(hk 1 (by omega)).trans p2⟩,⟨d3,(hk 5 (by omega)).trans p3⟩,⟨d4,(hk 11 (by omega)).trans p4⟩⟩
    ·intro l' hl' k H n hk hn ⟨p0,p1,p2,p3,p4⟩
     have hll:l=l':=by show(gU u most.toNat).getD []=l';rw[hl'];rfl
     rw[hll] at p1 p3 p4
     obtain⟨hf,hlm,_⟩:=kn hu hr (by omega) hl'
     refine(WU hr hf (by omega) he1 he2 hk (ub:=0) (ib:=6) (eb:=1) (wb:=5) (W:=11) ⟨by omega,by omega,by omega,by omega,by omega⟩ ⟨by omega,by omega,by omega,by omega,by omega,by omega,by omega,by omega,by omega⟩ p0 p1 p2 p3 p4).mono ?_
     rintro _ H' n' ⟨s1,s2,s3,s4,s5⟩
     obtain⟨d0,p0⟩:=p0
     obtain⟨d2,p2⟩:=p2
     refine⟨⟨⟨d0,(s5 0 (by omega) (by omega) (by omega) (by omega)).trans p0⟩, ?_,⟨d2,(s5 1 (by omega) (by omega) (by omega) (by omega)).trans p2⟩, ?_, ?_⟩,s4,fun y y1 y2=>s5 y y2 (by omega) (by omega) (by omega)⟩
     ·rw[hll];exact s1
     ·rw[hll];exact s2
     ·rw[hll];exact s3
   rintro r H' n' ⟨hn,hA⟩
   revert hA
   unfold wh
   cases hs:gU u most.toNat with
   |none=>
    rintro rfl
    refine cU ?_
    exact⟨rfl⟩
   |some l'=>
    rintro⟨rfl,⟨d0,p0⟩,⟨d1,p1⟩,⟨d2,p2⟩,⟨d3,p3⟩,⟨d4,p4⟩⟩
    have hll:l=l':=by show(gU u most.toNat).getD []=l';rw[hs];rfl
    rw[hll] at p1 p3 p4
    refine cU ?_
    refine⟨?_⟩
    dsimp only
    rw[if_pos rfl]
    have hf1:cY.dX H' 5 (.sl 11 (jh l' (fM u l' e l'.length)).length)=cO (jh l' (fM u l' e l'.length)):=by
     rw[dh (k:=4) p4 (by simp),cy _ ((cC _ _).2 fun _ _=>by simp[cK])]
    show AV.dP [cY.dX H' 5 (.sl 11 (jh l' (fM u l' e l'.length)).length),bl (fM u l' e l'.length).isSome,i64 0]=_
    rw[hf1]
  ·unfold vI
   rw[kj hr hm]
   refine cU ?_
   refine aJ (tv u hu hr most hm _ _ _ _) ?_
   rintro r H' n' ⟨rfl,hn,hk⟩
   refine cU ?_
   exact⟨rfl⟩
 ·unfold vI
  rw[oM hr]
  refine cU ?_
  refine aJ (EA u hu hr most _ _ _ _) ?_
  rintro r H' n' ⟨rfl,hn,hk⟩
  refine cU ?_
  exact⟨rfl⟩
end Go.Proofs.YtjopoheligmmoaaGreatDoor
end
section
/- The order of ends: what sorts them. -/
namespace Go.Proofs.YtjopoheligmmoaaGreatDoor
open Go Go.cY Go.Proofs
set_option linter.unusedSimpArgs false
set_option linter.unusedVariables false
theorem vl {x y z:Int} (h1:eX x y<0) (h2:eX y z<0):eX x z<0:=by
 unfold eX at *
 repeat' split at *
 all_goals omega
theorem ZW (a b c:Int):sj [a,b,c]<0↔a<0∨a=0∧(b<0∨b=0∧c<0):=by
 simp only[sj]
 repeat' split
 all_goals omega
theorem ZV (a b:Int):sj [a,b]<0↔a<0∨a=0∧b<0:=by
 simp only[sj]
 repeat' split
 all_goals omega
theorem QR {p q r:dV} (h1:jH p q<0) (h2:jH q r<0):jH p r<0:=by
 unfold jH at *
 rw[ZV] at *
 simp only[kH] at *
 rcases h1 with h1|⟨e1,h1⟩<;>rcases h2 with h2|⟨e2,h2⟩
 ·exact .inl (vl h1 h2)
 ·rw[←e2];exact .inl h1
 ·rw[e1];exact .inl h2
 ·exact .inr ⟨e1.trans e2,vl h1 h2⟩
theorem vo {α:Type} {f:α→α→Int} (hz:∀x y,f x y=0↔x=y) (hf:∀x y z,f x y<0→f y z<0→f x z<0):∀a b c:List α,ec f a b<0→ec f b c<0→ec f a c<0
 |[],[],_,h1,_=>by simp[ec] at h1
 |[],_::_,[],_,h2=>by simp[ec] at h2
 |[],_::_,_::_,_,_=>by simp[ec]
 |_::_,[],_,h1,_=>by simp[ec] at h1
 |_::_,_::_,[],_,h2=>by simp[ec] at h2
 |x::a,y::b,z::c,h1,h2=>by
  rw[ec] at h1 h2 ⊢
  by_cases e1:f x y=0
  ·have:=(hz _ _).1 e1
   subst this
   rw[if_pos e1] at h1
   by_cases e2:f x z=0
   ·rw[if_pos e2] at h2 ⊢
    exact vo hz hf a b c h1 h2
   ·rw[if_neg e2] at h2 ⊢
    exact h2
  ·rw[if_neg e1] at h1
   by_cases e2:f y z=0
   ·have:=(hz _ _).1 e2
    subst this
    rw[if_neg e1]
    exact h1
   ·rw[if_neg e2] at h2
    have h3:=hf _ _ _ h1 h2
    rw[if_neg (by omega)]
    exact h3
theorem QP {a b c:cm} (h1:fq a b<0) (h2:fq b c<0):fq a c<0:=by
 unfold fq at *
 rw[ZW] at *
 simp only[kI (fun x y=>pg),kI (fun x y=>kH)] at *
 have tp:=vo (f:=jH) (fun x y=>pg) (fun x y z=>QR) a.cP b.cP c.cP
 have ti:=vo (f:=eX) (fun x y=>kH) (fun x y z=>vl) a.mem b.mem c.mem
 have tb:vk a.ended b.ended<0→vk b.ended c.ended<0→vk a.ended c.ended<0:=by
  cases a.ended<;>cases b.ended<;>cases c.ended<;>simp[vk]
 rcases h1 with h1|⟨e1,h1⟩<;>rcases h2 with h2|⟨e2,h2⟩
 ·exact .inl (tp h1 h2)
 ·rw[←e2];exact .inl h1
 ·rw[e1];exact .inl h2
 ·refine .inr ⟨e1.trans e2, ?_⟩
  rcases h1 with h1|⟨e1',h1⟩<;>rcases h2 with h2|⟨e2',h2⟩
  ·exact .inl (ti h1 h2)
  ·rw[←e2'];exact .inl h1
  ·rw[e1'];exact .inl h2
  ·exact .inr ⟨e1'.trans e2',tb h1 h2⟩
structure kA {α:Type} (f:α→α→Int):Prop where
 neg:∀x y,f y x=-f x y
 zero:∀x y,f x y=0↔x=y
 tr:∀x y z,f x y<0→f y z<0→f x z<0
theorem j0:kA fq:=⟨LV,fun _ _=>pf,fun _ _ _=>QP⟩
def uh {α:Type} (f:α→α→Int) (x y:α):Bool:=decide (f x y≤0)
theorem kA.X7 {α:Type} {f:α→α→Int} (h:kA f) {x y z:α} (h1:uh f x y=true) (h2:uh f y z=true):uh f x z=true:=by
 simp only[uh,decide_eq_true_eq] at *
 by_cases e1:f x y=0
 ·rw[(h.zero _ _).1 e1];exact h2
 ·by_cases e2:f y z=0
  ·rw[←(h.zero _ _).1 e2];exact h1
  ·have:=h.tr x y z (by omega) (by omega);omega
theorem kA.le_total {α:Type} {f:α→α→Int} (h:kA f) (x y:α):(uh f x y||uh f y x)=true:=by
 have:=h.neg x y
 simp only[uh,Bool.or_eq_true,decide_eq_true_eq]
 omega
theorem kA.EW {α:Type} {f:α→α→Int} (h:kA f) {x y:α} (h1:uh f x y=true) (h2:uh f y x=true):x=y:=by
 have:=h.neg x y
 simp only[uh,decide_eq_true_eq] at *
 exact(h.zero _ _).1 (by omega)
def fc {α:Type} (f:α→α→Int) (l:List α):List α:=l.mergeSort (uh f)
theorem nC {α:Type} (f:α→α→Int) (l:List α):(fc f l).length=l.length:=by simp[fc]
theorem lJ {α:Type} (f:α→α→Int) (l:List α):(fc f l).Perm l:=List.mergeSort_perm _ _
theorem kA.sorted {α:Type} {f:α→α→Int} (h:kA f) (l:List α):(fc f l).Pairwise fun x y=>uh f x y=true:=
 List.pairwise_mergeSort (le:=uh f) (fun a b c h1 h2=>h.X7 h1 h2) (fun a b=>h.le_total a b) l
theorem kA.TJ {α:Type} {f:α→α→Int} (h:kA f) {l l':List α} (hp:l'.Perm l) (hs:l'.Pairwise fun x y=>uh f x y=true):l'=fc f l:=
 List.Perm.eq_of_pairwise (fun a b _ _ h1 h2=>h.EW h1 h2) hs (h.sorted l) (hp.trans (lJ f l).symm)
end Go.Proofs.YtjopoheligmmoaaGreatDoor
end
