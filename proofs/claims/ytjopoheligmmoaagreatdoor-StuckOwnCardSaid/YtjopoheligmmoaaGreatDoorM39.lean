import Derived.Test.YtjopoheligmmoaaGreatDoorM38
section
/- Way: the walk. -/
namespace Go.Proofs.YtjopoheligmmoaaGreatDoor
open Go Go.cZ Go.Proofs
set_option linter.unusedSimpArgs false
set_option linter.unusedVariables false
set_option maxRecDepth 8000
theorem X4 {te e:TypeId} {sz b nx:Nat} {H:Hp} {d:AV} (hb:b<nx) (hsz:0<sz) (h:bu H b=some (.row te 1 d [.sc (.slice none 0 0)])):∃H2,Wk .any H nx .any H2 (nx+1)∧bu H2 b=some (.row te 1 .any [.sl nx 0])∧bu H2 nx=some (.row e sz .any [])∧∀y,y<nx→y≠b→bu H2 y=bu H y:=by
 refine⟨lr te e sz b 1 nx H,Wk.born hb hsz h, ?_, ?_,fun y y1 y2=>L6 y1 y2⟩
 ·rw[lr,cq,vM];rfl
 ·rw[lr,c8 (by omega),kW,if_pos (by omega)]
noncomputable def vV (u:bx) (most:Int) (e:cn):AV:=
 if(eI u most).1=0 then .dK [cM (js (eI u most).2 (fM u (eI u most).2 e (eI u most).2.length)),bl (fM u (eI u most).2 e (eI u most).2.length).isSome,i64 0] else .dK [.sc (.slice none 0 0),bl false,i64 (eI u most).1]
theorem L7 {P:Program} {f:FuncId} {args:List AV} {te:TypeId} (e:TypeId) (sz:Nat) {b nx:Nat} {H:Hp} {d:AV} {R:AV→Hp→Nat→Prop} (hb:b<nx) (hsz:0<sz) (h:bu H b=some (.row te 1 d [.sc (.slice none 0 0)]))
 (k:∀H2,bu H2 b=some (.row te 1 .any [.sl nx 0])→bu H2 nx=some (.row e sz .any [])→(∀y,y<nx→y≠b→bu H2 y=bu H y)→cG P f args H2 (nx+1) R):cG P f args H nx R:=by
 obtain⟨H2,hw,q1,q2,q3⟩:=X4 hb hsz h
 exact cG.P4 (k H2 q1 q2 q3) (hw.same _)
def xH (u:bx) (most:Int) (I:Nat→Hp→Prop) (r:AV) (H:Hp):Prop:=
 match gZ u most.toNat with
 |none=>r= .dK [i64 0,i64 3]
 |some l=>r= .dK [i64 l.length,i64 0]∧I l.length H
theorem QL.short {u:bx} {most:Int} {I:Nat→Hp→Prop} {nx:Nat} {H0:Hp} {r:AV} {H:Hp} {n:Nat} (h:QL u most I nx H0 r H n):xH u most I r H:=by
 obtain⟨_,h⟩:=h
 unfold xH
 revert h
 cases gZ u most.toNat with
 |none=>exact fun h=>h.1
 |some l=>exact id
set_option maxHeartbeats 2000000 in
theorem QC (u:bx) (hu:u.Wf) (most:Int) (e:cn) (he1:e.cP.length * 16≤140737488355328) (he2:e.mem.length * 8≤140737488355328):Pure Tryz.prog 58 [u.av,i64 most,e.av] (fun r=>r=vV u most e):=by
 refine cx ?_ (by unfold vV;split<;>simp[cI,cX,cB])
 refine aM OG rfl ?_
 have hnil:cM []= .im 1 .any []:=rfl
 by_cases hr:cT u
 ·by_cases hm:1≤most∧most≤65536
  ·unfold vV
   rw[oV hr hm]
   refine cV ?_
   let l:=(gZ u most.toNat).getD []
   let I:Nat→Hp→Prop:=fun k H=>(∃d,bu H 0=some (.row 25 3 d [u.av]))∧(∃d,bu H 6=some (.row 4 1 d [bl (fM u l e k).isSome]))∧(∃d,bu H 1=some (.row 105 3 d [e.av]))∧(∃d,bu H 5=some (.row 31 1 d [.sl 11 (js l (fM u l e k)).length]))∧(∃d,bu H 11=some (.row 3 1 d ((js l (fM u l e k)).map i64)))
   refine aL (R:=fun r H n=>12≤n∧xH u most I r H) (L7 (b:=5) 3 1 (by omega) (by omega) (d:=gM false [.slice none 0 0]) (te:=31) ?_ fun H2 q1 q2 q3=> ?_) ?_
   ·exact bw
   ·refine(rh u hu hr most hm _ [.pt 0 1 0 0, .pt 6 1 0 0, .pt 1 1 0 0, .pt 5 1 0 0] H2 12 I ?_ ?_ ?_).mono fun r H n h=>⟨h.1,h.short⟩
    ·exact⟨⟨_,(q3 0 (by omega) (by omega)).trans bw⟩,⟨_,(q3 6 (by omega) (by omega)).trans bw⟩,⟨_,(q3 1 (by omega) (by omega)).trans bw⟩,⟨_,q1⟩,⟨_,q2⟩⟩
    ·rintro k H H' ⟨⟨d0,p0⟩,⟨d1,p1⟩,⟨d2,p2⟩,⟨d3,p3⟩,⟨d4,p4⟩⟩ hk
     exact⟨⟨d0,(hk 0 (by omega)).trans p0⟩,⟨d1,(hk 6 (by omega)).trans p1⟩,⟨d2,(hk 1 (by omega)).trans p2⟩,⟨d3,(hk 5 (by omega)).trans p3⟩,⟨d4,(hk 11 (by omega)).trans p4⟩⟩
    ·intro l' hl' k H n hk hn ⟨p0,p1,p2,p3,p4⟩
     have hll:l=l':=by show(gZ u most.toNat).getD []=l';rw[hl'];rfl
     rw[hll] at p1 p3 p4
     obtain⟨hf,hlm,_⟩:=lC hu hr (by omega) hl'
     refine(XA hr hf (by omega) he1 he2 hk (ub:=0) (ib:=6) (eb:=1) (wb:=5) (W:=11) ⟨by omega,by omega,by omega,by omega,by omega⟩ ⟨by omega,by omega,by omega,by omega,by omega,by omega,by omega,by omega,by omega⟩ p0 p1 p2 p3 p4).mono ?_
     rintro _ H' n' ⟨s1,s2,s3,s4,s5⟩
     obtain⟨d0,p0⟩:=p0
     obtain⟨d2,p2⟩:=p2
     refine⟨⟨⟨d0,(s5 0 (by omega) (by omega) (by omega) (by omega)).trans p0⟩, ?_,⟨d2,(s5 1 (by omega) (by omega) (by omega) (by omega)).trans p2⟩, ?_, ?_⟩,s4,fun y y1 y2=>s5 y y2 (by omega) (by omega) (by omega)⟩
     ·rw[hll];exact s1
     ·rw[hll];exact s2
     ·rw[hll];exact s3
   rintro r H' n' ⟨hn,hA⟩
   revert hA
   unfold xH
   cases hs:gZ u most.toNat with
   |none=>
    rintro rfl
    refine cV ?_
    exact⟨rfl⟩
   |some l'=>
    rintro⟨rfl,⟨d0,p0⟩,⟨d1,p1⟩,⟨d2,p2⟩,⟨d3,p3⟩,⟨d4,p4⟩⟩
    have hll:l=l':=by show(gZ u most.toNat).getD []=l';rw[hs];rfl
    rw[hll] at p1 p3 p4
    refine cV ?_
    refine⟨?_⟩
    dsimp only
    rw[if_pos rfl]
    have hf1:cZ.dV H' 5 (.sl 11 (js l' (fM u l' e l'.length)).length)=cM (js l' (fM u l' e l'.length)):=by
     rw[dc (k:=4) p4 (by simp),cy _ ((cB _ _).2 fun _ _=>by simp[cI])]
    show AV.dK [cZ.dV H' 5 (.sl 11 (js l' (fM u l' e l'.length)).length),bl (fM u l' e l'.length).isSome,i64 0]=_
    rw[hf1]
  ·unfold vV
   rw[lB hr hm]
   refine cV ?_
   refine aL (uK u hu hr most hm _ _ _ _) ?_
   rintro r H' n' ⟨rfl,hn,hk⟩
   refine cV ?_
   exact⟨rfl⟩
 ·unfold vV
  rw[oU hr]
  refine cV ?_
  refine aL (ET u hu hr most _ _ _ _) ?_
  rintro r H' n' ⟨rfl,hn,hk⟩
  refine cV ?_
  exact⟨rfl⟩
end Go.Proofs.YtjopoheligmmoaaGreatDoor
end
section
/- The order of ends: what sorts them. -/
namespace Go.Proofs.YtjopoheligmmoaaGreatDoor
open Go Go.cZ Go.Proofs
set_option linter.unusedSimpArgs false
set_option linter.unusedVariables false
theorem wC {x y z:Int} (h1:eX x y<0) (h2:eX y z<0):eX x z<0:=by
 unfold eX at *
 repeat' split at *
 all_goals omega
theorem aAF (a b c:Int):tG [a,b,c]<0↔a<0∨a=0∧(b<0∨b=0∧c<0):=by
 simp only[tG]
 repeat' split
 all_goals omega
theorem aAE (a b:Int):tG [a,b]<0↔a<0∨a=0∧b<0:=by
 simp only[tG]
 repeat' split
 all_goals omega
theorem Q7 {p q r:dW} (h1:jO p q<0) (h2:jO q r<0):jO p r<0:=by
 unfold jO at *
 rw[aAE] at *
 simp only[kR] at *
 rcases h1 with h1|⟨e1,h1⟩<;>rcases h2 with h2|⟨e2,h2⟩
 ·exact .inl (wC h1 h2)
 ·rw[←e2];exact .inl h1
 ·rw[e1];exact .inl h2
 ·exact .inr ⟨e1.trans e2,wC h1 h2⟩
theorem wE {α:Type} {f:α→α→Int} (hz:∀x y,f x y=0↔x=y) (hf:∀x y z,f x y<0→f y z<0→f x z<0):∀a b c:List α,e8 f a b<0→e8 f b c<0→e8 f a c<0
 |[],[],_,h1,_=>by simp[e8] at h1
 |[],_::_,[],_,h2=>by simp[e8] at h2
 |[],_::_,_::_,_,_=>by simp[e8]
 |_::_,[],_,h1,_=>by simp[e8] at h1
 |_::_,_::_,[],_,h2=>by simp[e8] at h2
 |x::a,y::b,z::c,h1,h2=>by
  rw[e8] at h1 h2 ⊢
  by_cases e1:f x y=0
  ·have:=(hz _ _).1 e1
   subst this
   rw[if_pos e1] at h1
   by_cases e2:f x z=0
   ·rw[if_pos e2] at h2 ⊢
    exact wE hz hf a b c h1 h2
   ·rw[if_neg e2] at h2 ⊢
    exact h2
  ·rw[if_neg e1] at h1
   by_cases e2:f y z=0
   ·have:=(hz _ _).1 e2
    subst this
    rw[if_neg e1]
    exact h1
   ·rw[if_neg e2] at h2
    have h3:=hf _ _ _ h1 h2
    rw[if_neg (by omega)]
    exact h3
theorem Q5 {a b c:cn} (h1:fw a b<0) (h2:fw b c<0):fw a c<0:=by
 unfold fw at *
 rw[aAF] at *
 simp only[kS (fun x y=>px),kS (fun x y=>kR)] at *
 have tp:=wE (f:=jO) (fun x y=>px) (fun x y z=>Q7) a.cP b.cP c.cP
 have ti:=wE (f:=eX) (fun x y=>kR) (fun x y z=>wC) a.mem b.mem c.mem
 have tb:wB a.ended b.ended<0→wB b.ended c.ended<0→wB a.ended c.ended<0:=by
  cases a.ended<;>cases b.ended<;>cases c.ended<;>simp[wB]
 rcases h1 with h1|⟨e1,h1⟩<;>rcases h2 with h2|⟨e2,h2⟩
 ·exact .inl (tp h1 h2)
 ·rw[←e2];exact .inl h1
 ·rw[e1];exact .inl h2
 ·refine .inr ⟨e1.trans e2, ?_⟩
  rcases h1 with h1|⟨e1',h1⟩<;>rcases h2 with h2|⟨e2',h2⟩
  ·exact .inl (ti h1 h2)
  ·rw[←e2'];exact .inl h1
  ·rw[e1'];exact .inl h2
  ·exact .inr ⟨e1'.trans e2',tb h1 h2⟩
structure kJ {α:Type} (f:α→α→Int):Prop where
 neg:∀x y,f y x=-f x y
 zero:∀x y,f x y=0↔x=y
 tr:∀x y z,f x y<0→f y z<0→f x z<0
theorem ja:kJ fw:=⟨MB,fun _ _=>pq,fun _ _ _=>Q5⟩
def vB {α:Type} (f:α→α→Int) (x y:α):Bool:=decide (f x y≤0)
theorem kJ.YQ {α:Type} {f:α→α→Int} (h:kJ f) {x y z:α} (h1:vB f x y=true) (h2:vB f y z=true):vB f x z=true:=by
 simp only[vB,decide_eq_true_eq] at *
 by_cases e1:f x y=0
 ·rw[(h.zero _ _).1 e1];exact h2
 ·by_cases e2:f y z=0
  ·rw[←(h.zero _ _).1 e2];exact h1
  ·have:=h.tr x y z (by omega) (by omega);omega
theorem kJ.le_total {α:Type} {f:α→α→Int} (h:kJ f) (x y:α):(vB f x y||vB f y x)=true:=by
 have:=h.neg x y
 simp only[vB,Bool.or_eq_true,decide_eq_true_eq]
 omega
theorem kJ.FG {α:Type} {f:α→α→Int} (h:kJ f) {x y:α} (h1:vB f x y=true) (h2:vB f y x=true):x=y:=by
 have:=h.neg x y
 simp only[vB,decide_eq_true_eq] at *
 exact(h.zero _ _).1 (by omega)
def ff {α:Type} (f:α→α→Int) (l:List α):List α:=l.mergeSort (vB f)
theorem nJ {α:Type} (f:α→α→Int) (l:List α):(ff f l).length=l.length:=by simp[ff]
theorem lS {α:Type} (f:α→α→Int) (l:List α):(ff f l).Perm l:=List.mergeSort_perm _ _
theorem kJ.sorted {α:Type} {f:α→α→Int} (h:kJ f) (l:List α):(ff f l).Pairwise fun x y=>vB f x y=true:=
 List.pairwise_mergeSort (le:=vB f) (fun a b c h1 h2=>h.YQ h1 h2) (fun a b=>h.le_total a b) l
theorem kJ.TX {α:Type} {f:α→α→Int} (h:kJ f) {l l':List α} (hp:l'.Perm l) (hs:l'.Pairwise fun x y=>vB f x y=true):l'=ff f l:=
 List.Perm.eq_of_pairwise (fun a b _ _ h1 h2=>h.FG h1 h2) hs (h.sorted l) (hp.trans (lS f l).symm)
end Go.Proofs.YtjopoheligmmoaaGreatDoor
end
