import Derived.Test.YtlonbgdonffcbaaGreatDoorM32
import Derived.Test.YtlonbgdonffcbaaGreatDoorM29
import Derived.Test.YtlonbgdonffcbaaGreatDoorM33
import Derived.Test.YtlonbgdonffcbaaGreatDoorM28
section
/- Which ways lead on: the walk of freely. -/
namespace Go.Proofs.YtlonbgdonffcbaaGreatDoor
open Go Go.cY Go.Proofs
set_option linter.unusedSimpArgs false
set_option linter.unusedVariables false
set_option maxRecDepth 8000
theorem w8 {o:Obj} {s:bk} (g:Good o s) (hc:s.bg.length≤8):Pure Tryz.prog 55 [s.frozen o] (fun r=>r=gM (dZ o s s.bg.length)):=by
 refine iV (CA g hc) (by simp[cB,cJ,cI]) fun c=> ?_
 unfold oL
 split
 ·rename_i h
  rw[h]
  exact cc.rB c c 2 .any
 ·exact fun _ h=>h
abbrev jC (l:List cC):AV:=gM l
abbrev nQ (l:List (List cC)):AV:= .im 1 .any (l.map jC)
theorem pY (l:List (List cC)):cJ 0 (l.map jC):=(cI _ _).2 fun _ _=>by simp[cB,cI,cJ]
theorem uD {G:Hp} {k:Nat} {l:List (List cC)}:∀a∈l.map jC,rW G k a=a:=fun a ha=>by
 obtain⟨_,_,rfl⟩:=List.mem_map.1 ha
 exact MY _ _ _ _ _
set_option maxHeartbeats 2000000 in
theorem A0 {o:Obj} {s:bk} (g:Good o s) (hc:s.bg.length≤8):Pure Tryz.prog 24 [s.frozen o] (fun r=>r=nQ (de false o s)):=by
 have c0:=w8 g hc
 have hle:=jo o s s.bg.length
 have hmv:de false o s=(dZ o s s.bg.length).map fun x=>[x]:=by unfold de;rw[if_neg (by simp)]
 rw[hmv]
 generalize dZ o s s.bg.length=rs at *
 simp only[bk.frozen] at c0 ⊢
 refine cq ?_ (by simp only[cB];exact pY _)
 refine aO FF rfl ?_
 refine ca ?_
 simp only[List.length_map]
 refine aQ (fun i:Nat=>[(3, .sl 5 i),(7,gM rs),(8,i64 rs.length),(9,i64 i)])
  (fun i H n=>i≤rs.length∧6≤n∧∃d,bf H 5=some (.row 83 1 d (((rs.take i).map fun x=>[x]).map jC))) (fun i=>rs.length - i) 0
  ⟨_,_,_,Rt.nil 3 83 1 (by omega) rfl,cG,Nat.zero_le _,cO,⟨_,bo⟩⟩ ?_
 rintro i H n ⟨hi,hn,d,r7⟩
 have hrl:(((rs.take i).map fun x=>[x]).map jC).length=i:=by simp;omega
 by_cases hil:i<rs.length
 ·have e0:∀d,(rs.map cC.av).getD ((i:Int)).toNat d=(rs.getD i default).av:=fun d=>by rw[Int.toNat_natCast];exact dR _ _ _ d hil
  have a0:(rs.map cC.av).length=rs.length:=List.length_map _
  have hnx:((rs.take (i+1)).map fun x=>[x]).map jC=((rs.take i).map fun x=>[x]).map jC++[jC [rs.getD i default]]:=by
   rw[List.take_succ_eq_append_getElem hil,List.map_append,List.map_append,show rs.getD i default=rs[i] by simp[List.getD,hil]];rfl
  refine ca ?_
  refine⟨i+1,by omega,_,_,_,Rt.wk (Wk.MV (b:=n+7) (cb:=5) (es:=((rs.take i).map fun x=>[x]).map jC++[.sl (n+7) 1]) (l:=[(rs.getD i default).av]) .any bo bo (qe uD rfl)),cG,by omega,cO,⟨.any, ?_⟩⟩
  rw[hnx]
  exact bo
 ·obtain rfl:i=rs.length:=by omega
  rw[List.take_length] at r7
  refine ca ?_
  refine⟨?_⟩
  rw[mN (k:=5) bo (by simp),eK _ (pY _)]
end Go.Proofs.YtlonbgdonffcbaaGreatDoor
end
section
/- Which plain ways lead on: a fork that steps, within a stretch of open order. -/
namespace Go.Proofs.YtlonbgdonffcbaaGreatDoor
open Go Go.cY Go.Proofs
set_option linter.unusedSimpArgs false
set_option linter.unusedVariables false
set_option maxRecDepth 8000
abbrev oN (d:Nat) (o:ck):fi:=⟨some d,none,o⟩
def uM:List fi:=[oN 22 (.mv (.t 0)),oN 23 (.call (.f 63) [.t 22]),oN 24 (.ld true 2 (.t 5)),oN 25 (.call (.f 10) [.t 23, .t 24]),oN 21 (.mv (.t 25)),oN 26 (.ext 0 (.t 21)),oN 27 (.ext 1 (.t 21)),oN 7 (.alloc 37 7 true [.int .u8 0, .int .i64 0, .int .i64 0, .int .i64 0, .int .i64 0, .int .i64 0, .bool false]),⟨none,none, .st true 7 (.t 7) (.t 26)⟩]
def QG:List (Nat×Nat):=[(1,2),(1,7),(2,7),(3,7)]
section
variable {o:Obj} {s:bk} {x:cC} {vb lo:Nat} {H0:Hp}
def CX (o:Obj) (s:bk) (x:cC) (θ:Lay×Nat) (i:Nat):AV:=
 [s.frozen o, .pt θ.1.m 1 0 0,x.av, .dB [(cj o s x.kind x.core).2.1.av,i64 (cj o s x.kind x.core).2.2], .dB [(cj o s x.kind x.core).2.1.av,i64 (cj o s x.kind x.core).2.2],(cj o s x.kind x.core).2.1.av,i64 (cj o s x.kind x.core).2.2, .pt θ.2 1 0 0].getD i .any
structure OE (o:Obj) (s:bk) (x:cC) (H0:Hp) (lo:Nat) (θ:Lay×Nat) (D:Nat→Bool) (H:Hp) (nx:Nat):Prop where
 lw:lo≤nx
 same:∀y,y<lo→bf H y=bf H0 y
 fk:D 1=true→D 3=false→fS o s θ.1 H nx∧∀b∈θ.1.ids,lo≤b
 ap:D 1=true→D 3=false→D 7=true→θ.2∉θ.1.ids
 al:D 7=true→lo≤θ.2∧θ.2<nx∧∃d es,bf H θ.2=some (.row 37 7 d [.agg es])
 st:D 8=true→∃d,bf H θ.2=some (.row 37 7 d [(cj o s x.kind x.core).2.1.av])
theorem OE.look {θ:Lay×Nat} {D:Nat→Bool} {H:Hp} {nx:Nat} (h:OE o s x H0 lo θ D H nx) {i:Nat} (h1:i≠1) (h3:i≠3) (h7:i≠7) (h8:i≠8):OE o s x H0 lo θ (fun k=>D k||k==i) H (nx+1):=by
 have e1:(1==i)=false:=by simpa using Ne.symm h1
 have e3:(3==i)=false:=by simpa using Ne.symm h3
 have e7:(7==i)=false:=by simpa using Ne.symm h7
 have e8:(8==i)=false:=by simpa using Ne.symm h8
 refine⟨Nat.le_succ_of_le h.lw,h.same, ?_, ?_, ?_, ?_⟩
 ·simp only[e1,e3,Bool.or_false]
  intro a b
  obtain⟨g1,g2⟩:=h.fk a b
  exact⟨g1.cP (fun _ _=>rfl) (Nat.le_succ _),g2⟩
 ·simp only[e1,e3,e7,Bool.or_false];exact h.ap
 ·simp only[e7,Bool.or_false]
  intro a
  obtain⟨g1,g2,g3⟩:=h.al a
  exact⟨g1,by omega,g3⟩
 ·simp only[e8,Bool.or_false];exact h.st
set_option maxHeartbeats 2000000 in
theorem II {fr0:Fr} (g:Good o s) (ok:cz o) (hlk:eH s) (hpl:(s.bh.length+1) * 16≤140737488355328) (h0:cM fr0 0=s.frozen o) (h5:cM fr0 5= .pt vb 1 0 0) (hvb:∃d,bf H0 vb=some (.row 42 2 d [x.av])) (hvl:vb<lo):
 AB Tryz.prog uM QG (fun D fr H nx=>∃θ:Lay×Nat,P1 uM D (CX o s x θ) fr0 fr∧OE o s x H0 lo θ D H nx):=by
 refine AB.of (Θ:=Lay×Nat) (CX o s x) (OE o s x H0 lo) fr0 (by decide) ?_
 intro i gg θ D fr H nx hi hD hp hs hv hh
 have hk:i<9:=by have:=(List.getElem?_eq_some_iff.1 hi).1;simpa[uM] using this
 have q:∀(j:Nat) (g':fi) (t':Nat),uM[j]?=some g'→g'.dst=some t'→j<i→xV uM QG j i=true→cM fr t'=CX o s x θ j:=fun j g' t' h1 h2 h3 h4=>hv.val j g' t' h1 (hp j h3 h4) h2
 have f0:cM fr 0=s.frozen o:=(hv.j1 0 (by decide)).trans h0
 have f5:cM fr 5= .pt vb 1 0 0:=(hv.j1 5 (by decide)).trans h5
 have hlw:=hh.lw
 obtain⟨dv,rv⟩:=hvb
 rw[←hh.same vb hvl] at rv
 have cases:i=0∨i=1∨i=2∨i=3∨i=4∨i=5∨i=6∨i=7∨i=8:=by omega
 rcases cases with rfl|rfl|rfl|rfl|rfl|rfl|rfl|rfl|rfl<;>(obtain rfl:_=gg:=by simpa[uM] using hi)
 ·exact dX.look (by simp) (r:=s.frozen o) (by simp only[bq,ev];rw[f0]) ⟨θ,fun _ _=>rfl,rfl,hh.look (by decide) (by decide) (by decide) (by decide)⟩
 ·have p:=q 0 _ 22 rfl rfl (by decide) (by decide)
  have h8:D 8=false:=hs 8 (by decide) (by decide) (by decide)
  show bz Tryz.prog 63 ([]++[cM fr 22]++[]) H nx _
  rw[show cM fr 22=s.frozen o from p]
  refine(q6 (o:=o) hlk H nx).mono ?_
  rintro r H' n ⟨F,rfl,hF,hF0,hn,hf⟩
  refine⟨(F,θ.2),fun j hj=> ?_,rfl,Nat.le_trans hlw hn,fun y hy=>(hf y (by omega)).trans (hh.same y hy),fun _ _=>⟨hF,fun b hb=>Nat.le_trans hlw (hF0 b hb)⟩,fun _ _ a hm=> ?_,fun a=> ?_,fun a=> ?_⟩
  ·have hj1:j≠1:=fun e=>by subst e;rw[hD] at hj;cases hj
   unfold CX
   have:j=0∨j=2∨j=3∨j=4∨j=5∨j=6∨j=7∨7<j:=by omega
   rcases this with rfl|rfl|rfl|rfl|rfl|rfl|rfl|hj7
   all_goals first|rfl|(rw[List.getD,List.getD,List.getElem?_eq_none (by simp;omega),List.getElem?_eq_none (by simp;omega)])
  ·have a:D 7=true:=by simpa using a
   have:=(hh.al a).2.1
   have:=hF0 _ hm
   omega
  ·have a:D 7=true:=by simpa using a
   obtain⟨g1,g2,d,es,g3⟩:=hh.al a
   exact⟨g1,by omega,d,es,(hf _ g2).trans g3⟩
  ·exfalso
   have a:D 8=true:=by simpa using a
   rw[h8] at a;cases a
 ·refine dX.look (by simp) (r:=x.av) ?_ ⟨θ,fun _ _=>rfl,rfl,hh.look (by decide) (by decide) (by decide) (by decide)⟩
  simp only[bq,ev]
  rw[f5]
  simp[jg,rv,xG,cC.cells]
 ·have a1:=hp 1 (by decide) (by decide)
  have p1:=q 1 _ 23 rfl rfl (by decide) (by decide)
  have p2:=q 2 _ 24 rfl rfl (by decide) (by decide)
  have h8:D 8=false:=hs 8 (by decide) (by decide) (by decide)
  obtain⟨hM,hlo⟩:=hh.fk a1 hD
  show bz Tryz.prog 10 ([]++[cM fr 23,cM fr 24]++[]) H nx _
  rw[show cM fr 23= .pt θ.1.m 1 0 0 from p1,show cM fr 24=x.av from p2]
  refine(lj hM g ok hpl x.kind x.core).mono ?_
  rintro r H' n ⟨rfl,hn,_,hf⟩
  refine⟨θ,fun _ _=>rfl,rfl,Nat.le_trans hlw hn,fun y hy=>(hf y (by omega) fun hm=>by have:=hlo y hm;omega).trans (hh.same y hy),fun _ b=>by simp at b,fun _ b=>by simp at b,fun a=> ?_,fun a=> ?_⟩
  ·have a:D 7=true:=by simpa using a
   obtain⟨g1,g2,d,es,g3⟩:=hh.al a
   exact⟨g1,by omega,d,es,(hf _ g2 (hh.ap a1 hD a)).trans g3⟩
  ·exfalso
   have a:D 8=true:=by simpa using a
   rw[h8] at a;cases a
 ·have p:=q 3 _ 25 rfl rfl (by decide) (by decide)
  exact dX.look (by simp) (r:=CX o s x θ 3) (by simp only[bq,ev];rw[p]) ⟨θ,fun _ _=>rfl,rfl,hh.look (by decide) (by decide) (by decide) (by decide)⟩
 ·have p:=q 4 _ 21 rfl rfl (by decide) (by decide)
  exact dX.look (by simp) (r:=(cj o s x.kind x.core).2.1.av) (by simp only[bq,ev];rw[p];rfl) ⟨θ,fun _ _=>rfl,rfl,hh.look (by decide) (by decide) (by decide) (by decide)⟩
 ·have p:=q 4 _ 21 rfl rfl (by decide) (by decide)
  exact dX.look (by simp) (r:=i64 (cj o s x.kind x.core).2.2) (by simp only[bq,ev];rw[p];rfl) ⟨θ,fun _ _=>rfl,rfl,hh.look (by decide) (by decide) (by decide) (by decide)⟩
 ·have h8:D 8=false:=hs 8 (by decide) (by decide) (by decide)
  refine dX.act (r:= .pt nx 1 0 0) (u:=(nx, .row 37 7 (gO true [.int .u8 0, .int .i64 0, .int .i64 0, .int .i64 0, .int .i64 0, .int .i64 0, .bool false]) [gO true [.int .u8 0, .int .i64 0, .int .i64 0, .int .i64 0, .int .i64 0, .int .i64 0, .bool false]])) (fun f as2 h=>by cases h) (by simp[bq]) ?_
  have hsk:∀y,y<nx→bf ((nx,some (eB.row 37 7 (gO true [.int .u8 0, .int .i64 0, .int .i64 0, .int .i64 0, .int .i64 0, .int .i64 0, .bool false]) [gO true [.int .u8 0, .int .i64 0, .int .i64 0, .int .i64 0, .int .i64 0, .int .i64 0, .bool false]]))::H) y=bf H y:=fun y hy=>bj (by omega)
  refine⟨(θ.1,nx),fun j hj=> ?_,rfl,Nat.le_succ_of_le hlw,fun y hy=>(hsk y (by omega)).trans (hh.same y hy),fun a b=> ?_,fun a b _ hm=> ?_,fun a=>⟨hlw,Nat.lt_succ_self _,_,_,cN _ _ _⟩,fun a=> ?_⟩
  ·have hj1:j≠7:=fun e=>by subst e;rw[hD] at hj;cases hj
   unfold CX
   have:j=0∨j=1∨j=2∨j=3∨j=4∨j=5∨j=6∨7<j:=by omega
   rcases this with rfl|rfl|rfl|rfl|rfl|rfl|rfl|hj7
   all_goals first|rfl|(rw[List.getD,List.getD,List.getElem?_eq_none (by simp;omega),List.getElem?_eq_none (by simp;omega)])
  ·have a:D 1=true:=by simpa using a
   have b:D 3=false:=by simpa using b
   obtain⟨g1,g2⟩:=hh.fk a b
   exact⟨g1.cP hsk (Nat.le_succ _),g2⟩
  ·have a:D 1=true:=by simpa using a
   have b:D 3=false:=by simpa using b
   have:=(hh.fk a b).1.lt _ hm
   exact absurd this (Nat.lt_irrefl _)
  ·exfalso
   have a:D 8=true:=by simpa using a
   rw[h8] at a;cases a
 ·have p5:=q 5 _ 26 rfl rfl (by decide) (by decide)
  have p7:=q 7 _ 7 rfl rfl (by decide) (by decide)
  have a3:=hp 3 (by decide) (by decide)
  obtain⟨g1,g2,d,es,g3⟩:=hh.al (hp 7 (by decide) (by decide))
  refine dX.act (r:= .any) (u:=(θ.2, .row 37 7 d [(cj o s x.kind x.core).2.1.av])) (fun f as2 h=>by cases h) ?_ ?_
  ·have e1:ev fr (.t 7)= .pt θ.2 1 0 0:=p7
   have e2:ev fr (.t 26)=(cj o s x.kind x.core).2.1.av:=p5
   simp only[bq,e1,e2,g3]
   rfl
  refine⟨θ,fun _ _=>rfl,rfl,Nat.le_succ_of_le hlw,fun y hy=>(bj (by omega)).trans (hh.same y hy),fun a b=> ?_,fun a b=> ?_,fun _=>⟨g1,by omega,_,_,cN _ _ _⟩,fun _=>⟨_,cN _ _ _⟩⟩
  ·have b:D 3=false:=by simpa using b
   rw[a3] at b;cases b
  ·have b:D 3=false:=by simpa using b
   rw[a3] at b;cases b
end
end Go.Proofs.YtlonbgdonffcbaaGreatDoor
end
section
/- Which plain ways lead on: the walk of plainly. -/
namespace Go.Proofs.YtlonbgdonffcbaaGreatDoor
open Go Go.cY Go.Proofs
set_option linter.unusedSimpArgs false
set_option linter.unusedVariables false
set_option maxRecDepth 8000
section
variable {o:Obj} {s:bk} {x:cC} {vb lo:Nat} {H0:Hp}
theorem xX {fr0:Fr} {Q:QT} (g:Good o s) (ok:cz o) (hlk:eH s) (hpl:(s.bh.length+1) * 16≤140737488355328) (h0:cM fr0 0=s.frozen o) (h5:cM fr0 5= .pt vb 1 0 0) (hvb:∃d,bf H0 vb=some (.row 42 2 d [x.av])) (hvl:vb<lo)
 (hK:∀f1 H1 n1 db,cM f1 7= .pt db 1 0 0→(∀t,(∀y∈[22,23,24,25,21,26,27,7,8],t≠y)→cM f1 t=cM fr0 t)→lo≤db→db<n1→(∃d,bf H1 db=some (.row 37 7 d [(cj o s x.kind x.core).2.1.av]))→lo≤n1→(∀y,y<lo→bf H1 y=bf H0 y)→∃f',kX f1 f'∧Go (Q .normal f' H1 n1)):
 gU Tryz.prog [⟨uM,QG⟩,⟨[oN 8 (.mv (.t 27))],[]⟩] fr0 H0 lo Q:=by
 refine gU.II (II (H0:=H0) (lo:=lo) g ok hlk hpl h0 h5 hvb hvl) ⟨(⟨0,0,0,0,[]⟩,0),⟨fun i g t' _ hL=>(by cases hL),fun t' _=>rfl⟩,⟨Nat.le_refl _,fun y _=>rfl,fun a=>(by cases a),fun a=>(by cases a),fun a=>(by cases a),fun a=>(by cases a)⟩⟩ ?_
 intro D fr' H' n' hall ⟨θ,hv,hh⟩
 have v:=fun(j:Nat) (g':fi) (t':Nat) (h1:uM[j]?=some g') (h2:g'.dst=some t') (h3:j<9)=>hv.val j g' t' h1 (hall j h3) h2
 have p27:cM fr' 27=i64 (cj o s x.kind x.core).2.2:=v 6 _ 27 rfl rfl (by decide)
 have p7:cM fr' 7= .pt θ.2 1 0 0:=v 7 _ 7 rfl rfl (by decide)
 obtain⟨g1,g2,_⟩:=hh.al (hall 7 (by decide))
 have g3:=hh.st (hall 8 (by decide))
 show dX Tryz.prog n' fr' H' (.mv (.t 27)) (fun r H' nx'=>∃f',kX (eY fr' (some 8) r) f'∧Go (Q .normal f' H' nx'))
 refine dX.look (op:= .mv (.t 27)) (r:=i64 (cj o s x.kind x.core).2.2) (fun f as2 h=>by cases h) (by simp only[bq,ev];rw[p27]) ?_
 refine hK _ _ _ θ.2 (by simp only[eY,cM,show(7==8)=false from rfl];exact p7) (fun t ht=> ?_) g1 (by omega) g3 (Nat.le_succ_of_le hh.lw) hh.same
 have h8:t≠8:=ht 8 (by simp)
 have:cM (eY fr' (some 8) (i64 (cj o s x.kind x.core).2.2)) t=cM fr' t:=by simp[eY,cM,h8]
 rw[this]
 refine hv.j1 t fun gg hg=> ?_
 have:∀gg∈uM,∀y,gg.dst=some y→y∈[22,23,24,25,21,26,27,7,8]:=by decide
 intro e
 exact ht t (this gg hg t e) rfl
end
set_option maxHeartbeats 4000000 in
theorem yP {o:Obj} {s:bk} (g:Good o s) (ok:cz o) (hlk:eH s) (hpl:(s.bh.length+1) * 16≤140737488355328):Pure Tryz.prog 52 [s.frozen o] (fun r=>r=nQ (de true o s)):=by
 have hc:=hlk.bg
 have c0:=w8 g hc
 have hle:=jo o s s.bg.length
 have hmv:de true o s=((dZ o s s.bg.length).filter fun x=>decide (x.kind=1)).map (fU o s):=by unfold de;rw[if_pos rfl]
 have hwf:∀x∈dZ o s s.bg.length,x.kind=1∨x.kind=2:=fun x hx=>by
  obtain⟨q,_,_,h⟩:=tJ hx
  rcases h with h|h
  ·exact .inl h.1
  ·exact .inr h.1
 rw[hmv]
 generalize dZ o s s.bg.length=rs at *
 simp only[bk.frozen] at c0 ⊢
 refine cq ?_ (by simp only[cB];exact pY _)
 refine aO F4 rfl ?_
 refine rY ?_
 simp only[List.length_map]
 obtain⟨P,hP⟩:∃P:Nat→List (List cC),∀i,P i=((rs.take i).filter fun x=>decide (x.kind=1)).map (fU o s):=⟨fun i=>_,fun i=>rfl⟩
 have hP0:P 0=[]:=by rw[hP];rfl
 have hPl:∀i,(P i).length≤i:=fun i=>by
  rw[hP,List.length_map]
  refine Nat.le_trans (List.length_filter_le _ _) ?_
  rw[List.length_take];omega
 refine aQ (fun i:Nat=>[(0,s.frozen o),(3, .sl 5 (P i).length),(10,gM rs),(11,i64 rs.length),(12,i64 i)])
  (fun i H n=>i≤rs.length∧6≤n∧∃d,bf H 5=some (.row 83 1 d ((P i).map jC))) (fun i=>rs.length - i) 0
  ⟨_,_,_,Rt.nil 3 83 1 (by omega) rfl,by rw[hP0];exact cG,Nat.zero_le _,cO,⟨_,by rw[hP0];exact bo⟩⟩ ?_
 rintro i H n ⟨hi,hn,d,r5⟩
 have hrl:((P i).map jC).length=(P i).length:=List.length_map _
 have hpi:=hPl i
 by_cases hil:i<rs.length
 ·have e0:∀d,(rs.map cC.av).getD ((i:Int)).toNat d=(rs.getD i default).av:=fun d=>by rw[Int.toNat_natCast];exact dR _ _ _ d hil
  have a0:(rs.map cC.av).length=rs.length:=List.length_map _
  have hPs:P (i+1)=P i++(if(rs.getD i default).kind=1 then[fU o s (rs.getD i default)] else[]):=by
   rw[hP,hP,List.take_succ_eq_append_getElem hil,List.filter_append,List.map_append,show rs.getD i default=rs[i] by simp[List.getD,hil]]
   congr 1
   by_cases h1:rs[i].kind=1
   ·rw[if_pos h1];simp[h1]
   ·rw[if_neg h1];simp[h1]
  have hkk:=hwf _ (gk (l:=rs) default hil)
  generalize rs.getD i default=x at *
  by_cases hx1:x.kind=1
  ·rw[if_pos hx1] at hPs
   refine rY ?_
   refine xX (s:=s) (x:=x) (vb:=n+3) g ok hlk hpl rfl rfl ⟨_,bo⟩ (by omega) ?_
   intro f1 H1 n1 db h7 hold hdb1 hdb2 ⟨dd,rd⟩ hn1 hk1
   have hb9:∃d,bf H1 (n+9)=some (.row 42 2 d [x.av]):=⟨_,(hk1 _ (by omega)).trans bo⟩
   have hb3:∃d,bf H1 (n+3)=some (.row 42 2 d [x.av]):=⟨_,(hk1 _ (by omega)).trans bo⟩
   have hb5:∃d,bf H1 5=some (.row 83 1 d ((P i).map jC)):=⟨_,(hk1 _ (by omega)).trans bo⟩
   obtain⟨d9,hb9⟩:=hb9
   obtain⟨d3,hb3⟩:=hb3
   obtain⟨d5,hb5⟩:=hb5
   clear hk1
   refine⟨[(0,s.frozen o),(3, .sl 5 (P i).length),(5, .pt (n+3) 1 0 0),(6, .sl (n+9) 1),(7, .pt db 1 0 0),(10,gM rs),(11,i64 rs.length),(12,i64 i)],⟨(hold 0 (by decide)).trans rfl,(hold 3 (by decide)).trans rfl,(hold 5 (by decide)).trans rfl,(hold 6 (by decide)).trans rfl,h7,(hold 10 (by decide)).trans rfl,(hold 11 (by decide)).trans rfl,(hold 12 (by decide)).trans rfl,trivial⟩, ?_⟩
   clear hold r5 e0 hPl c0 hmv hP hP0
   have hPl2:(P (i+1)).length=(P i).length+1:=by rw[hPs,List.length_append];rfl
   by_cases hk3:(cj o s x.kind x.core).2.1.kind=3
   ·have hmv:fU o s x=[x,⟨2,x.core⟩]:=by unfold fU;rw[if_pos hk3]
    rw[hmv] at hPs
    generalize cj o s x.kind x.core=y at *
    have r0:=decide_eq_true hk3
    refine rY ?_
    refine⟨i+1,by omega,_,_,_,Rt.wk (Wk.MV (b:=n+9) (cb:=5) (es:=(P i).map jC++[.sl (n+9) 2]) (l:=[x.av,(⟨2,x.core⟩:cC).av]) .any bo bo (qe uD rfl)),by rw[hPl2];exact cG,by omega,cO,⟨.any, ?_⟩⟩
    rw[hPs,List.map_append]
    exact bo
   ·have hmv:fU o s x=[x]:=by unfold fU;rw[if_neg hk3]
    rw[hmv] at hPs
    generalize cj o s x.kind x.core=y at *
    have r0:=decide_eq_false hk3
    refine rY ?_
    refine⟨i+1,by omega,_,_,_,Rt.wk (Wk.MV (b:=n+9) (cb:=5) (es:=(P i).map jC++[.sl (n+9) 1]) (l:=[x.av]) .any bo bo (qe uD rfl)),by rw[hPl2];exact cG,by omega,cO,⟨.any, ?_⟩⟩
    rw[hPs,List.map_append]
    exact bo
  ·rw[if_neg hx1,List.append_nil] at hPs
   refine rY ?_
   exact⟨i+1,by omega,_,_,_,Rt.refl _ _ _,by rw[hPs];exact cG,by omega,cO,⟨_,by rw[hPs];exact bo⟩⟩
 ·obtain rfl:i=rs.length:=by omega
  have hPe:P rs.length=(rs.filter fun x=>decide (x.kind=1)).map (fU o s):=by rw[hP,List.take_length]
  rw[hPe] at r5 hrl
  refine rY ?_
  refine⟨?_⟩
  rw[mN (k:=5) bo (by rw[hPe];exact hrl),eK _ (pY _)]
end Go.Proofs.YtlonbgdonffcbaaGreatDoor
end
