import Derived.Test.YtmonponfppdgfaaGreatDoorM33
import Derived.Test.YtmonponfppdgfaaGreatDoorM34
namespace Go.Proofs.YtmonponfppdgfaaGreatDoor
open Go Go.dD Go.Proofs
set_option linter.unusedSimpArgs false
set_option linter.unusedVariables false
theorem vC {l:List Decl} {i:Nat} (h:i<l.length) (d:AV):(l.map Decl.av).getD ((i:Int)).toNat d=(l.getD i default).av:=by rw[Int.toNat_natCast];exact dG Decl.av l i d h
theorem kL {α:Type} {l m:List α} (d:α) (hlm:l.length=m.length) (h:∀j,j<l.length->l.getD j d=m.getD j d):l=m:=by
 refine List.ext_getElem hlm fun j h1 h2=> ?_
 have:=h j h1
 simpa[List.getD,h1,h2] using this
theorem BM (a b:ByteArray):(a==b)=decide (a=b):=by
 obtain⟨d⟩:=a
 obtain⟨d'⟩:=b
 show(d==d')=_
 rw[Bool.eq_iff_iff]
 simp
theorem Decl.tD {a b:Decl} (h1:a.name=b.name) (h2:a.word=b.word) (h3:a.at_=b.at_):a=b:=by
 obtain⟨a1,a2,a3⟩:=a
 obtain⟨b1,b2,b3⟩:=b
 simp only at h1 h2 h3
 subst h1;subst h2;subst h3;rfl
theorem l7.tD {a b:l7} (h1:a.eA=b.eA) (h2:a.slot=b.slot) (h3:a.word=b.word):a=b:=by
 obtain⟨a1,a2,a3⟩:=a
 obtain⟨b1,b2,b3⟩:=b
 simp only at h1 h2 h3
 subst h1;subst h2;subst h3;rfl
theorem Node.N0 {a b:Node} (h1:a.kind=b.kind) (h2:a.op=b.op) (h3:a.slot=b.slot) (h4:a.cT=b.cT) (h5:a.a=b.a) (h6:a.b=b.b) (h7:a.next=b.next) (h8:a.jc=b.jc) (h9:a.origin=b.origin):a=b:=by
 obtain⟨a1,a2,a3,a4,a5,a6,a7,a8,a9⟩:=a
 obtain⟨b1,b2,b3,b4,b5,b6,b7,b8,b9⟩:=b
 simp only at h1 h2 h3 h4 h5 h6 h7 h8 h9
 subst h1;subst h2;subst h3;subst h4;subst h5;subst h6;subst h7;subst h8;subst h9;rfl
theorem br.NZ {a b:br} (h1:a.name=b.name) (h2:a.locals=b.locals) (h3:a.cZ=b.cZ) (h4:a.nodes=b.nodes):a=b:=by
 obtain⟨a1,a2,a3,a4⟩:=a
 obtain⟨b1,b2,b3,b4⟩:=b
 simp only at h1 h2 h3 h4
 subst h1;subst h2;subst h3;subst h4;rfl
theorem gn (l:List Decl):cL 0 (l.map Decl.av):=(cK _ _).2 fun _ _=>by simp[cJ,cL,Decl.cells]
theorem mj (l:List Node):cL 0 (l.map Node.av):=(cK _ _).2 fun _ _=>by simp[cJ,cL,Node.cells]
theorem lP (l:List br):cL 0 (l.map br.av):=(cK _ _).2 fun _ _=>by simp[cJ,cL,br.cells,mj]
theorem BS {es:List AV} (hsz:es.length * 32<=140737488355328):cM Tryz.prog 28 [.im 3 .any es] [] 0 (nW [] 0 48 3 es):=by
 refine nW.of (by omega) ?_
 refine aI F0 rfl ?_
 cases hes:es with
 |nil=>
  repeat' (first|refine aQ ?_|exact aC|with_reducible refine aB ?_ ?_|(apply aA;(·exact bp))|refine aH ?_|((with_reducible refine aE ?_ ?_)<;>intro hc<;>try(exfalso;omega)))
  ·exact⟨.inl ⟨rfl,rfl,cI,kE⟩⟩
  ·exact⟨.inr ⟨_,_,rfl,cI,cI,cI,bm,kE⟩⟩
 |cons x t=>
  rw[hes] at hsz
  simp only[List.length_cons] at hsz
  repeat' (first|refine aQ ?_|exact aC|with_reducible refine aB ?_ ?_|(apply aA;(·exact bp))|refine aH ?_|((with_reducible refine aE ?_ ?_)<;>intro hc<;>try(exfalso;omega)))
  ·exact⟨.inr ⟨3,_,(by simp),cI,cI,cI,bm,kE⟩⟩
theorem tm {es:List AV} (hsz:es.length * 32<=140737488355328):cM Tryz.prog 28 [.im 3 .any es] [] 0 (fun r1 H1 _=>∃b d0,r1= .sl b es.length/\bk H1 b=some (.row 48 3 d0 es)):=
 (BS hsz).mono fun r H n ⟨b,d,h1,_,_,_,h2,_⟩=>⟨b,d,h1,h2⟩
theorem px (l:List Decl) (hl:l.length * 32<=140737488351232):Pure Tryz.prog 28 [dN l] (fun r=>r=dN l):=by
 refine oj (by rw[cJ];exact gn l) ((tm (es:=l.map Decl.av) (by rw[List.length_map];omega)).mono ?_)
 rintro r H n ⟨b,d0,rfl,hb⟩
 right
 rw[dM hb (by simp),cf _ (gn l)]
set_option maxRecDepth 4000 in
set_option maxHeartbeats 4000000 in
theorem oO (l m:List Decl) (hl:l.length * 32<=140737488351232) (hm:m.length * 32<=140737488351232):Pure Tryz.prog 59 [dN l,dN m] (fun r=>r=bl (decide (l=m))):=by
 refine aG GY rfl ?_
 repeat' (first|refine aQ ?_|exact aC|with_reducible refine aB ?_ ?_|(apply aA;(·exact bp))|refine aH ?_|((with_reducible refine aE ?_ ?_)<;>intro hc<;>try(exfalso;omega)))
 ·refine cn (Eq.symm ?_)
  exact decide_eq_false fun e=>hc (by rw[e])
 ·have hlm:l.length=m.length:=by omega
  refine aF (fun i:Nat=>[(0,dN l),(1,dN m),(12,i64 l.length),(13,i64 i)])
   (fun i H n=>i<=l.length/\∀j,j<i->l.getD j default=m.getD j default) (fun i=>l.length - i) 0 bu ⟨Nat.zero_le _,fun _ h=>by omega⟩ ?_
  rintro i H n ⟨hi,hall⟩
  by_cases hil:i<l.length
  ·have e1:=fun d=>vC (l:=l) hil d
   have e2:=fun d=>vC (l:=m) (i:=i) (by omega) d
   repeat' (first|refine aQ ?_|exact cP|with_reducible refine aB ?_ ?_|((with_reducible refine Ask.mk ?_);first|exact bx|exact bt|(intro h;simp_all[Decl.cells]<;>fail)|(simp_all[Decl.cells]<;>fail))|(apply aA;(·(first|exact e1 _|exact e2 _|exact bp)))|refine aH ?_|((with_reducible refine aE ?_ ?_)<;>intro hc<;>try(exfalso;omega)))
   ·refine cn (Eq.symm ?_)
    refine decide_eq_false fun e=> ?_
    rw[e] at hc
    simp[BM] at hc
   ·refine⟨i+1,by omega,bu,by omega,fun j hj=> ?_⟩
    by_cases hji:j=i
    ·subst hji
     obtain⟨h1,h2,h3,_⟩:=hc
     rw[BM,decide_eq_true_eq] at h1
     exact Decl.tD h1 h2 h3
    ·exact hall j (by omega)
  ·have:i=l.length:=by omega
   subst this
   repeat' (first|refine aQ ?_|exact aC|with_reducible refine aB ?_ ?_|(apply aA;(·exact bp))|refine aH ?_|((with_reducible refine aE ?_ ?_)<;>intro hc<;>try(exfalso;omega)))
   refine cn (Eq.symm ?_)
   exact decide_eq_true (kL default hlm hall)
set_option maxRecDepth 4000 in
set_option maxHeartbeats 8000000 in
theorem vE (l m:List Node) (hl:l.length * 88<=140737488351232) (hm:m.length * 88<=140737488351232):Pure Tryz.prog 62 [ee l,ee m] (fun r=>r=bl (decide (l=m))):=by
 refine aG G2 rfl ?_
 repeat' (first|refine aQ ?_|exact aC|with_reducible refine aB ?_ ?_|(apply aA;(·exact bp))|refine aH ?_|((with_reducible refine aE ?_ ?_)<;>intro hc<;>try(exfalso;omega)))
 ·refine cn (Eq.symm ?_)
  exact decide_eq_false fun e=>hc (by rw[e])
 ·have hlm:l.length=m.length:=by omega
  refine aF (fun i:Nat=>[(0,ee l),(1,ee m),(12,i64 l.length),(13,i64 i)])
   (fun i H n=>i<=l.length/\∀j,j<i->l.getD j default=m.getD j default) (fun i=>l.length - i) 0 bu ⟨Nat.zero_le _,fun _ h=>by omega⟩ ?_
  rintro i H n ⟨hi,hall⟩
  by_cases hil:i<l.length
  ·have e1:=fun d=>eH (l:=l) hil d
   have e2:=fun d=>eH (l:=m) (i:=i) (by omega) d
   repeat' (first|refine aQ ?_|exact cP|with_reducible refine aB ?_ ?_|((with_reducible refine Ask.mk ?_);first|exact bx|exact bt|(intro h;simp_all[Node.cells]<;>fail)|(simp_all[Node.cells]<;>fail))|(apply aA;(·(first|exact e1 _|exact e2 _|exact bp)))|refine aH ?_|((with_reducible refine aE ?_ ?_)<;>intro hc<;>try(exfalso;omega)))
   ·refine cn (Eq.symm ?_)
    refine decide_eq_false fun e=> ?_
    rw[e] at hc
    simp at hc
   ·refine⟨i+1,by omega,bu,by omega,fun j hj=> ?_⟩
    by_cases hji:j=i
    ·subst hji
     obtain⟨h1,h2,h3,h4,h5,h6,h7,h8,h9,h10,h11,h12,h13,_⟩:=hc
     exact Node.N0 h1 h2 h3 h4 (l7.tD (by simpa using h5) h6 h7) (l7.tD (by simpa using h8) h9 h10) h11 h12 h13
    ·exact hall j (by omega)
  ·have:i=l.length:=by omega
   subst this
   repeat' (first|refine aQ ?_|exact aC|with_reducible refine aB ?_ ?_|(apply aA;(·exact bp))|refine aH ?_|((with_reducible refine aE ?_ ?_)<;>intro hc<;>try(exfalso;omega)))
   refine cn (Eq.symm ?_)
   exact decide_eq_true (kL default hlm hall)
theorem vD (a b:br) (ha:a.Wf) (hb:b.Wf):Pure Tryz.prog 61 [a.av,b.av] (fun r=>r=bl (decide (a=b))):=by
 have hla:=ha.len
 have hlb:=hb.len
 have hn:=vE a.nodes b.nodes hla hlb
 refine aG G1 rfl ?_
 repeat' (first|refine aQ ?_|exact cP|with_reducible refine aB ?_ ?_|((with_reducible refine Ask.mk ?_);first|exact bx|exact bt|(intro h;simp_all[br.cells]<;>fail)|(simp_all[br.cells]<;>fail))|(apply aA;(·exact bp))|refine aK (hn) ?_|refine aH ?_|((with_reducible refine aE ?_ ?_)<;>intro hc<;>try(exfalso;omega)))
 have key:decide (a=b)=(decide (a.name=b.name)&&decide (a.locals=b.locals)&&decide (a.cZ=b.cZ)&&decide (a.nodes=b.nodes)):=by
  rw[Bool.eq_iff_iff]
  simp only[Bool.and_eq_true,decide_eq_true_eq]
  exact⟨fun e=>by rw[e];exact⟨⟨⟨rfl,rfl⟩,rfl⟩,rfl⟩,fun⟨⟨⟨h1,h2⟩,h3⟩,h4⟩=>br.NZ h1 h2 h3 h4⟩
 refine cn ?_
 rw[BM,key]
 cases decide (a.name=b.name)<;>cases decide (a.locals=b.locals)<;>cases decide (a.cZ=b.cZ)<;>rfl
theorem tC (l m:List br) (hl:∀g∈l,g.Wf) (hm:∀g∈m,g.Wf) (hll:l.length * 56<=140737488351232) (hml:m.length * 56<=140737488351232):Pure Tryz.prog 60 [fR l,fR m, .fn (.func 61) [] []] (fun r=>r=bl (decide (l=m))):=by
 refine aG GZ rfl ?_
 repeat' (first|refine aQ ?_|exact aC|with_reducible refine aB ?_ ?_|(apply aA;(·exact bp))|refine aH ?_|((with_reducible refine aE ?_ ?_)<;>intro hc<;>try(exfalso;omega)))
 ·refine cn (Eq.symm ?_)
  exact decide_eq_false fun e=>hc (by rw[e])
 ·have hlm:l.length=m.length:=by omega
  refine aF (fun i:Nat=>[(1,fR m),(2, .fn (.func 61) [] []),(15,fR l),(16,i64 l.length),(17,i64 i)])
   (fun i H n=>i<=l.length/\∀j,j<i->l.getD j default=m.getD j default) (fun i=>l.length - i) 0 bu ⟨Nat.zero_le _,fun _ h=>by omega⟩ ?_
  rintro i H n ⟨hi,hall⟩
  by_cases hil:i<l.length
  ·have e1:=fun d=>j3 (l:=l) hil d
   have e2:=fun d=>j3 (l:=m) (i:=i) (by omega) d
   have hcmp:=vD (l.getD i default) (m.getD i default) (hl _ (cE default hil)) (hm _ (cE default (by omega)))
   by_cases heq:l.getD i default=m.getD i default
   ·rw[decide_eq_true heq] at hcmp
    repeat' (first|refine aQ ?_|exact cP|with_reducible refine aB ?_ ?_|((with_reducible refine Ask.mk ?_);first|exact bx|exact bt|(intro h;simp_all[br.cells]<;>fail)|(simp_all[br.cells]<;>fail))|(apply aA;(·(first|exact e1 _|exact e2 _|exact bp)))|refine aK (hcmp) ?_|refine aH ?_|((with_reducible refine aE ?_ ?_)<;>intro hc<;>try(exfalso;omega)))
    refine⟨i+1,by omega,bu,by omega,fun j hj=> ?_⟩
    by_cases hji:j=i
    ·subst hji;exact heq
    ·exact hall j (by omega)
   ·rw[decide_eq_false heq] at hcmp
    repeat' (first|refine aQ ?_|exact cP|with_reducible refine aB ?_ ?_|((with_reducible refine Ask.mk ?_);first|exact bx|exact bt|(intro h;simp_all[br.cells]<;>fail)|(simp_all[br.cells]<;>fail))|(apply aA;(·(first|exact e1 _|exact e2 _|exact bp)))|refine aK (hcmp) ?_|refine aH ?_|((with_reducible refine aE ?_ ?_)<;>intro hc<;>try(exfalso;omega)))
    refine cn (Eq.symm ?_)
    exact decide_eq_false fun e=>heq (by rw[e])
  ·have:i=l.length:=by omega
   subst this
   repeat' (first|refine aQ ?_|exact aC|with_reducible refine aB ?_ ?_|(apply aA;(·exact bp))|refine aH ?_|((with_reducible refine aE ?_ ?_)<;>intro hc<;>try(exfalso;omega)))
   refine cn (Eq.symm ?_)
   exact decide_eq_true (kL default hlm hall)
theorem bq.tD {a b:bq} (h1:a.shared=b.shared) (h2:a.bz=b.bz) (h3:a.bo=b.bo):a=b:=by
 obtain⟨a1,a2,a3⟩:=a
 obtain⟨b1,b2,b3⟩:=b
 simp only at h1 h2 h3
 subst h1;subst h2;subst h3;rfl
theorem oM (u v:bq) (hu:u.Wf) (hv:v.Wf):Pure Tryz.prog 36 [u.av,v.av] (fun r=>r=bl (decide (u=v))):=by
 have h1:=oO u.shared v.shared hu.gJ hv.gJ
 have h2:=oO u.bz v.bz hu.gz hv.gz
 have h3:=tC u.bo v.bo hu.bo hv.bo hu.gp hv.gp
 refine aG F9 rfl ?_
 repeat' (first|refine aQ ?_|exact cP|with_reducible refine aB ?_ ?_|((with_reducible refine Ask.mk ?_);first|exact bx|exact bt|(intro h;simp_all[bq.cells]<;>fail)|(simp_all[bq.cells]<;>fail))|(apply aA;(·exact bp))|refine aK (h1) ?_|refine aK (h2) ?_|refine aK (h3) ?_|refine aH ?_|((with_reducible refine aE ?_ ?_)<;>intro hc<;>try(exfalso;omega)))
 have key:decide (u=v)=(decide (u.shared=v.shared)&&decide (u.bz=v.bz)&&decide (u.bo=v.bo)):=by
  rw[Bool.eq_iff_iff]
  simp only[Bool.and_eq_true,decide_eq_true_eq]
  exact⟨fun e=>by rw[e];exact⟨⟨rfl,rfl⟩,rfl⟩,fun⟨⟨h1,h2⟩,h3⟩=>bq.tD h1 h2 h3⟩
 refine cn ?_
 rw[key]
 cases decide (u.shared=v.shared)<;>cases decide (u.bz=v.bz)<;>rfl
end Go.Proofs.YtmonponfppdgfaaGreatDoor
