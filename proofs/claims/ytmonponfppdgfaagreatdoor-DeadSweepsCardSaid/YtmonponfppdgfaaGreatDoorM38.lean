import Derived.Test.YtmonponfppdgfaaGreatDoorM37
import Derived.Test.YtmonponfppdgfaaGreatDoorM31
section
/- Units compared and copied: the walk. -/
namespace Go.Proofs.YtmonponfppdgfaaGreatDoor
open Go Go.ch Go.Proofs
set_option linter.unusedSimpArgs false
set_option linter.unusedVariables false
theorem uH {l:List Decl} {i:Nat} (h:i<l.length) (d:AV):(l.map Decl.av).getD ((i:Int)).toNat d=(l.getD i default).av:=by rw[Int.toNat_natCast];exact dJ Decl.av l i d h
theorem js {α:Type} {l m:List α} (d:α) (hlm:l.length=m.length) (h:∀j,j<l.length→l.getD j d=m.getD j d):l=m:=by
 refine List.ext_getElem hlm fun j h1 h2=> ?_
 have:=h j h1
 simpa[List.getD,h1,h2] using this
theorem z7 (a b:ByteArray):(a==b)=decide (a=b):=by
 obtain⟨d⟩:=a
 obtain⟨d'⟩:=b
 show(d==d')=_
 rw[Bool.eq_iff_iff]
 simp
theorem Decl.sN {a b:Decl} (h1:a.name=b.name) (h2:a.word=b.word) (h3:a.at_=b.at_):a=b:=by
 obtain⟨a1,a2,a3⟩:=a
 obtain⟨b1,b2,b3⟩:=b
 simp only at h1 h2 h3
 subst h1;subst h2;subst h3;rfl
theorem lL.sN {a b:lL} (h1:a.dr=b.dr) (h2:a.slot=b.slot) (h3:a.word=b.word):a=b:=by
 obtain⟨a1,a2,a3⟩:=a
 obtain⟨b1,b2,b3⟩:=b
 simp only at h1 h2 h3
 subst h1;subst h2;subst h3;rfl
theorem Node.K7 {a b:Node} (h1:a.kind=b.kind) (h2:a.op=b.op) (h3:a.slot=b.slot) (h4:a.cP=b.cP) (h5:a.a=b.a) (h6:a.b=b.b) (h7:a.next=b.next) (h8:a.jT=b.jT) (h9:a.origin=b.origin):a=b:=by
 obtain⟨a1,a2,a3,a4,a5,a6,a7,a8,a9⟩:=a
 obtain⟨b1,b2,b3,b4,b5,b6,b7,b8,b9⟩:=b
 simp only at h1 h2 h3 h4 h5 h6 h7 h8 h9
 subst h1;subst h2;subst h3;subst h4;subst h5;subst h6;subst h7;subst h8;subst h9;rfl
theorem bo.K6 {a b:bo} (h1:a.name=b.name) (h2:a.locals=b.locals) (h3:a.cf=b.cf) (h4:a.nodes=b.nodes):a=b:=by
 obtain⟨a1,a2,a3,a4⟩:=a
 obtain⟨b1,b2,b3,b4⟩:=b
 simp only at h1 h2 h3 h4
 subst h1;subst h2;subst h3;subst h4;rfl
theorem gK (l:List Decl):cL 0 (l.map Decl.av):=(cJ _ _).2 fun _ _=>by simp[cG,cL,Decl.cells]
theorem mN (l:List Node):cL 0 (l.map Node.av):=(cJ _ _).2 fun _ _=>by simp[cG,cL,Node.cells]
theorem kq (l:List bo):cL 0 (l.map bo.av):=(cJ _ _).2 fun _ _=>by simp[cG,cL,bo.cells,mN]
theorem ze {es:List AV} (hsz:es.length * 32≤140737488355328):cM Tryz.prog 28 [.im 3 .any es] [] 0 (mo [] 0 48 3 es):=by
 refine mo.of (by omega) ?_
 refine aL DN rfl ?_
 cases hes:es with
 |nil=>
  repeat' (first|((with_reducible refine aE ?_);conv=>whnf)|refine aG ?_|exact aC|with_reducible refine aD ?_ ?_|(apply aA;(·exact bm))|refine aH ?_|((with_reducible refine aB ?_ ?_)<;>intro hc<;>(try simp only[List.length_map,ne_eq,cD] at hc)<;>try(exfalso;omega)))
  ·exact⟨.inl ⟨rfl,rfl,cH,jk⟩⟩
  ·exact⟨.inr ⟨_,_,rfl,cH,cH,cH,bk,jk⟩⟩
 |cons x t=>
  rw[hes] at hsz
  simp only[List.length_cons] at hsz
  repeat' (first|((with_reducible refine aE ?_);conv=>whnf)|refine aG ?_|exact aC|with_reducible refine aD ?_ ?_|(apply aA;(·exact bm))|refine aH ?_|((with_reducible refine aB ?_ ?_)<;>intro hc<;>(try simp only[List.length_map,ne_eq,cD] at hc)<;>try(exfalso;omega)))
  ·exact⟨.inr ⟨3,_,(by simp),cH,cH,cH,bk,jk⟩⟩
theorem zf {es:List AV} (hsz:es.length * 32≤140737488355328):cM Tryz.prog 28 [.im 3 .any es] [] 0 (fun r1 H1 _=>∃b d0,r1= .sl b es.length∧bj H1 b=some (.row 48 3 d0 es)):=
 (ze hsz).mono fun r H n ⟨b,d,h1,_,_,_,h2,_⟩=>⟨b,d,h1,h2⟩
theorem pP (l:List Decl) (hl:l.length * 32≤140737488351232):Pure Tryz.prog 28 [dM l] (fun r=>r=dM l):=by
 refine oM (by rw[cG];exact gK l) ((zf (es:=l.map Decl.av) (by rw[List.length_map];omega)).mono ?_)
 rintro r H n ⟨b,d0,rfl,hb⟩
 right
 rw[dH hb (by simp),ca _ (gK l)]
set_option maxRecDepth 4000 in
set_option maxHeartbeats 4000000 in
theorem ni (l m:List Decl) (hl:l.length * 32≤140737488351232) (hm:m.length * 32≤140737488351232):Pure Tryz.prog 59 [dM l,dM m] (fun r=>r=bl (decide (l=m))):=by
 refine aJ EI rfl ?_
 repeat' (first|((with_reducible refine aE ?_);conv=>whnf)|refine aG ?_|exact aC|with_reducible refine aD ?_ ?_|(apply aA;(·exact bm))|refine aH ?_|((with_reducible refine aB ?_ ?_)<;>intro hc<;>(try simp only[List.length_map,ne_eq,cD] at hc)<;>try(exfalso;omega)))
 ·refine cg (Eq.symm ?_)
  exact decide_eq_false fun e=>hc (by rw[e])
 ·have hlm:l.length=m.length:=by omega
  refine aI (fun i:Nat=>[(0,dM l),(1,dM m),(12,i64 l.length),(13,i64 i)])
   (fun i H n=>i≤l.length∧∀j,j<i→l.getD j default=m.getD j default) (fun i=>l.length - i) 0 bt ⟨Nat.zero_le _,fun _ h=>by omega⟩ ?_
  rintro i H n ⟨hi,hall⟩
  by_cases hil:i<l.length
  ·have e1:=fun d=>uH (l:=l) hil d
   have e2:=fun d=>uH (l:=m) (i:=i) (by omega) d
   repeat' (first|((with_reducible refine aE ?_);conv=>whnf)|refine aG ?_|exact cN|with_reducible refine aD ?_ ?_|((with_reducible refine Ask.mk ?_);first|exact bw|exact br|(intro h;simp_all[Decl.cells]<;>fail)|(simp_all[Decl.cells]<;>fail))|(apply aA;(·(first|exact e1 _|exact e2 _|exact bm)))|refine aH ?_|((with_reducible refine aB ?_ ?_)<;>intro hc<;>(try simp only[List.length_map,ne_eq,cD] at hc)<;>try(exfalso;omega)))
   ·refine cg (Eq.symm ?_)
    refine decide_eq_false fun e=> ?_
    rw[e] at hc
    simp[z7] at hc
   ·refine⟨i+1,by omega,bt,by omega,fun j hj=> ?_⟩
    by_cases hji:j=i
    ·subst hji
     obtain⟨h1,h2,h3,_⟩:=hc
     rw[z7,decide_eq_true_eq] at h1
     exact Decl.sN h1 h2 h3
    ·exact hall j (by omega)
  ·have:i=l.length:=by omega
   subst this
   repeat' (first|((with_reducible refine aE ?_);conv=>whnf)|refine aG ?_|exact aC|with_reducible refine aD ?_ ?_|(apply aA;(·exact bm))|refine aH ?_|((with_reducible refine aB ?_ ?_)<;>intro hc<;>(try simp only[List.length_map,ne_eq,cD] at hc)<;>try(exfalso;omega)))
   refine cg (Eq.symm ?_)
   exact decide_eq_true (js default hlm hall)
set_option maxRecDepth 4000 in
set_option maxHeartbeats 8000000 in
theorem uK (l m:List Node) (hl:l.length * 88≤140737488351232) (hm:m.length * 88≤140737488351232):Pure Tryz.prog 62 [eU l,eU m] (fun r=>r=bl (decide (l=m))):=by
 refine aJ EL rfl ?_
 repeat' (first|((with_reducible refine aE ?_);conv=>whnf)|refine aG ?_|exact aC|with_reducible refine aD ?_ ?_|(apply aA;(·exact bm))|refine aH ?_|((with_reducible refine aB ?_ ?_)<;>intro hc<;>(try simp only[List.length_map,ne_eq,cD] at hc)<;>try(exfalso;omega)))
 ·refine cg (Eq.symm ?_)
  exact decide_eq_false fun e=>hc (by rw[e])
 ·have hlm:l.length=m.length:=by omega
  refine aI (fun i:Nat=>[(0,eU l),(1,eU m),(12,i64 l.length),(13,i64 i)])
   (fun i H n=>i≤l.length∧∀j,j<i→l.getD j default=m.getD j default) (fun i=>l.length - i) 0 bt ⟨Nat.zero_le _,fun _ h=>by omega⟩ ?_
  rintro i H n ⟨hi,hall⟩
  by_cases hil:i<l.length
  ·have e1:=fun d=>dy (l:=l) hil d
   have e2:=fun d=>dy (l:=m) (i:=i) (by omega) d
   repeat' (first|((with_reducible refine aE ?_);conv=>whnf)|refine aG ?_|exact cN|with_reducible refine aD ?_ ?_|((with_reducible refine Ask.mk ?_);first|exact bw|exact br|(intro h;simp_all[Node.cells]<;>fail)|(simp_all[Node.cells]<;>fail))|(apply aA;(·(first|exact e1 _|exact e2 _|exact bm)))|refine aH ?_|((with_reducible refine aB ?_ ?_)<;>intro hc<;>(try simp only[List.length_map,ne_eq,cD] at hc)<;>try(exfalso;omega)))
   ·refine cg (Eq.symm ?_)
    refine decide_eq_false fun e=> ?_
    rw[e] at hc
    simp at hc
   ·refine⟨i+1,by omega,bt,by omega,fun j hj=> ?_⟩
    by_cases hji:j=i
    ·subst hji
     obtain⟨h1,h2,h3,h4,h5,h6,h7,h8,h9,h10,h11,h12,h13,_⟩:=hc
     exact Node.K7 h1 h2 h3 h4 (lL.sN (by simpa using h5) h6 h7) (lL.sN (by simpa using h8) h9 h10) h11 h12 h13
    ·exact hall j (by omega)
  ·have:i=l.length:=by omega
   subst this
   repeat' (first|((with_reducible refine aE ?_);conv=>whnf)|refine aG ?_|exact aC|with_reducible refine aD ?_ ?_|(apply aA;(·exact bm))|refine aH ?_|((with_reducible refine aB ?_ ?_)<;>intro hc<;>(try simp only[List.length_map,ne_eq,cD] at hc)<;>try(exfalso;omega)))
   refine cg (Eq.symm ?_)
   exact decide_eq_true (js default hlm hall)
theorem uJ (a b:bo) (ha:a.Wf) (hb:b.Wf):Pure Tryz.prog 61 [a.av,b.av] (fun r=>r=bl (decide (a=b))):=by
 have hla:=ha.len
 have hlb:=hb.len
 have hn:=uK a.nodes b.nodes hla hlb
 refine aJ EK rfl ?_
 repeat' (first|((with_reducible refine aE ?_);conv=>whnf)|refine aG ?_|exact cN|with_reducible refine aD ?_ ?_|((with_reducible refine Ask.mk ?_);first|exact bw|exact br|(intro h;simp_all[bo.cells]<;>fail)|(simp_all[bo.cells]<;>fail))|(apply aA;(·exact bm))|refine aK (hn) ?_|refine aH ?_|((with_reducible refine aB ?_ ?_)<;>intro hc<;>(try simp only[List.length_map,ne_eq,cD] at hc)<;>try(exfalso;omega)))
 have key:decide (a=b)=(decide (a.name=b.name)&&decide (a.locals=b.locals)&&decide (a.cf=b.cf)&&decide (a.nodes=b.nodes)):=by
  rw[Bool.eq_iff_iff]
  simp only[Bool.and_eq_true,decide_eq_true_eq]
  exact⟨fun e=>by rw[e];exact⟨⟨⟨rfl,rfl⟩,rfl⟩,rfl⟩,fun⟨⟨⟨h1,h2⟩,h3⟩,h4⟩=>bo.K6 h1 h2 h3 h4⟩
 refine cg ?_
 rw[z7,key]
 cases decide (a.name=b.name)<;>cases decide (a.locals=b.locals)<;>cases decide (a.cf=b.cf)<;>rfl
theorem sM (l m:List bo) (hl:∀g∈l,g.Wf) (hm:∀g∈m,g.Wf) (hll:l.length * 56≤140737488351232) (hml:m.length * 56≤140737488351232):Pure Tryz.prog 60 [fG l,fG m, .fn (.func 61) [] []] (fun r=>r=bl (decide (l=m))):=by
 refine aJ EJ rfl ?_
 repeat' (first|((with_reducible refine aE ?_);conv=>whnf)|refine aG ?_|exact aC|with_reducible refine aD ?_ ?_|(apply aA;(·exact bm))|refine aH ?_|((with_reducible refine aB ?_ ?_)<;>intro hc<;>(try simp only[List.length_map,ne_eq,cD] at hc)<;>try(exfalso;omega)))
 ·refine cg (Eq.symm ?_)
  exact decide_eq_false fun e=>hc (by rw[e])
 ·have hlm:l.length=m.length:=by omega
  refine aI (fun i:Nat=>[(1,fG m),(2, .fn (.func 61) [] []),(15,fG l),(16,i64 l.length),(17,i64 i)])
   (fun i H n=>i≤l.length∧∀j,j<i→l.getD j default=m.getD j default) (fun i=>l.length - i) 0 bt ⟨Nat.zero_le _,fun _ h=>by omega⟩ ?_
  rintro i H n ⟨hi,hall⟩
  by_cases hil:i<l.length
  ·have e1:=fun d=>j3 (l:=l) hil d
   have e2:=fun d=>j3 (l:=m) (i:=i) (by omega) d
   have hcmp:=uJ (l.getD i default) (m.getD i default) (hl _ (cC default hil)) (hm _ (cC default (by omega)))
   by_cases heq:l.getD i default=m.getD i default
   ·rw[decide_eq_true heq] at hcmp
    repeat' (first|((with_reducible refine aE ?_);conv=>whnf)|refine aG ?_|exact cN|with_reducible refine aD ?_ ?_|((with_reducible refine Ask.mk ?_);first|exact bw|exact br|(intro h;simp_all[bo.cells]<;>fail)|(simp_all[bo.cells]<;>fail))|(apply aA;(·(first|exact e1 _|exact e2 _|exact bm)))|refine aK (hcmp) ?_|refine aH ?_|((with_reducible refine aB ?_ ?_)<;>intro hc<;>(try simp only[List.length_map,ne_eq,cD] at hc)<;>try(exfalso;omega)))
    refine⟨i+1,by omega,bt,by omega,fun j hj=> ?_⟩
    by_cases hji:j=i
    ·subst hji;exact heq
    ·exact hall j (by omega)
   ·rw[decide_eq_false heq] at hcmp
    repeat' (first|((with_reducible refine aE ?_);conv=>whnf)|refine aG ?_|exact cN|with_reducible refine aD ?_ ?_|((with_reducible refine Ask.mk ?_);first|exact bw|exact br|(intro h;simp_all[bo.cells]<;>fail)|(simp_all[bo.cells]<;>fail))|(apply aA;(·(first|exact e1 _|exact e2 _|exact bm)))|refine aK (hcmp) ?_|refine aH ?_|((with_reducible refine aB ?_ ?_)<;>intro hc<;>(try simp only[List.length_map,ne_eq,cD] at hc)<;>try(exfalso;omega)))
    refine cg (Eq.symm ?_)
    exact decide_eq_false fun e=>heq (by rw[e])
  ·have:i=l.length:=by omega
   subst this
   repeat' (first|((with_reducible refine aE ?_);conv=>whnf)|refine aG ?_|exact aC|with_reducible refine aD ?_ ?_|(apply aA;(·exact bm))|refine aH ?_|((with_reducible refine aB ?_ ?_)<;>intro hc<;>(try simp only[List.length_map,ne_eq,cD] at hc)<;>try(exfalso;omega)))
   refine cg (Eq.symm ?_)
   exact decide_eq_true (js default hlm hall)
theorem bp.sN {a b:bp} (h1:a.shared=b.shared) (h2:a.bx=b.bx) (h3:a.bq=b.bq):a=b:=by
 obtain⟨a1,a2,a3⟩:=a
 obtain⟨b1,b2,b3⟩:=b
 simp only at h1 h2 h3
 subst h1;subst h2;subst h3;rfl
theorem uE (u v:bp) (hu:u.Wf) (hv:v.Wf):Pure Tryz.prog 36 [u.av,v.av] (fun r=>r=bl (decide (u=v))):=by
 have h1:=ni u.shared v.shared hu.gL hv.gL
 have h2:=ni u.bx v.bx hu.gw hv.gw
 have h3:=sM u.bq v.bq hu.bq hv.bq hu.gb hv.gb
 refine aJ DV rfl ?_
 repeat' (first|((with_reducible refine aE ?_);conv=>whnf)|refine aG ?_|exact cN|with_reducible refine aD ?_ ?_|((with_reducible refine Ask.mk ?_);first|exact bw|exact br|(intro h;simp_all[bp.cells]<;>fail)|(simp_all[bp.cells]<;>fail))|(apply aA;(·exact bm))|refine aK (h1) ?_|refine aK (h2) ?_|refine aK (h3) ?_|refine aH ?_|((with_reducible refine aB ?_ ?_)<;>intro hc<;>(try simp only[List.length_map,ne_eq,cD] at hc)<;>try(exfalso;omega)))
 have key:decide (u=v)=(decide (u.shared=v.shared)&&decide (u.bx=v.bx)&&decide (u.bq=v.bq)):=by
  rw[Bool.eq_iff_iff]
  simp only[Bool.and_eq_true,decide_eq_true_eq]
  exact⟨fun e=>by rw[e];exact⟨⟨rfl,rfl⟩,rfl⟩,fun⟨⟨h1,h2⟩,h3⟩=>bp.sN h1 h2 h3⟩
 refine cg ?_
 rw[key]
 cases decide (u.shared=v.shared)<;>cases decide (u.bx=v.bx)<;>rfl
end Go.Proofs.YtmonponfppdgfaaGreatDoor
end
