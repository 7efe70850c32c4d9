import Derived.Test.YtmonponfppdgfaaGreatDoorM40
import Derived.Test.YtmonponfppdgfaaGreatDoorM42
import Derived.Test.YtmonponfppdgfaaGreatDoorM21
section
/- Units held one against another by the document; calm threads: the walk. -/
namespace Go.Proofs.YtmonponfppdgfaaGreatDoor
open Go Go.ch Go.Proofs
set_option linter.unusedSimpArgs false
set_option linter.unusedVariables false
theorem K0 (a b:ByteArray):(a != b)= !decide (a=b):=by rw[bne,z7]
theorem pc (l m:List Decl) (hl:l.length * 32≤140737488351232) (hm:m.length * 32≤140737488351232):Pure Tryz.prog 32 [dM l,dM m] (fun r=>r=bl (decide (l=m))):=by
 refine aJ DR rfl ?_
 repeat' (first|((with_reducible refine aE ?_);conv=>whnf)|refine aG ?_|exact aC|with_reducible refine aD ?_ ?_|(apply aA;(·exact bm))|refine aH ?_|((with_reducible refine aB ?_ ?_)<;>intro hc<;>(try simp only[List.length_map,ne_eq,cD] at hc)<;>try(exfalso;omega)))
 ·refine cg (Eq.symm ?_)
  exact decide_eq_false fun e=>hc (by rw[e])
 ·have hlm:l.length=m.length:=by omega
  refine aI (fun i:Nat=>[(0,dM l),(1,dM m),(5,i64 i)])
   (fun i H n=>i≤l.length∧∀j,j<i→l.getD j default=m.getD j default) (fun i=>l.length - i) 0 bt ⟨Nat.zero_le _,fun _ h=>by omega⟩ ?_
  rintro i H n ⟨hi,hall⟩
  by_cases hil:i<l.length
  ·have e1:=fun d=>uH (l:=l) hil d
   have e2:=fun d=>uH (l:=m) (i:=i) (by omega) d
   repeat' (first|((with_reducible refine aE ?_);conv=>whnf)|refine aG ?_|exact cN|with_reducible refine aD ?_ ?_|((with_reducible refine Ask.mk ?_);first|exact bw|exact br|(intro h;simp_all[Decl.cells]<;>fail)|(simp_all[Decl.cells]<;>fail))|(apply aA;(·(first|exact e1 _|exact e2 _|exact bm)))|refine aH ?_|((with_reducible refine aB ?_ ?_)<;>intro hc<;>(try simp only[List.length_map,ne_eq,cD] at hc)<;>try(exfalso;omega)))
   ·refine cg (Eq.symm ?_)
    refine decide_eq_false fun e=> ?_
    rw[e] at hc
    simp[z7] at hc
   ·refine⟨i+1,by omega,bt,by omega,fun j hj=> ?_⟩
    by_cases hji:j=i
    ·subst hji
     obtain⟨h1,h2,h3,_⟩:=hc
     rw[z7,decide_eq_true_eq] at h1
     exact Decl.sN h1 h2 h3
    ·exact hall j (by omega)
  ·have:i=l.length:=by omega
   subst this
   repeat' (first|((with_reducible refine aE ?_);conv=>whnf)|refine aG ?_|exact aC|with_reducible refine aD ?_ ?_|(apply aA;(·exact bm))|refine aH ?_|((with_reducible refine aB ?_ ?_)<;>intro hc<;>(try simp only[List.length_map,ne_eq,cD] at hc)<;>try(exfalso;omega)))
   refine cg (Eq.symm ?_)
   exact decide_eq_true (js default hlm hall)
set_option maxRecDepth 4000 in
set_option maxHeartbeats 8000000 in
theorem w8 (a b:bo) (ha:a.Wf) (hb:b.Wf):Pure Tryz.prog 33 [a.av,b.av] (fun r=>r=bl (decide (a=b))):=by
 have hla:=ha.len
 have hlb:=hb.len
 refine aJ DS rfl ?_
 repeat' (first|((with_reducible refine aE ?_);conv=>whnf)|refine aG ?_|exact cN|with_reducible refine aD ?_ ?_|((with_reducible refine Ask.mk ?_);first|exact bw|exact br|(intro h;simp_all[bo.cells]<;>fail)|(simp_all[bo.cells]<;>fail))|(apply aA;(·exact bm))|refine aH ?_|((with_reducible refine aB ?_ ?_)<;>intro hc<;>(try simp only[List.length_map,ne_eq,cD] at hc)<;>try(exfalso;omega)))
 ·refine cg (Eq.symm ?_)
  refine decide_eq_false fun e=> ?_
  rw[e] at hc
  simp[K0] at hc
 ·have hnm:a.name=b.name∧a.locals=b.locals∧a.cf=b.cf∧a.nodes.length=b.nodes.length:=by
   simp[K0] at hc
   exact⟨hc.1.1.1,hc.1.1.2,hc.1.2,by have:=hc.2;omega⟩
  refine aI (fun i:Nat=>[(2, .pt 0 1 0 0),(3, .pt 1 1 0 0),(5,i64 i)])
   (fun i H n=>i≤a.nodes.length∧2≤n∧(∃d,bj H 0=some (.row 40 4 d [a.av]))∧(∃d,bj H 1=some (.row 40 4 d [b.av]))∧∀j,j<i→a.nodes.getD j default=b.nodes.getD j default) (fun i=>a.nodes.length - i) 0 bt ⟨Nat.zero_le _,cH,⟨_,bk⟩,⟨_,bk⟩,fun _ h=>by omega⟩ ?_
  clear hc
  rintro i H n ⟨hi,hn,⟨d0,r0⟩,⟨d1,r1⟩,hall⟩
  by_cases hil:i<a.nodes.length
  ·have e1:=fun d=>dy (l:=a.nodes) hil d
   have e2:=fun d=>dy (l:=b.nodes) (i:=i) (by omega) d
   repeat' (first|((with_reducible refine aE ?_);conv=>whnf)|refine aG ?_|exact cN|with_reducible refine aD ?_ ?_|((with_reducible refine Ask.mk ?_);first|exact bw|exact br|(intro h;simp_all[bo.cells,Node.cells]<;>fail)|(simp_all[bo.cells,Node.cells]<;>fail))|(apply aA;(·(first|exact e1 _|exact e2 _|exact bm)))|refine aH ?_|((with_reducible refine aB ?_ ?_)<;>intro hc<;>(try simp only[List.length_map,ne_eq,cD] at hc)<;>try(exfalso;omega)))
   ·refine cg (Eq.symm ?_)
    refine decide_eq_false fun e=> ?_
    rw[e] at hc
    simp at hc
   ·refine⟨i+1,by omega,bt,by omega,cH,⟨_,bk⟩,⟨_,bk⟩,fun j hj=> ?_⟩
    by_cases hji:j=i
    ·subst hji
     obtain⟨h1,h2,h3,h4,h5,h6,h7,h8,h9,h10,h11,h12,h13,_⟩:=hc
     exact Node.K7 h1 h2 h3 h4 (lL.sN (by simpa using h5) h6 h7) (lL.sN (by simpa using h8) h9 h10) h11 h12 h13
    ·exact hall j (by omega)
  ·have:i=a.nodes.length:=by omega
   subst this
   repeat' (first|((with_reducible refine aE ?_);conv=>whnf)|refine aG ?_|exact cN|with_reducible refine aD ?_ ?_|((with_reducible refine Ask.mk ?_);first|exact bw|exact br|(intro h;simp_all[bo.cells]<;>fail)|(simp_all[bo.cells]<;>fail))|(apply aA;(·exact bm))|refine aH ?_|((with_reducible refine aB ?_ ?_)<;>intro hc<;>(try simp only[List.length_map,ne_eq,cD] at hc)<;>try(exfalso;omega)))
   refine cg (Eq.symm ?_)
   exact decide_eq_true (bo.K6 hnm.1 hnm.2.1 hnm.2.2.1 (js default hnm.2.2.2 hall))
set_option maxRecDepth 4000 in
set_option maxHeartbeats 4000000 in
theorem nT (u v:bp) (hu:u.Wf) (hv:v.Wf):Pure Tryz.prog 12 [u.av,v.av] (fun r=>r=bl (decide (u=v))):=by
 have h1:=pc u.shared v.shared hu.gL hv.gL
 have h2:=pc u.bx v.bx hu.gw hv.gw
 have hgl:=hu.gb
 have hgl2:=hv.gb
 refine aJ DH rfl ?_
 repeat' (first|((with_reducible refine aE ?_);conv=>whnf)|refine aG ?_|exact cN|with_reducible refine aD ?_ ?_|((with_reducible refine Ask.mk ?_);first|exact bw|exact br|(intro h;simp_all[bp.cells]<;>fail)|(simp_all[bp.cells]<;>fail))|(apply aA;(·exact bm))|refine aK (h1) ?_|refine aK (h2) ?_|refine aH ?_|((with_reducible refine aB ?_ ?_)<;>intro hc<;>(try simp only[List.length_map,ne_eq,cD] at hc)<;>try(exfalso;omega)))
 ·refine cg (Eq.symm ?_)
  refine decide_eq_false fun e=> ?_
  rw[e] at hc
  simp at hc
 ·have hnm:u.bq.length=v.bq.length∧u.shared=v.shared∧u.bx=v.bx:=by
   simp at hc
   exact⟨by have:=hc.1.1;omega,hc.1.2,hc.2⟩
  refine aI (fun i:Nat=>[(2, .pt 0 1 0 0),(3, .pt 1 1 0 0),(5,i64 i)])
   (fun i H n=>i≤u.bq.length∧2≤n∧(∃d,bj H 0=some (.row 25 3 d [u.av]))∧(∃d,bj H 1=some (.row 25 3 d [v.av]))∧∀j,j<i→u.bq.getD j default=v.bq.getD j default) (fun i=>u.bq.length - i) 0 bt ⟨Nat.zero_le _,cH,⟨_,bk⟩,⟨_,bk⟩,fun _ h=>by omega⟩ ?_
  clear hc h1 h2
  rintro i H n ⟨hi,hn,⟨d0,r0⟩,⟨d1,r1⟩,hall⟩
  by_cases hil:i<u.bq.length
  ·have e1:=fun d=>j3 (l:=u.bq) hil d
   have e2:=fun d=>j3 (l:=v.bq) (i:=i) (by omega) d
   have hg:=w8 (u.bq.getD i default) (v.bq.getD i default) (hu.bq _ (cC default hil)) (hv.bq _ (cC default (by omega)))
   by_cases heq:u.bq.getD i default=v.bq.getD i default
   ·rw[decide_eq_true heq] at hg
    repeat' (first|((with_reducible refine aE ?_);conv=>whnf)|refine aG ?_|exact cN|with_reducible refine aD ?_ ?_|((with_reducible refine Ask.mk ?_);first|exact bw|exact br|(intro h;simp_all[bp.cells,bo.cells]<;>fail)|(simp_all[bp.cells,bo.cells]<;>fail))|(apply aA;(·(first|exact e1 _|exact e2 _|exact bm)))|refine aK (hg) ?_|refine aH ?_|((with_reducible refine aB ?_ ?_)<;>intro hc<;>(try simp only[List.length_map,ne_eq,cD] at hc)<;>try(exfalso;omega)))
    refine⟨i+1,by omega,bt,by omega,cH,⟨_,bk⟩,⟨_,bk⟩,fun j hj=> ?_⟩
    by_cases hji:j=i
    ·subst hji;exact heq
    ·exact hall j (by omega)
   ·rw[decide_eq_false heq] at hg
    repeat' (first|((with_reducible refine aE ?_);conv=>whnf)|refine aG ?_|exact cN|with_reducible refine aD ?_ ?_|((with_reducible refine Ask.mk ?_);first|exact bw|exact br|(intro h;simp_all[bp.cells,bo.cells]<;>fail)|(simp_all[bp.cells,bo.cells]<;>fail))|(apply aA;(·(first|exact e1 _|exact e2 _|exact bm)))|refine aK (hg) ?_|refine aH ?_|((with_reducible refine aB ?_ ?_)<;>intro hc<;>(try simp only[List.length_map,ne_eq,cD] at hc)<;>try(exfalso;omega)))
    refine cg (Eq.symm ?_)
    exact decide_eq_false fun e=>heq (by rw[e])
  ·have:i=u.bq.length:=by omega
   subst this
   repeat' (first|((with_reducible refine aE ?_);conv=>whnf)|refine aG ?_|exact cN|with_reducible refine aD ?_ ?_|((with_reducible refine Ask.mk ?_);first|exact bw|exact br|(intro h;simp_all[bp.cells]<;>fail)|(simp_all[bp.cells]<;>fail))|(apply aA;(·exact bm))|refine aH ?_|((with_reducible refine aB ?_ ?_)<;>intro hc<;>(try simp only[List.length_map,ne_eq,cD] at hc)<;>try(exfalso;omega)))
   refine cg (Eq.symm ?_)
   exact decide_eq_true (bp.sN hnm.2.1 hnm.2.2 (js default hnm.1 hall))
end Go.Proofs.YtmonponfppdgfaaGreatDoor
end
section
/- The document's Idle and Once: the walk. -/
namespace Go.Proofs.YtmonponfppdgfaaGreatDoor
open Go Go.ch Go.Proofs
set_option linter.unusedSimpArgs false
set_option linter.unusedVariables false
noncomputable def kX (u:bp) (ids:List Nat) (t:Nat):List AV:=(iS u t).map bo.av++(kG ids u.bq).drop t
theorem HY {u:bp} {ids:List Nat} (hl:ids.length=u.bq.length) {t:Nat} (ht:t<u.bq.length) (d:AV):(kX u ids t).getD (t:Int).toNat d=qx (ids.getD t 0) (u.gr t):=by
 rw[Int.toNat_natCast,kX,List.getD,List.getElem?_append_right (by rw[List.length_map,iT];omega),List.length_map,iT,Nat.sub_self,List.getElem?_drop,Nat.add_zero]
 exact qy hl ht d
theorem H6 {u:bp} {ids:List Nat} (hl:ids.length=u.bq.length) {t:Nat} (ht:t<u.bq.length):(kX u ids t).set (t:Int).toNat (gD (u.gr t) (cu u) t).av=kX u ids (t+1):=by
 rw[Int.toNat_natCast,kX,List.set_append_right _ _ (by rw[List.length_map,iT];omega),List.length_map,iT,Nat.sub_self,List.drop_eq_getElem_cons (by rw[j0 hl];exact ht),List.set_cons_zero,kX,p6,List.map_append]
 simp
theorem HZ {u:bp} {ids:List Nat} (hl:ids.length=u.bq.length) {t:Nat} (ht:t≤u.bq.length):(kX u ids t).length=u.bq.length:=by
 rw[kX,List.length_append,List.length_map,iT,List.length_drop,j0 hl];omega
set_option maxRecDepth 4000 in
set_option maxHeartbeats 4000000 in
theorem pb (u:bp) (hu:u.Wf) (hr:c8 u):Pure Tryz.prog 10 [u.av] (fun r=>r= .dI [(dF u).av,i64 0]):=by
 have c0:=mC u hu
 rw[kN.2 hr] at c0
 have c1:=sU u hu
 rw[if_pos (cV.2 hr)] at c1
 unfold gJ at c1
 have hfew:=hr.CD
 have h96:∀g∈u.bq,g.nodes.length * 96≤140737488351232:=fun g hg=>by have:=(hr.bq g hg).len.2;omega
 refine cT ?_ (by rw[cG,cL,cL,cL];exact⟨gV _,by simp[cG],trivial⟩)
 refine aL AM rfl ?_
 refine jj ?_
 refine aN (sr u hu h96 _ _) ?_
 rintro _ H2 n2 ⟨sh,lk,gr,ids,rfl,hA,hin,hn2,hk⟩
 have hnd:=hA.nodup
 obtain⟨i1,i2⟩:=hin sh (by simp)
 obtain⟨i3,i4⟩:=hin lk (by simp)
 obtain⟨i5,i6⟩:=hin gr (by simp)
 have n1:sh≠lk:=fun e=>by subst e;simp at hnd
 have n3:sh≠gr:=fun e=>by subst e;simp at hnd
 have n4:lk≠gr:=fun e=>by subst e;simp at hnd
 have hil:=hA.len
 obtain⟨d1,q1⟩:=hA.sh
 obtain⟨d2,q2⟩:=hA.lk
 obtain⟨d3,q3⟩:=hA.gr
 have q4:bj H2 0=some (.row 25 3 .any [u.av]):=(hk 0 (by omega)).trans bk
 have q5:bj H2 1=some (.row 25 3 (iW true [.slice none 0 0, .slice none 0 0, .slice none 0 0]) [iW true [.slice none 0 0, .slice none 0 0, .slice none 0 0]]):=(hk 1 (by omega)).trans bk
 have hn2:2≤n2:=by omega
 clear hk c0 c1 hA
 refine jj ?_
 refine aI (fun t:Nat=>[(1, .pt 0 1 0 0),(2, .pt 1 1 0 0),(7, .im 3 .any ((cu u).map cB.av)),(9, .pt n2 1 0 0),(10,i64 t)])
  (fun t H n=>t≤u.bq.length∧n2+1≤n∧(∃d,bj H 0=some (.row 25 3 d [u.av]))∧(∃d,bj H 1=some (.row 25 3 d [iW true [.slice none 0 0, .slice none 0 0, .slice none 0 0]]))∧(∃d,bj H n2=some (.row 25 3 d [zM sh lk gr u]))∧(∃d,bj H sh=some (.row 48 3 d (u.shared.map Decl.av)))∧(∃d,bj H lk=some (.row 48 3 d (u.bx.map Decl.av)))∧∃d,bj H gr=some (.row 40 4 d (kX u ids t))) (fun t=>u.bq.length - t) 0 bt ⟨Nat.zero_le _,cH,⟨_,bk⟩,⟨_,bk⟩,⟨_,bk⟩,⟨_,bk⟩,⟨_,bk⟩,⟨_,by rw[show kX u ids 0=kG ids u.bq by simp[kX,iS]];exact bk⟩⟩ ?_
 clear q1 q2 q3 q4 q5
 rintro t H n ⟨ht,hn,⟨d0,q0⟩,⟨d1,q1⟩,⟨d2,q2⟩,⟨d3,q3⟩,⟨d4,q4⟩,d5,q5⟩
 have a0:=HZ hil ht
 have a1:(u.bq.map bo.av).length=u.bq.length:=by simp
 by_cases htl:t<u.bq.length
 ·have c0:=y7 u hu t htl (hr.gr htl) (cu u) (jK u) hfew.1
  have e0:=fun d=>HY hil htl d
  have hst:=H6 hil htl
  refine jj ?_
  exact⟨t+1,by omega,bt,by omega,cH,⟨_,bk⟩,⟨_,bk⟩,⟨_,bk⟩,⟨_,bk⟩,⟨_,bk⟩,⟨_,by rw[←hst];exact bk⟩⟩
 ·have:t=u.bq.length:=by omega
  subst this
  have hm:kX u ids u.bq.length=(dF u).bq.map bo.av:=by
   rw[kX,List.drop_eq_nil_of_le (by rw[j0 hil];exact Nat.le_refl _),List.append_nil];rfl
  rw[hm] at q5
  have hol:=gh u
  refine jj ?_
  refine⟨lb.trans ?_⟩
  rw[oe 5 (by simp[cG])]
  refine congrArg (fun z=>AV.dI [z,i64 0]) ?_
  rw[nn]
  simp only[List.map_cons,List.map_nil]
  rw[dH (b:=sh) bk (by simp),dH (b:=lk) bk (by simp),dH (b:=gr) bk (by simp[hol]),ca _ (gK _),ca _ (gK _),ca _ (kq _)]
  rfl
theorem yO (u:bp) (hu:u.Wf):Pure Tryz.prog 10 [u.av] (fun r=>r=jb u (dF u)):=by
 unfold jb
 by_cases hr:c8 u
 ·rw[if_pos (cV.2 hr)];exact pb u hu hr
 ·rw[if_neg (mt cV.1 hr)]
  have c0:=mC u hu
  have h60:=kj hr
  generalize gO u=c3 at *
  obtain⟨c1,c2,c3⟩:=c3
  simp only at h60
  subst h60
  refine rS ?_
  refine aJ AM rfl ?_
  refine jj ?_
  first|exact rfl|trivial
set_option maxRecDepth 4000 in
set_option maxHeartbeats 4000000 in
theorem w7 (u:bp) (hu:u.Wf):Pure Tryz.prog 16 [u.av] (fun r=>r=jb u (kK u)):=by
 have c0:=yO u hu
 unfold jb at c0 ⊢
 by_cases hr:c8 u
 ·rw[if_pos (cV.2 hr)] at c0 ⊢
  refine cT ?_ (by rw[cG,cL,cL,cL];exact⟨gV _,by simp[cG],trivial⟩)
  refine aL AO rfl ?_
  refine jj ?_
  refine aI (fun v:bp=>[(2, .pt 1 1 0 0),(4, .pt 7 1 0 0)])
   (fun v H n=>10≤n∧c8 v∧v.Wf∧fO (fW v) v=kK u∧(∃d,bj H 1=some (.row 25 3 d [iW true [.slice none 0 0, .slice none 0 0, .slice none 0 0]]))∧(∃d,bj H 7=some (.row 25 3 d [v.av]))) (fun v=>fW v) (dF u) bt ⟨cH,fj hr,lB hu hr,(pD hr).symm,⟨_,bk⟩,⟨_,bk⟩⟩ ?_
  clear c0
  rintro v H n ⟨hn,hvr,hvw,hsw,⟨d1,r1⟩,⟨d8,r8⟩⟩
  have c0:=pb v hvw hvr
  have c1:=nT v (dF v) hvw (lB hvw hvr)
  by_cases e:v=dF v
  ·rw[decide_eq_true e] at c1
   rw[nU hvr e.symm] at hsw
   subst hsw
   refine jj ?_
   exact⟨congrArg (fun z=>AV.dI [AV.agg z,i64 0]) (ca _ (vR 0 _))⟩
  ·rw[decide_eq_false e] at c1
   obtain⟨h1,h2⟩:=wz hvr (Ne.symm e)
   refine jj ?_
   exact⟨dF v,h2,bt,cH,fj hvr,lB hvw hvr,h1.symm.trans hsw,⟨_,bk⟩,⟨_,bk⟩⟩
 ·rw[if_neg (mt cV.1 hr)] at c0 ⊢
  refine rS ?_
  refine aJ AO rfl ?_
  refine jj ?_
  first|exact rfl|trivial
end Go.Proofs.YtmonponfppdgfaaGreatDoor
end
section
/- Every Idle and Once; every Sweep: the laws' walks. -/
namespace Go.Proofs.YtmonponfppdgfaaGreatDoor
open Go Go.ch Go.Proofs
set_option linter.unusedSimpArgs false
set_option linter.unusedVariables false
theorem IU:(⟨[],[],[]⟩:bp).Wf:=⟨by simp,by simp,by simp,by simp,by simp,by simp⟩
theorem ud {u v:bp} (hv:c8 u→v.Wf):∃(w:bp) (n:Int),w.Wf∧jb u v= .dI [w.av,i64 n]:=by
 unfold jb
 by_cases hr:c8 u
 ·rw[if_pos (cV.2 hr)];exact⟨_,_,hv hr,rfl⟩
 ·rw[if_neg (mt cV.1 hr)];exact⟨_,_,IU,rfl⟩
set_option maxRecDepth 4000 in
set_option maxHeartbeats 2000000 in
theorem pw (u:bp) (hu:u.Wf) (h96:∀g∈u.bq,g.nodes.length * 96≤140737488351232):Pure Tryz.prog 4 [u.av] (fun r=>r=bl true):=by
 have c0:=zg u hu h96
 have c1:=xN u hu
 have c2:=w7 u hu
 have c3:=vC
 obtain⟨w,m,hw,e'⟩:=ud (u:=u) (v:=kK u) fun hr=>(BE (P:=bp.Wf) hr hu fun v h1 h2=>lB h2 h1).2
 rw[e'] at c1 c2
 have c4:=nT w w hw hw
 have c5:=nT u u hu hu
 rw[decide_eq_true rfl] at c4 c5
 refine aJ LM rfl ?_
 refine jj ?_
 first|exact rfl|trivial|(simp;done)
end Go.Proofs.YtmonponfppdgfaaGreatDoor
end
section
/- Every Sweep is the document's, and the unit stays: for every unit. No conditions beyond the card's own: the library's table starts as its text lays it. -/
namespace Go.Proofs.YtmonponfppdgfaaGreatDoor
open Go Go.ch Go.Proofs Go.RowKit Go.ChangeShapes Go.WideShapes Go.ChangeAt
set_option linter.unusedSimpArgs false
set_option linter.unusedVariables false
set_option maxRecDepth 100000 in
theorem nf (os:Os) (started:os.Started) (H:Type) (enc:TypeId×Value→H):
 ReturnsInHanded {} Tryz.checked os 4 .any (fun w args=>(Rows.deadSweepsSpec.pre enc Tryz.prog Tryz.f4 [] false w args∧laidMetH Tryz.prog vt w)∧sizedMet enc Tryz.prog Tryz.f4 (OpenSpec.ofChange Rows.deadSweepsSpec) false w args) (Rows.deadSweepsSpec.post enc Tryz.prog Tryz.f4 false true false false):=by
 refine returnsInHanded_of_change_and (C:=Tryz.checked) (X:=fun w _=>laidMetH Tryz.prog vt w) (fun _ _ _ hh h=>h.of_heap hh) own started (by kernel_rfl) Tryz.func4
  (ChangeSpec.witness_shaped (enc:=enc) (C:=Tryz.checked) (os:=os) (X:=fun w _=>laidMetH Tryz.prog vt w) false (World.doorLaid Tryz.prog 400 os) #[.agg #[.slice none 0 0, .slice none 0 0, .slice none 0 0]] 8 rfl (World.shaped_of_RefB (by kernel_rfl) (by kernel_rfl)) (by kernel_rfl) (by kernel_rfl) (by kernel_rfl) (B7 os _)) ?_
 intro W base args ds gs before hval hW _ hr hL _
 refine uR (ts:=[25]) (tb:=4) laidOut (by kernel_rfl) rfl Tryz.underlying4 (by kernel_rfl) (fun ds h=> ?_) (fun t ht=> ?_)
  (sQ (ag:=true) (by kernel_rfl) uY (fun h=>by cases h) uX)
  (fun a h=> ?_) hval hW hr (ID hL)
 ·match ds,h with
  |[d0],_=>rfl
 ·have:∀t∈[25],Tryz.prog.readableRec t=true∧t<Tryz.prog.types.size:=by
   simp only[List.forall_mem_cons]
   refine⟨⟨by kernel_rfl,of_decide_eq_true (by kernel_rfl)⟩,by simp⟩
  exact this t ht
 ·exact pw a.1 h.1.1 h.1.2
theorem qh:Rows.DeadSweepsSaid:=
 OpenClaim.holds_of_wide 4 Tryz.f4 rfl rfl rfl rfl rfl rfl rfl ⟨rfl,rfl,rfl,rfl,rfl⟩ rfl rfl rfl rfl rfl (by kernel_rfl) Tryz.func4 (by kernel_rfl)
  (of_decide_eq_true (by kernel_rfl)) (by unfold Func.isWrapper;first|(rw[if_pos (by decide+kernel)];kernel_rfl)|(rw[if_neg (by decide+kernel)];exact⟨rfl,rfl⟩))
  (fun os started H enc _=>nf os started H enc)
set_option maxRecDepth 100000 in
theorem deadSweeps_holds:Rows.DeadSweepsCardSaid:=
 Claim7.holds_tied_plain_at .later [] [.data] true (true, "12af8c7818b0501ec9e10285ad2d8f59b85aa667e4dfad6624519679bdff7faf") false
  qh (fun _ h=>by cases h) (by kernel_rfl) (fun _ h=>by cases h) deadSweeps_row_tie rfl ⟨rfl,rfl⟩ (by kernel_rfl) rfl
  (fun f fn hf hfn=>by
   obtain rfl:f=4:=Option.some.inj ((show Tryz.prog.funcNamed "stile/stilelaw14.DeadSweeps" =some 4 by kernel_rfl).symm.trans hf)|>.symm
   obtain rfl:fn=Tryz.f4:=(Option.some.inj (Tryz.func4.symm.trans hfn)).symm
   exact⟨by kernel_rfl,fun j t ht=>by
    rw[show Tryz.f4.params=#[25] by kernel_rfl] at ht
    have hm:t∈[25]:=by simpa using Array.mem_of_getElem? ht
    have hall:([25].all fun u=> !Tryz.prog.wantsStandIn u)=true:=by kernel_rfl
    exact(show Tryz.prog.wantsStandIn t=false by simpa using List.all_eq_true.1 hall t hm)⟩)
  (by kernel_rfl)
end Go.Proofs.YtmonponfppdgfaaGreatDoor
end
