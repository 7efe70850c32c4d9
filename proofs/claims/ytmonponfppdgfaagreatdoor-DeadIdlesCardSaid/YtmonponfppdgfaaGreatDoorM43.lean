import Derived.Test.YtmonponfppdgfaaGreatDoorM40
import Derived.Test.YtmonponfppdgfaaGreatDoorM42
import Derived.Test.YtmonponfppdgfaaGreatDoorM21
section
/- Units held one against another by the document; calm threads: the walk. -/
namespace Go.Proofs.YtmonponfppdgfaaGreatDoor
open Go Go.ck Go.Proofs
set_option linter.unusedSimpArgs false
set_option linter.unusedVariables false
theorem KY (a b:ByteArray):(a != b)= !decide (a=b):=by rw[bne,zX]
theorem p9 (l m:List Decl) (hl:l.length * 32≤140737488351232) (hm:m.length * 32≤140737488351232):Pure Tryz.prog 32 [dL l,dL m] (fun r=>r=bl (decide (l=m))):=by
 refine aI DN rfl ?_
 repeat' (first|((with_reducible refine aE ?_);conv=>whnf)|refine aG ?_|exact aC|with_reducible refine aD ?_ ?_|(apply aA;(·exact bm))|refine aH ?_|((with_reducible refine aB ?_ ?_)<;>intro hc<;>(try simp only[List.length_map,ne_eq,cD] at hc)<;>try(exfalso;omega)))
 ·refine cf (Eq.symm ?_)
  exact decide_eq_false fun e=>hc (by rw[e])
 ·have hlm:l.length=m.length:=by omega
  refine aJ (fun i:Nat=>[(0,dL l),(1,dL m),(5,i64 i)])
   (fun i H n=>i≤l.length∧∀j,j<i→l.getD j default=m.getD j default) (fun i=>l.length - i) 0 bt ⟨Nat.zero_le _,fun _ h=>by omega⟩ ?_
  rintro i H n ⟨hi,hall⟩
  by_cases hil:i<l.length
  ·have e1:=fun d=>uB (l:=l) hil d
   have e2:=fun d=>uB (l:=m) (i:=i) (by omega) d
   repeat' (first|((with_reducible refine aE ?_);conv=>whnf)|refine aG ?_|exact cN|with_reducible refine aD ?_ ?_|((with_reducible refine Ask.mk ?_);first|exact bw|exact br|(intro h;simp_all[Decl.cells]<;>fail)|(simp_all[Decl.cells]<;>fail))|(apply aA;(·(first|exact e1 _|exact e2 _|exact bm)))|refine aH ?_|((with_reducible refine aB ?_ ?_)<;>intro hc<;>(try simp only[List.length_map,ne_eq,cD] at hc)<;>try(exfalso;omega)))
   ·refine cf (Eq.symm ?_)
    refine decide_eq_false fun e=> ?_
    rw[e] at hc
    simp[zX] at hc
   ·refine⟨i+1,by omega,bt,by omega,fun j hj=> ?_⟩
    by_cases hji:j=i
    ·subst hji
     obtain⟨h1,h2,h3,_⟩:=hc
     rw[zX,decide_eq_true_eq] at h1
     exact Decl.sK h1 h2 h3
    ·exact hall j (by omega)
  ·have:i=l.length:=by omega
   subst this
   repeat' (first|((with_reducible refine aE ?_);conv=>whnf)|refine aG ?_|exact aC|with_reducible refine aD ?_ ?_|(apply aA;(·exact bm))|refine aH ?_|((with_reducible refine aB ?_ ?_)<;>intro hc<;>(try simp only[List.length_map,ne_eq,cD] at hc)<;>try(exfalso;omega)))
   refine cf (Eq.symm ?_)
   exact decide_eq_true (js default hlm hall)
set_option maxRecDepth 4000 in
set_option maxHeartbeats 8000000 in
theorem w7 (a b:bo) (ha:a.Wf) (hb:b.Wf):Pure Tryz.prog 33 [a.av,b.av] (fun r=>r=bl (decide (a=b))):=by
 have hla:=ha.len
 have hlb:=hb.len
 refine aI DO rfl ?_
 repeat' (first|((with_reducible refine aE ?_);conv=>whnf)|refine aG ?_|exact cN|with_reducible refine aD ?_ ?_|((with_reducible refine Ask.mk ?_);first|exact bw|exact br|(intro h;simp_all[bo.cells]<;>fail)|(simp_all[bo.cells]<;>fail))|(apply aA;(·exact bm))|refine aH ?_|((with_reducible refine aB ?_ ?_)<;>intro hc<;>(try simp only[List.length_map,ne_eq,cD] at hc)<;>try(exfalso;omega)))
 ·refine cf (Eq.symm ?_)
  refine decide_eq_false fun e=> ?_
  rw[e] at hc
  simp[KY] at hc
 ·have hnm:a.name=b.name∧a.locals=b.locals∧a.cd=b.cd∧a.nodes.length=b.nodes.length:=by
   simp[KY] at hc
   exact⟨hc.1.1.1,hc.1.1.2,hc.1.2,by have:=hc.2;omega⟩
  refine aJ (fun i:Nat=>[(2, .pt 0 1 0 0),(3, .pt 1 1 0 0),(5,i64 i)])
   (fun i H n=>i≤a.nodes.length∧2≤n∧(∃d,bj H 0=some (.row 40 4 d [a.av]))∧(∃d,bj H 1=some (.row 40 4 d [b.av]))∧∀j,j<i→a.nodes.getD j default=b.nodes.getD j default) (fun i=>a.nodes.length - i) 0 bt ⟨Nat.zero_le _,cI,⟨_,bk⟩,⟨_,bk⟩,fun _ h=>by omega⟩ ?_
  clear hc
  rintro i H n ⟨hi,hn,⟨d0,r0⟩,⟨d1,r1⟩,hall⟩
  by_cases hil:i<a.nodes.length
  ·have e1:=fun d=>dy (l:=a.nodes) hil d
   have e2:=fun d=>dy (l:=b.nodes) (i:=i) (by omega) d
   repeat' (first|((with_reducible refine aE ?_);conv=>whnf)|refine aG ?_|exact cN|with_reducible refine aD ?_ ?_|((with_reducible refine Ask.mk ?_);first|exact bw|exact br|(intro h;simp_all[bo.cells,Node.cells]<;>fail)|(simp_all[bo.cells,Node.cells]<;>fail))|(apply aA;(·(first|exact e1 _|exact e2 _|exact bm)))|refine aH ?_|((with_reducible refine aB ?_ ?_)<;>intro hc<;>(try simp only[List.length_map,ne_eq,cD] at hc)<;>try(exfalso;omega)))
   ·refine cf (Eq.symm ?_)
    refine decide_eq_false fun e=> ?_
    rw[e] at hc
    simp at hc
   ·refine⟨i+1,by omega,bt,by omega,cI,⟨_,bk⟩,⟨_,bk⟩,fun j hj=> ?_⟩
    by_cases hji:j=i
    ·subst hji
     obtain⟨h1,h2,h3,h4,h5,h6,h7,h8,h9,h10,h11,h12,h13,_⟩:=hc
     exact Node.K5 h1 h2 h3 h4 (lK.sK (by simpa using h5) h6 h7) (lK.sK (by simpa using h8) h9 h10) h11 h12 h13
    ·exact hall j (by omega)
  ·have:i=a.nodes.length:=by omega
   subst this
   repeat' (first|((with_reducible refine aE ?_);conv=>whnf)|refine aG ?_|exact cN|with_reducible refine aD ?_ ?_|((with_reducible refine Ask.mk ?_);first|exact bw|exact br|(intro h;simp_all[bo.cells]<;>fail)|(simp_all[bo.cells]<;>fail))|(apply aA;(·exact bm))|refine aH ?_|((with_reducible refine aB ?_ ?_)<;>intro hc<;>(try simp only[List.length_map,ne_eq,cD] at hc)<;>try(exfalso;omega)))
   refine cf (Eq.symm ?_)
   exact decide_eq_true (bo.K4 hnm.1 hnm.2.1 hnm.2.2.1 (js default hnm.2.2.2 hall))
set_option maxRecDepth 4000 in
set_option maxHeartbeats 4000000 in
theorem y5 (u v:bq) (hu:u.Wf) (hv:v.Wf):Pure Tryz.prog 12 [u.av,v.av] (fun r=>r=bl (decide (u=v))):=by
 have h1:=p9 u.shared v.shared hu.gM hv.gM
 have h2:=p9 u.bx v.bx hu.gv hv.gv
 have hgl:=hu.gL
 have hgl2:=hv.gL
 refine aI DC rfl ?_
 repeat' (first|((with_reducible refine aE ?_);conv=>whnf)|refine aG ?_|exact cN|with_reducible refine aD ?_ ?_|((with_reducible refine Ask.mk ?_);first|exact bw|exact br|(intro h;simp_all[bq.cells]<;>fail)|(simp_all[bq.cells]<;>fail))|(apply aA;(·exact bm))|refine aK (h1) ?_|refine aK (h2) ?_|refine aH ?_|((with_reducible refine aB ?_ ?_)<;>intro hc<;>(try simp only[List.length_map,ne_eq,cD] at hc)<;>try(exfalso;omega)))
 ·refine cf (Eq.symm ?_)
  refine decide_eq_false fun e=> ?_
  rw[e] at hc
  simp at hc
 ·have hnm:u.bp.length=v.bp.length∧u.shared=v.shared∧u.bx=v.bx:=by
   simp at hc
   exact⟨by have:=hc.1.1;omega,hc.1.2,hc.2⟩
  refine aJ (fun i:Nat=>[(2, .pt 0 1 0 0),(3, .pt 1 1 0 0),(5,i64 i)])
   (fun i H n=>i≤u.bp.length∧2≤n∧(∃d,bj H 0=some (.row 25 3 d [u.av]))∧(∃d,bj H 1=some (.row 25 3 d [v.av]))∧∀j,j<i→u.bp.getD j default=v.bp.getD j default) (fun i=>u.bp.length - i) 0 bt ⟨Nat.zero_le _,cI,⟨_,bk⟩,⟨_,bk⟩,fun _ h=>by omega⟩ ?_
  clear hc h1 h2
  rintro i H n ⟨hi,hn,⟨d0,r0⟩,⟨d1,r1⟩,hall⟩
  by_cases hil:i<u.bp.length
  ·have e1:=fun d=>j4 (l:=u.bp) hil d
   have e2:=fun d=>j4 (l:=v.bp) (i:=i) (by omega) d
   have hg:=w7 (u.bp.getD i default) (v.bp.getD i default) (hu.bp _ (cC default hil)) (hv.bp _ (cC default (by omega)))
   by_cases heq:u.bp.getD i default=v.bp.getD i default
   ·rw[decide_eq_true heq] at hg
    repeat' (first|((with_reducible refine aE ?_);conv=>whnf)|refine aG ?_|exact cN|with_reducible refine aD ?_ ?_|((with_reducible refine Ask.mk ?_);first|exact bw|exact br|(intro h;simp_all[bq.cells,bo.cells]<;>fail)|(simp_all[bq.cells,bo.cells]<;>fail))|(apply aA;(·(first|exact e1 _|exact e2 _|exact bm)))|refine aK (hg) ?_|refine aH ?_|((with_reducible refine aB ?_ ?_)<;>intro hc<;>(try simp only[List.length_map,ne_eq,cD] at hc)<;>try(exfalso;omega)))
    refine⟨i+1,by omega,bt,by omega,cI,⟨_,bk⟩,⟨_,bk⟩,fun j hj=> ?_⟩
    by_cases hji:j=i
    ·subst hji;exact heq
    ·exact hall j (by omega)
   ·rw[decide_eq_false heq] at hg
    repeat' (first|((with_reducible refine aE ?_);conv=>whnf)|refine aG ?_|exact cN|with_reducible refine aD ?_ ?_|((with_reducible refine Ask.mk ?_);first|exact bw|exact br|(intro h;simp_all[bq.cells,bo.cells]<;>fail)|(simp_all[bq.cells,bo.cells]<;>fail))|(apply aA;(·(first|exact e1 _|exact e2 _|exact bm)))|refine aK (hg) ?_|refine aH ?_|((with_reducible refine aB ?_ ?_)<;>intro hc<;>(try simp only[List.length_map,ne_eq,cD] at hc)<;>try(exfalso;omega)))
    refine cf (Eq.symm ?_)
    exact decide_eq_false fun e=>heq (by rw[e])
  ·have:i=u.bp.length:=by omega
   subst this
   repeat' (first|((with_reducible refine aE ?_);conv=>whnf)|refine aG ?_|exact cN|with_reducible refine aD ?_ ?_|((with_reducible refine Ask.mk ?_);first|exact bw|exact br|(intro h;simp_all[bq.cells]<;>fail)|(simp_all[bq.cells]<;>fail))|(apply aA;(·exact bm))|refine aH ?_|((with_reducible refine aB ?_ ?_)<;>intro hc<;>(try simp only[List.length_map,ne_eq,cD] at hc)<;>try(exfalso;omega)))
   refine cf (Eq.symm ?_)
   exact decide_eq_true (bq.sK hnm.2.1 hnm.2.2 (js default hnm.1 hall))
end Go.Proofs.YtmonponfppdgfaaGreatDoor
end
section
/- The document's Idle and Once: the walk. -/
namespace Go.Proofs.YtmonponfppdgfaaGreatDoor
open Go Go.ck Go.Proofs
set_option linter.unusedSimpArgs false
set_option linter.unusedVariables false
set_option maxRecDepth 4000 in
set_option maxHeartbeats 2000000 in
theorem yL (u:bq) (hu:u.Wf) (t:Int):Pure Tryz.prog 8 [u.av,i64 t] (fun r=>r=nI u t (eD (u.gr t.toNat) (cq u) t.toNat)):=by
 have c0:=xY u hu t
 have c1:=ml u hu
 unfold nI
 by_cases hr:cp u
 ·rw[if_pos (cT.2 hr)] at c0 c1 ⊢
  have hfew:=hr.BH
  by_cases ht:t<0∨(u.bp.length:Int)≤t
  ·rw[if_pos ht] at c0 ⊢
   refine mO ?_
   refine aI JX rfl ?_
   refine kD ?_
   first|exact rfl|trivial
  ·rw[if_neg ht] at c0 ⊢
   obtain⟨k,rfl⟩:∃k:Nat,t=k:=⟨t.toNat,by omega⟩
   rw[Int.toNat_natCast]
   have hk:k<u.bp.length:=by omega
   have c2:=rX u hu k hk (hr.gr hk) (cq u) (gp u) hfew.1
   unfold fq at c1
   refine aI JX rfl ?_
   refine kD ?_
   first|exact rfl|trivial
 ·rw[if_neg (mt cT.1 hr)] at c0 c1 ⊢
  refine mO ?_
  refine aI JX rfl ?_
  refine kD ?_
  first|exact rfl|trivial
noncomputable def kZ (u:bq) (ids:List Nat) (t:Nat):List AV:=(iR u t).map bo.av++(kI ids u.bp).drop t
theorem HV {u:bq} {ids:List Nat} (hl:ids.length=u.bp.length) {t:Nat} (ht:t<u.bp.length) (d:AV):(kZ u ids t).getD (t:Int).toNat d=qu (ids.getD t 0) (u.gr t):=by
 rw[Int.toNat_natCast,kZ,List.getD,List.getElem?_append_right (by rw[List.length_map,iS];omega),List.length_map,iS,Nat.sub_self,List.getElem?_drop,Nat.add_zero]
 exact qv hl ht d
theorem HX {u:bq} {ids:List Nat} (hl:ids.length=u.bp.length) {t:Nat} (ht:t<u.bp.length):(kZ u ids t).set (t:Int).toNat (gD (u.gr t) (cq u) t).av=kZ u ids (t+1):=by
 rw[Int.toNat_natCast,kZ,List.set_append_right _ _ (by rw[List.length_map,iS];omega),List.length_map,iS,Nat.sub_self,List.drop_eq_getElem_cons (by rw[j1 hl];exact ht),List.set_cons_zero,kZ,pY,List.map_append]
 simp
theorem HW {u:bq} {ids:List Nat} (hl:ids.length=u.bp.length) {t:Nat} (ht:t≤u.bp.length):(kZ u ids t).length=u.bp.length:=by
 rw[kZ,List.length_append,List.length_map,iS,List.length_drop,j1 hl];omega
set_option maxRecDepth 4000 in
set_option maxHeartbeats 4000000 in
theorem w6 (u:bq) (hu:u.Wf) (hr:cp u):Pure Tryz.prog 10 [u.av] (fun r=>r= .dI [(dP u).av,i64 0]):=by
 have c0:=jx u hu
 rw[jR.2 hr] at c0
 have c1:=ml u hu
 rw[if_pos (cT.2 hr)] at c1
 unfold fq at c1
 have hfew:=hr.BH
 have h96:∀g∈u.bp,g.nodes.length * 96≤140737488351232:=fun g hg=>by have:=(hr.bp g hg).len.2;omega
 refine cV ?_ (by rw[cG,cL,cL,cL];exact⟨jZ _,by simp[cG],trivial⟩)
 refine aL AH rfl ?_
 refine kD ?_
 refine aN (zb u hu h96 _ _) ?_
 rintro _ H2 n2 ⟨sh,lk,gr,ids,rfl,hA,hin,hn2,hk⟩
 have hnd:=hA.nodup
 obtain⟨i1,i2⟩:=hin sh (by simp)
 obtain⟨i3,i4⟩:=hin lk (by simp)
 obtain⟨i5,i6⟩:=hin gr (by simp)
 have n1:sh≠lk:=fun e=>by subst e;simp at hnd
 have n3:sh≠gr:=fun e=>by subst e;simp at hnd
 have n4:lk≠gr:=fun e=>by subst e;simp at hnd
 have hil:=hA.len
 obtain⟨d1,q1⟩:=hA.sh
 obtain⟨d2,q2⟩:=hA.lk
 obtain⟨d3,q3⟩:=hA.gr
 have q4:bj H2 0=some (.row 25 3 .any [u.av]):=(hk 0 (by omega)).trans bk
 have q5:bj H2 1=some (.row 25 3 (ir true [.slice none 0 0, .slice none 0 0, .slice none 0 0]) [ir true [.slice none 0 0, .slice none 0 0, .slice none 0 0]]):=(hk 1 (by omega)).trans bk
 have hn2:2≤n2:=by omega
 clear hk c0 c1 hA
 refine kD ?_
 refine aJ (fun t:Nat=>[(1, .pt 0 1 0 0),(2, .pt 1 1 0 0),(7, .im 3 .any ((cq u).map cB.av)),(9, .pt n2 1 0 0),(10,i64 t)])
  (fun t H n=>t≤u.bp.length∧n2+1≤n∧(∃d,bj H 0=some (.row 25 3 d [u.av]))∧(∃d,bj H 1=some (.row 25 3 d [ir true [.slice none 0 0, .slice none 0 0, .slice none 0 0]]))∧(∃d,bj H n2=some (.row 25 3 d [zK sh lk gr u]))∧(∃d,bj H sh=some (.row 48 3 d (u.shared.map Decl.av)))∧(∃d,bj H lk=some (.row 48 3 d (u.bx.map Decl.av)))∧∃d,bj H gr=some (.row 40 4 d (kZ u ids t))) (fun t=>u.bp.length - t) 0 bt ⟨Nat.zero_le _,cI,⟨_,bk⟩,⟨_,bk⟩,⟨_,bk⟩,⟨_,bk⟩,⟨_,bk⟩,⟨_,by rw[show kZ u ids 0=kI ids u.bp by simp[kZ,iR]];exact bk⟩⟩ ?_
 clear q1 q2 q3 q4 q5
 rintro t H n ⟨ht,hn,⟨d0,q0⟩,⟨d1,q1⟩,⟨d2,q2⟩,⟨d3,q3⟩,⟨d4,q4⟩,d5,q5⟩
 have a0:=HW hil ht
 have a1:(u.bp.map bo.av).length=u.bp.length:=by simp
 by_cases htl:t<u.bp.length
 ·have c0:=y4 u hu t htl (hr.gr htl) (cq u) (gp u) hfew.1
  have e0:=fun d=>HV hil htl d
  have hst:=HX hil htl
  refine kD ?_
  exact⟨t+1,by omega,bt,by omega,cI,⟨_,bk⟩,⟨_,bk⟩,⟨_,bk⟩,⟨_,bk⟩,⟨_,bk⟩,⟨_,by rw[←hst];exact bk⟩⟩
 ·have:t=u.bp.length:=by omega
  subst this
  have hm:kZ u ids u.bp.length=(dP u).bp.map bo.av:=by
   rw[kZ,List.drop_eq_nil_of_le (by rw[j1 hil];exact Nat.le_refl _),List.append_nil];rfl
  rw[hm] at q5
  have hol:=gZ u
  refine kD ?_
  refine⟨la.trans ?_⟩
  rw[od 5 (by simp[cG])]
  refine congrArg (fun z=>AV.dI [z,i64 0]) ?_
  rw[nj]
  simp only[List.map_cons,List.map_nil]
  rw[dG (b:=sh) bk (by simp),dG (b:=lk) bk (by simp),dG (b:=gr) bk (by simp[hol]),cc _ (gK _),cc _ (gK _),cc _ (kr _)]
  rfl
theorem yM (u:bq) (hu:u.Wf):Pure Tryz.prog 10 [u.av] (fun r=>r=pD u (dP u)):=by
 unfold pD
 by_cases hr:cp u
 ·rw[if_pos (cT.2 hr)];exact w6 u hu hr
 ·rw[if_neg (mt cT.1 hr)]
  have c0:=jx u hu
  have h60:=jY hr
  generalize gC u=c3 at *
  obtain⟨c1,c2,c3⟩:=c3
  simp only at h60
  subst h60
  refine wU ?_
  refine aI AH rfl ?_
  refine kD ?_
  first|exact rfl|trivial
end Go.Proofs.YtmonponfppdgfaaGreatDoor
end
section
/- Every Idle and Once; every Sweep: the laws' walks. -/
namespace Go.Proofs.YtmonponfppdgfaaGreatDoor
open Go Go.ck Go.Proofs
set_option linter.unusedSimpArgs false
set_option linter.unusedVariables false
theorem uM (u:bq) (t:Int):∃(l:List Bool) (n:Int),l.length≤4096∧nI u t (eD (u.gr t.toNat) (cq u) t.toNat)= .dI [fg l,i64 n]:=by
 unfold nI
 by_cases hr:cp u
 ·rw[if_pos (cT.2 hr)]
  by_cases ht:t<0∨(u.bp.length:Int)≤t
  ·rw[if_pos ht];exact⟨[],2,by simp,rfl⟩
  ·rw[if_neg ht]
   refine⟨_,0, ?_,rfl⟩
   rw[kW];exact(hr.gr (t:=t.toNat) (by omega)).len.2
 ·rw[if_neg (mt cT.1 hr)];exact⟨[],60,by simp,rfl⟩
theorem IQ:(⟨[],[],[]⟩:bq).Wf:=⟨by simp,by simp,by simp,by simp,by simp,by simp⟩
theorem u9 {u v:bq} (hv:cp u→v.Wf):∃(w:bq) (n:Int),w.Wf∧pD u v= .dI [w.av,i64 n]:=by
 unfold pD
 by_cases hr:cp u
 ·rw[if_pos (cT.2 hr)];exact⟨_,_,hv hr,rfl⟩
 ·rw[if_neg (mt cT.1 hr)];exact⟨_,_,IQ,rfl⟩
set_option maxRecDepth 4000 in
set_option maxHeartbeats 2000000 in
theorem qd (u:bq) (hu:u.Wf) (t:Int) (ht:iq t):Pure Tryz.prog 3 [u.av,i64 t] (fun r=>r=bl true):=by
 have c0:=sV u hu t
 have c1:=yL u hu t
 have c2:=zP u hu
 have c3:=yM u hu
 have c6:=uz
 obtain⟨l,n,hl,e⟩:=uM u t
 obtain⟨w,m,hw,e'⟩:=u9 (qJ hu)
 rw[e] at c0 c1
 rw[e'] at c2 c3
 have c4:=q9 l l hl hl
 have c5:=y5 w w hw hw
 rw[decide_eq_true rfl] at c4 c5
 unfold fg at c4
 refine aI LJ rfl ?_
 refine kD ?_
 first|exact rfl|trivial|(simp;done)
end Go.Proofs.YtmonponfppdgfaaGreatDoor
end
section
/- Every Idle and Once is the document's: for every unit and thread. No conditions beyond the card's own: the library's table starts as its text lays it. -/
namespace Go.Proofs.YtmonponfppdgfaaGreatDoor
open Go Go.ck Go.Proofs Go.RowKit Go.ChangeShapes Go.WideShapes Go.ChangeAt
set_option linter.unusedSimpArgs false
set_option linter.unusedVariables false
set_option maxRecDepth 100000 in
theorem o7 (os:Os) (started:os.Started) (H:Type) (enc:TypeId×Value→H):
 ReturnsInHanded {} Tryz.checked os 3 .any (fun w args=>(Rows.deadIdlesSpec.pre enc Tryz.prog Tryz.f3 [] false w args∧laidMetH Tryz.prog vo w)∧sizedMet enc Tryz.prog Tryz.f3 (OpenSpec.ofChange Rows.deadIdlesSpec) false w args) (Rows.deadIdlesSpec.post enc Tryz.prog Tryz.f3 false true false false):=by
 refine returnsInHanded_of_change_and (C:=Tryz.checked) (X:=fun w _=>laidMetH Tryz.prog vo w) (fun _ _ _ hh h=>h.of_heap hh) own started (by kernel_rfl) Tryz.func3
  (ChangeSpec.witness_shaped (enc:=enc) (C:=Tryz.checked) (os:=os) (X:=fun w _=>laidMetH Tryz.prog vo w) false (World.doorLaid Tryz.prog 400 os) #[.agg #[.slice none 0 0, .slice none 0 0, .slice none 0 0], .int .i64 0] 8 rfl (World.shaped_of_RefB (by kernel_rfl) (by kernel_rfl)) (by kernel_rfl) (by kernel_rfl) (by kernel_rfl) (B2 os _)) ?_
 intro W base args ds gs before hval hW _ hr hL _
 refine uL (ts:=[25,3]) (tb:=4) laidOut (by kernel_rfl) rfl Tryz.underlying4 (by kernel_rfl) (fun ds h=> ?_) (fun t ht=> ?_)
  (mj (ag:=true) (by kernel_rfl) yH (fun h=>by cases h) (mj (ag:=false) (by kernel_rfl) (dz Tryz.underlying3) (fun _ _ _=>rfl) uR))
  (fun a h=> ?_) hval hW hr (IA hL)
 ·match ds,h with
  |[d0,d1],_=>rfl
 ·have:∀t∈[25,3],Tryz.prog.readableRec t=true∧t<Tryz.prog.types.size:=by
   simp only[List.forall_mem_cons]
   refine⟨⟨by kernel_rfl,of_decide_eq_true (by kernel_rfl)⟩,⟨by kernel_rfl,of_decide_eq_true (by kernel_rfl)⟩,by simp⟩
  exact this t ht
 ·exact qd a.1 h.1 a.2.1 h.2.1
theorem sH:Rows.DeadIdlesSaid:=
 OpenClaim.holds_of_wide 3 Tryz.f3 rfl rfl rfl rfl rfl rfl rfl ⟨rfl,rfl,rfl,rfl,rfl⟩ rfl rfl rfl rfl rfl (by kernel_rfl) Tryz.func3 (by kernel_rfl)
  (of_decide_eq_true (by kernel_rfl)) (by unfold Func.isWrapper;first|(rw[if_pos (by decide+kernel)];kernel_rfl)|(rw[if_neg (by decide+kernel)];exact⟨rfl,rfl⟩))
  (fun os started H enc _=>o7 os started H enc)
set_option maxRecDepth 100000 in
theorem deadIdles_holds:Rows.DeadIdlesCardSaid:=
 Claim7.holds_tied_plain_at .later [] [.data] true (true, "12af8c7818b0501ec9e10285ad2d8f59b85aa667e4dfad6624519679bdff7faf") false
  sH (fun _ h=>by cases h) (by kernel_rfl) (fun _ h=>by cases h) deadIdles_row_tie rfl ⟨rfl,rfl⟩ (by kernel_rfl) rfl
  (fun f fn hf hfn=>by
   obtain rfl:f=3:=Option.some.inj ((show Tryz.prog.funcNamed "stile/stilelaw14.DeadIdles" =some 3 by kernel_rfl).symm.trans hf)|>.symm
   obtain rfl:fn=Tryz.f3:=(Option.some.inj (Tryz.func3.symm.trans hfn)).symm
   exact⟨by kernel_rfl,fun j t ht=>by
    rw[show Tryz.f3.params=#[25,3] by kernel_rfl] at ht
    have hm:t∈[25,3]:=by simpa using Array.mem_of_getElem? ht
    have hall:([25,3].all fun u=> !Tryz.prog.wantsStandIn u)=true:=by kernel_rfl
    exact(show Tryz.prog.wantsStandIn t=false by simpa using List.all_eq_true.1 hall t hm)⟩)
  (by kernel_rfl)
end Go.Proofs.YtmonponfppdgfaaGreatDoor
end
