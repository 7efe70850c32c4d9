import Derived.Test.YtmonponfppdgfaaGreatDoorM40
import Derived.Test.YtmonponfppdgfaaGreatDoorM36
import Derived.Test.YtmonponfppdgfaaGreatDoorM41
import Derived.Test.YtmonponfppdgfaaGreatDoorM37
section
/- What is idle: the document's walk. -/
namespace Go.Proofs.YtmonponfppdgfaaGreatDoor
open Go Go.ch Go.Proofs
set_option linter.unusedSimpArgs false
set_option linter.unusedVariables false
@[simp] theorem CH (n:Nat) (l:List Bool):cG n (fp l):=by simp[fp,cG,cJ]
theorem KE {T:hZ} {i:Nat} (h:i<T.length) (d:AV):(T.map fp).getD i d= .im 1 .any ((T.getD i []).map bl):=dJ fp T i d h
set_option maxRecDepth 4000 in
set_option maxHeartbeats 2000000 in
theorem lC {T:hZ} {m n:Nat} (hT:Shape T m n) (nd:Node) (hl:∀to∈nd.dK,0≤to∧to.toNat<m) (k:Nat) (hk:k<n):Pure Tryz.prog 50 [dO nd.dK, .im 1 .any (T.map fp),i64 k] (fun r=>r=bl (kC T nd k)):=by
 have a0:(nd.dK.map i64).length=nd.dK.length:=by simp
 have hfl:=mO nd
 have a1:(T.map fp).length=m:=by rw[List.length_map,hT.len]
 refine aJ D9 rfl ?_
 unfold dO
 refine jj ?_
 refine aI (fun i:Nat=>[(0,dO nd.dK),(1, .im 1 .any (T.map fp)),(2,i64 k),(7,i64 i)])
  (fun i H p=>i≤nd.dK.length∧fw T nd k i=false) (fun i=>nd.dK.length - i) 0 bt ⟨Nat.zero_le _,rfl⟩ ?_
 unfold dO
 rintro i H p ⟨hi,hall⟩
 by_cases hil:i<nd.dK.length
 ·have e0:=fun d=>eS (l:=nd.dK) hil d
  obtain⟨y0,y1⟩:=hl _ (cC (0:Int) hil)
  have han:=ki (T:=T) (k:=k) hil
  rw[hall,Bool.false_or] at han
  have hmem:=cC (0:Int) hil
  generalize nd.dK.getD i 0=y at *
  have e1:=fun d=>KE (T:=T) (i:=y.toNat) (by rw[hT.len];exact y1) d
  have hrow:=hT.row y.toNat y1
  have e2:=fun d=>gR (l:=T.getD y.toNat []) (k:=k) (by rw[hrow];exact hk) d
  have a2:((T.getD y.toNat []).map bl).length=n:=by rw[List.length_map,hrow]
  rw[show(T.getD y.toNat []).getD k false=dY T y.toNat k from rfl] at e2
  cases hv:dY T y.toNat k with
  |true=>
   rw[hv] at e2
   refine jj ?_
   refine cg (Eq.symm ?_)
   exact qc.2 ⟨y,hmem,hv⟩
  |false=>
   rw[hv] at e2 han
   refine jj ?_
   exact⟨i+1,by omega,bt,by omega,han⟩
 ·have:i=nd.dK.length:=by omega
  subst this
  rw[l6] at hall
  refine jj ?_
  exact cg hall.symm
set_option maxRecDepth 4000 in
set_option maxHeartbeats 2000000 in
theorem tN (g:bo) (hg:g.Wf) (out:List Bool) (hm:out.length=g.nodes.length) (he:Ends out g) (hnx:∀j,tf out j=true→0≤(g.nd j).next∧(g.nd j).next<g.nodes.length) (i:Nat) (hi:i<g.nodes.length):Pure Tryz.prog 58 [g.av,fp out,i64 i] (fun r=>r=i64 (dR out g i:Nat)):=by
 obtain⟨K,hK,hk1,hk2⟩:=he i
 have hfin:dR out g i=iter g i K:=j4 out g K out.length i hK hk1 hk2
 have hin:∀k,k≤K→iter g i k<g.nodes.length:=fun k hk=>by
  cases k with
  |zero=>exact hi
  |succ q=>
   have:=hnx _ (hk2 q (by omega))
   show(g.nd (iter g i q)).next.toNat<_
   omega
 have a0:(out.map bl).length=g.nodes.length:=by rw[List.length_map,hm]
 have a1:(g.nodes.map Node.av).length=g.nodes.length:=by simp
 rw[hfin]
 refine aJ EH rfl ?_
 unfold fp
 refine jj ?_
 refine aI (fun k:Nat=>[(1,fp out),(2,i64 (iter g i k:Nat)),(3, .pt 0 1 0 0)])
  (fun k H p=>k≤K∧1≤p∧∃d,bj H 0=some (.row 40 4 d [g.av])) (fun k=>K - k) 0 bt ⟨Nat.zero_le _,cH,⟨_,bk⟩⟩ ?_
 unfold fp
 rintro k H p ⟨hk,hp,d0,r0⟩
 have hik:=hin k hk
 have e1:=fun d=>gR (l:=out) (k:=iter g i k) (by rw[hm];exact hik) d
 by_cases hkK:k<K
 ·have htr:out.getD (iter g i k) false=true:=hk2 k hkK
  rw[htr] at e1
  have e0:=fun d=>dy (l:=g.nodes) hik d
  rw[show g.nodes.getD (iter g i k) default=g.nd (iter g i k) from rfl] at e0
  have hn:=hnx _ (hk2 k hkK)
  have r1:(g.nd (iter g i k)).next=((iter g i (k+1):Nat):Int):=by
   show _=(((g.nd (iter g i k)).next.toNat:Nat):Int);omega
  refine jj ?_
  exact⟨k+1,by omega,bt,by omega,cH,⟨_,bk⟩⟩
 ·have:k=K:=by omega
  subst this
  have hfl:out.getD (iter g i k) false=false:=hk1
  rw[hfl] at e1
  refine jj ?_
  trivial
end Go.Proofs.YtmonponfppdgfaaGreatDoor
end
section
/- What is idle: the document's walk. -/
namespace Go.Proofs.YtmonponfppdgfaaGreatDoor
open Go Go.ch Go.Proofs
set_option linter.unusedSimpArgs false
set_option linter.unusedVariables false
open Classical in
theorem xk {l:List Bool} {g:bo} {i:Nat} (h:i<l.length):(cx l g).take (i+1)=(cx l g).take i++[tf l i&& !decide (zW l g i)]:=by
 rw[List.take_succ_eq_append_getElem (by rw[fM];exact h)]
 simp[cx]
theorem C8 {l:List Bool} {g:bo} {i m:Nat} (hm:l.length=m) (h:i<m) (v:Bool):((cW ((cx l g).take i) m).map bl).set ((i:Nat):Int).toNat (bl v)=(cW ((cx l g).take i++[v]) m).map bl:=by
 have hl:((cx l g).take i).length=i:=by rw[List.length_take,fM];omega
 have:=ph (l:=(cx l g).take i) (m:=m) (by rw[hl];exact h) v
 rw[hl] at this;exact this
open Classical in
set_option maxRecDepth 8000 in
set_option maxHeartbeats 16000000 in
theorem yW (u:bp) (hu:u.Wf) (t:Nat) (ht:t<u.bq.length) (hk:dL u (u.gr t)) (cls:List cB) (hcl:cls.length=u.shared.length) (hN:u.shared.length≤64):Pure Tryz.prog 26 [u.av,i64 t, .im 3 .any (cls.map cB.av)] (fun r=>r=fp (eG (u.gr t) cls t)):=by
 have hg:(u.gr t).Wf:=hu.bq _ (cC default ht)
 have e0:∀d,(u.bq.map bo.av).getD (t:Int).toNat d=(u.gr t).av:=fun d=>j3 ht d
 have a0:(u.bq.map bo.av).length=u.bq.length:=by simp
 have a1:(cls.map cB.av).length=cls.length:=by simp
 have hw:=hk.whole
 have c0:=wm u hu t ht hw cls hcl hN
 have c1:=kI (u.gr t) hg hw
 have hslots:=hk.cf
 have hlocals:=hk.locals
 obtain⟨N,hNs⟩:∃N:Nat,(u.gr t).cf=N:=⟨(u.gr t).cf.toNat,by omega⟩
 have c2:=y4 (u.gr t) hg hw N (by omega) hNs
 generalize u.gr t=g at *
 have hl1:=hw.2.1
 have hsh1:Shape (fq g) g.nodes.length g.cf.toNat:=iU _ _ _ _
 have hsh2:Shape (jz g cls t) g.nodes.length cls.length:=iU _ _ _ _
 have a2:(g.nodes.map Node.av).length=g.nodes.length:=by simp
 have a3:((cd g (-1)).map bl).length=g.nodes.length:=by rw[List.length_map,dP]
 refine cT ?_ (CH _ _)
 refine aL DL rfl ?_
 refine jj ?_
 simp only[List.length_map,Int.toNat_natCast]
 have hrw0:cW (dW g cls t 0) g.nodes.length=List.replicate g.nodes.length false:=by simp[cW,dW]
 refine aI (fun i:Nat=>[(1,i64 t),(2, .im 3 .any (cls.map cB.av)),(3, .pt 0 1 0 0),(7, .pt 7 1 0 0),(8,fp (cd g (-1))),(9, .im 1 .any ((fq g).map fp)),(10, .im 1 .any ((jz g cls t).map fp)),(11, .sl 20 g.nodes.length),(12,i64 i)])
  (fun i H n=>i≤g.nodes.length∧21≤n∧(∃d,bj H 7=some (.row 40 4 d [g.av]))∧∃d,bj H 20=some (.row 4 1 d ((cW (dW g cls t i) g.nodes.length).map bl))) (fun i=>g.nodes.length - i) 0 bt ⟨Nat.zero_le _,cH,⟨_,bk⟩,⟨_,by rw[hrw0,List.map_replicate];exact bk⟩⟩ ?_
 clear c0 c1 c2 e0
 rintro i H n ⟨hi,hn,⟨d7,r7⟩,d8,r8⟩
 by_cases hil:i<g.nodes.length
 ·have e0:=fun d=>dy hil d
  have e1:=fun d=>l7 (l:=cd g (-1)) (k:=i) d (by rw[dP];exact hil)
  have a4:((cW (dW g cls t i) g.nodes.length).map bl).length=g.nodes.length:=by rw[List.length_map,iq (by rw[eL];exact hi)]
  have e2:=fun d=>gR (l:=cW (dW g cls t i) g.nodes.length) (k:=i) (by rw[iq (by rw[eL];exact hi)];exact hil) d
  have hno:=hk.node hil
  have hfol:=(hw.2.2 i hil).2.2
  have hnxt:=pj g cls t i
  have c0:=fu (g.nodes.getD i default)
  rw[show g.nodes.getD i default=g.nd i from rfl] at e0 c0
  have cE:dC g cls t i=false→∃d,bj H 20=some (.row 4 1 d ((cW (dW g cls t (i+1)) g.nodes.length).map bl)):=fun h=>⟨d8,by rw[hnxt,h,kJ (by rw[eL];exact hil)];exact r8⟩
  have put:∀v,dC g cls t i=v→((cW (dW g cls t i) g.nodes.length).map bl).set ((i:Nat):Int).toNat (bl v)=(cW (dW g cls t (i+1)) g.nodes.length).map bl:=fun v h=>by rw[mG hil,hnxt,h]
  cases hrc:gl (cd g (-1)) (i:Int) with
  |false=>
   rw[hrc] at e1
   obtain⟨_,r9⟩:=cE (by unfold dC;rw[hrc];rfl)
   refine jj ?_
   exact⟨i+1,by omega,bt,by omega,cH,⟨_,bk⟩,⟨_,bk⟩⟩
  |true=>
   rw[hrc] at e1
   by_cases h1:(g.nd i).kind=1
   ·have hsl:=hno.slot.1 (by unfold gH;exact decide_eq_true (by omega))
    obtain⟨ks,hks⟩:∃ks:Nat,(g.nd i).slot=ks:=⟨(g.nd i).slot.toNat,by omega⟩
    have c1:=lC hsh1 (g.nd i) hfol ks (by omega)
    unfold dO at c1
    have r0:=h1
    have r1:=hks
    have hsb:dC g cls t i=(!kC (fq g) (g.nd i) ks||(decide ((g.nd i).op=0)&&(g.nd i).a.dr&&decide ((g.nd i).a.slot=ks))):=by
     unfold dC
     simp only[hrc,h1,hks,if_true,Bool.true_and,Int.toNat_natCast]
    refine jj ?_
    refine⟨i+1,by omega,bt,by omega,cH,⟨_,bk⟩,_,Eq.trans bk (congrArg (fun v=>some (eP.row _ 1 _ v)) (put _ ?_))⟩
    rw[hsb]
    cases kC (fq g) (g.nd i) ks<;>cases(g.nd i).a.dr<;>by_cases h5:(g.nd i).op=0<;>simp[h5]
   ·by_cases h2:(g.nd i).kind=2
    ·have hsl:=hno.slot.1 (by unfold gH;exact decide_eq_true (by omega))
     have hth:=hno.cP.1 (by unfold fX;exact decide_eq_true (by omega))
     rw[if_neg (by omega)] at hth
     obtain⟨ks,hks⟩:∃ks:Nat,(g.nd i).slot=ks:=⟨(g.nd i).slot.toNat,by omega⟩
     obtain⟨kt,hkt⟩:∃kt:Nat,(g.nd i).cP=kt:=⟨(g.nd i).cP.toNat,by omega⟩
     have e3:∀d,(cls.map cB.av).getD ((kt:Int)).toNat d=(cls.getD kt default).av:=fun d=>by rw[Int.toNat_natCast];exact dJ cB.av cls kt d (by omega)
     have c1:=lC hsh1 (g.nd i) hfol ks (by omega)
     unfold dO at c1
     have r0:=h2
     have r1:=hks
     have r2:=hkt
     have hsb:dC g cls t i=(decide ((cls.getD kt default).kind≠3)&& !kC (fq g) (g.nd i) ks):=by
      unfold dC
      dsimp only
      rw[hrc,Bool.true_and,if_neg h1,if_pos h2,hks,hkt,Int.toNat_natCast,Int.toNat_natCast]
     by_cases h3:(cls.getD kt default).kind=3
     ·refine jj ?_
      refine⟨i+1,by omega,bt,by omega,cH,⟨_,bk⟩,_,Eq.trans bk (congrArg (fun v=>some (eP.row _ 1 _ v)) (put _ ?_))⟩
      simp[hsb,h3]
     ·refine jj ?_
      refine⟨i+1,by omega,bt,by omega,cH,⟨_,bk⟩,_,Eq.trans bk (congrArg (fun v=>some (eP.row _ 1 _ v)) (put _ ?_))⟩
      simp[hsb,h3]
    ·by_cases h3:(g.nd i).kind=3
     ·have hth:=hno.cP.1 (by unfold fX;exact decide_eq_true (by omega))
      rw[if_neg (by omega)] at hth
      obtain⟨kt,hkt⟩:∃kt:Nat,(g.nd i).cP=kt:=⟨(g.nd i).cP.toNat,by omega⟩
      have e3:∀d,(cls.map cB.av).getD ((kt:Int)).toNat d=(cls.getD kt default).av:=fun d=>by rw[Int.toNat_natCast];exact dJ cB.av cls kt d (by omega)
      have c1:=lC hsh2 (g.nd i) hfol kt (by omega)
      unfold dO at c1
      have r0:=h3
      have r1:=hkt
      have hsb:dC g cls t i=(nQ cls t kt&& !kC (jz g cls t) (g.nd i) kt):=by
       unfold dC
       dsimp only
       rw[hrc,Bool.true_and,if_neg h1,if_neg h2,if_pos h3,hkt,Int.toNat_natCast]
      refine jj ?_
      refine⟨i+1,by omega,bt,by omega,cH,⟨_,bk⟩,_,Eq.trans bk (congrArg (fun v=>some (eP.row _ 1 _ v)) (put _ ?_))⟩
      rw[hsb]
      unfold nQ
      by_cases a:(cls.getD kt default).kind=1<;>by_cases b:(cls.getD kt default).rz=(t:Int)<;>simp[a,b]
     ·by_cases h8:(g.nd i).kind=8
      ·have hsb:dC g cls t i=decide ((g.nd i).next=(g.nd i).jT):=by
        unfold dC
        dsimp only
        rw[hrc,Bool.true_and,if_neg h1,if_neg h2,if_neg h3,if_pos h8]
       have r0:=h8
       refine jj ?_
       exact⟨i+1,by omega,bt,by omega,cH,⟨_,bk⟩,_,Eq.trans bk (congrArg (fun v=>some (eP.row _ 1 _ v)) (put _ hsb))⟩
      ·obtain⟨_,r9⟩:=cE (by
        unfold dC
        dsimp only
        rw[hrc,Bool.true_and,if_neg h1,if_neg h2,if_neg h3,if_neg h8])
       refine jj ?_
       exact⟨i+1,by omega,bt,by omega,cH,⟨_,bk⟩,⟨_,bk⟩⟩
 ·have:i=g.nodes.length:=by omega
  subst this
  have hsr:cW (dW g cls t g.nodes.length) g.nodes.length=jy g cls t:=by unfold cW jy;rw[eL,Nat.sub_self];simp
  rw[hsr] at r8
  have hnx:=fun j=>mV hk (cls:=cls) (t:=t) (j:=j)
  have hsl:=k9 g cls t
  unfold eG
  generalize jy g cls t=l at *
  have a4:(l.map bl).length=g.nodes.length:=by rw[List.length_map,hsl]
  have hil0:(cx l g).length=g.nodes.length:=by rw[fM,hsl]
  refine jj ?_
  simp only[List.length_map,Int.toNat_natCast]
  refine aI (fun i:Nat=>[(7, .pt 7 1 0 0),(11, .sl 20 g.nodes.length),(16, .sl (n+8) g.nodes.length),(17,i64 i)])
   (fun i H p=>i≤g.nodes.length∧n+9≤p∧(∃d,bj H 7=some (.row 40 4 d [g.av]))∧(∃d,bj H 20=some (.row 4 1 d (l.map bl)))∧∃d,bj H (n+8)=some (.row 4 1 d ((cW ((cx l g).take i) g.nodes.length).map bl))) (fun i=>g.nodes.length - i) 0 bt ⟨Nat.zero_le _,cH,⟨_,bk⟩,⟨_,bk⟩,⟨_,by rw[show cW ((cx l g).take 0) g.nodes.length=List.replicate g.nodes.length false by simp[cW],List.map_replicate];exact bk⟩⟩ ?_
  clear r7 r8
  rintro i H2 p ⟨hi2,hp,⟨d7,r7⟩,⟨d8,r8⟩,d9,r9⟩
  have hrl:(cW ((cx l g).take i) g.nodes.length).length=g.nodes.length:=iq (by rw[List.length_take,hil0];omega)
  have a5:((cW ((cx l g).take i) g.nodes.length).map bl).length=g.nodes.length:=by rw[List.length_map,hrl]
  by_cases hil:i<g.nodes.length
  ·have hsv:=xk (l:=l) (g:=g) (i:=i) (by omega)
   have hset:=fun v=>C8 (g:=g) hsl hil v
   have e0:=fun d=>gR (l:=l) (k:=i) (by omega) d
   rw[show l.getD i false=tf l i from rfl] at e0
   have e3:=fun d=>gR (l:=cW ((cx l g).take i) g.nodes.length) (k:=i) (by omega) d
   refine jj ?_
   refine aI (fun k:Nat=>[(7, .pt 7 1 0 0),(11, .sl 20 g.nodes.length),(16, .sl (n+8) g.nodes.length),(17,i64 i),(18,i64 (iter g i k:Nat)),(19,i64 k)])
    (fun k H q=>p≤q∧k≤g.nodes.length+1∧(∀q,q<k→tf l (iter g i q)=true)∧(∀q,1≤q→q≤k→iter g i q≠i)∧(∃d,bj H 7=some (.row 40 4 d [g.av]))∧(∃d,bj H 20=some (.row 4 1 d (l.map bl)))∧∃d,bj H (n+8)=some (.row 4 1 d ((cW ((cx l g).take i) g.nodes.length).map bl))) (fun k=>g.nodes.length+1 - k) 0 bt ⟨cH,Nat.zero_le _,fun q hq=>by omega,fun q h1 h2=>by omega,⟨_,bk⟩,⟨_,bk⟩,⟨_,bk⟩⟩ ?_
   clear r7 r8 r9
   rintro k H3 q ⟨hq,hkl,hall,hnot,⟨d7,r7⟩,⟨d8,r8⟩,d9,r9⟩
   have hik:iter g i k<g.nodes.length:=by
    cases k with
    |zero=>exact hil
    |succ z=>
     have:=hnx _ (hall z (by omega))
     show(g.nd (iter g i z)).next.toNat<_
     omega
   have e1:=fun d=>gR (l:=l) (k:=iter g i k) (by omega) d
   rw[show l.getD (iter g i k) false=tf l (iter g i k) from rfl] at e1
   have fin:∀{w:Bool},(tf l i&& !decide (zW l g i))=w→some (eP.row 4 1 d9 (((cW ((cx l g).take i) g.nodes.length).map bl).set ((i:Nat):Int).toNat (bl w)))=some (eP.row 4 1 d9 ((cW ((cx l g).take (i+1)) g.nodes.length).map bl)):=fun h=>by rw[hset,hsv,h]
   by_cases hc1:k≤g.nodes.length∧tf l (iter g i k)=true
   ·obtain⟨hk1,hk2⟩:=hc1
    rw[hk2] at e1
    have e2:=fun d=>dy (l:=g.nodes) hik d
    rw[show g.nodes.getD (iter g i k) default=g.nd (iter g i k) from rfl] at e2
    have hn:=hnx _ hk2
    have r0:(g.nd (iter g i k)).next=((iter g i (k+1):Nat):Int):=by
     show _=(((g.nd (iter g i k)).next.toNat:Nat):Int);omega
    by_cases hback:iter g i (k+1)=i
    ·have hret:zW l g i:=⟨k+1,by omega,hback,fun z hz=>by
      by_cases e:z=k
      ·rw[e];exact hk2
      ·exact hall z (by omega)⟩
     refine jj ?_
     refine⟨i+1,by omega,bt,by omega,cH,⟨_,bk⟩,⟨_,bk⟩,_,Eq.trans bk (fin ?_)⟩
     rw[decide_eq_true hret,hback]
     cases tf l i<;>simp
    ·refine jj ?_
     exact⟨k+1,by omega,bt,cH,by omega,fun z hz=>by
      by_cases e:z=k
      ·rw[e];exact hk2
      ·exact hall z (by omega),fun z h1 h2=>by
      by_cases e:z=k+1
      ·rw[e];exact hback
      ·exact hnot z h1 (by omega),⟨_,bk⟩,⟨_,bk⟩,⟨_,bk⟩⟩
   ·have hno:(tf l i&& !decide (zW l g i))=(tf l i&&decide (iter g i k≠i)):=by
     cases k with
     |zero=>
      have:tf l i=false:=by
       cases h:tf l i with
       |false=>rfl
       |true=>exact absurd ⟨Nat.zero_le _,h⟩ hc1
      rw[this];rfl
     |succ z=>
      have h1:=pA (l:=l) (g:=g) (i:=i) (k:=z) ⟨fun q hq=>hall q (by omega),fun q h1 h2=>hnot q h1 (by omega)⟩ (by
       by_cases h:tf l (iter g i (z+1))=true
       ·left
        have:¬z+1≤g.nodes.length:=fun e=>hc1 ⟨e,h⟩
        omega
       ·right;simpa using h)
      have h2:=hnot (z+1) (by omega) (Nat.le_refl _)
      rw[decide_eq_false h1,decide_eq_true h2];rfl
    by_cases hkn:k≤g.nodes.length
    ·have:tf l (iter g i k)=false:=by
      cases h:tf l (iter g i k) with
      |false=>rfl
      |true=>exact absurd ⟨hkn,h⟩ hc1
     rw[this] at e1
     refine jj ?_
     refine⟨i+1,by omega,bt,by omega,cH,⟨_,bk⟩,⟨_,bk⟩,_,Eq.trans bk (fin ?_)⟩
     rw[hno]
     cases tf l i<;>by_cases e:iter g i k=i<;>simp[e]<;>omega
    ·refine jj ?_
     refine⟨i+1,by omega,bt,by omega,cH,⟨_,bk⟩,⟨_,bk⟩,_,Eq.trans bk (fin ?_)⟩
     rw[hno]
     cases tf l i<;>by_cases e:iter g i k=i<;>simp[e]<;>omega
  ·have:i=g.nodes.length:=by omega
   subst this
   rw[show cW ((cx l g).take g.nodes.length) g.nodes.length=cx l g by
    rw[List.take_of_length_le (by omega)];unfold cW;rw[hil0,Nat.sub_self];simp] at r9
   refine jj ?_
   refine⟨?_⟩
   refine(dH (b:=n+8) (e:=4) (sz:=1) (d:=d9) (es:=(cx l g).map bl) bk (by rw[List.length_map,hil0])).trans ?_
   rw[ca _ (jU _ _)];rfl
end Go.Proofs.YtmonponfppdgfaaGreatDoor
end
section
/- A graph without what is idle: the document's walk. -/
namespace Go.Proofs.YtmonponfppdgfaaGreatDoor
open Go Go.ch Go.Proofs
set_option linter.unusedSimpArgs false
set_option linter.unusedVariables false
structure s7 (o P:List Nat) (m k:Nat):Prop where
 len:P.length=m
 at_:∀j,j<k→P.getD (o.getD j 0) 0=j
 no:∀i,(∀j,j<k→o.getD j 0≠i)→P.getD i 0=0
theorem s7.next {o P:List Nat} {m k:Nat} (h:s7 o P m k) (hn:o.Nodup) (hk:k<o.length) (hlt:o.getD k 0<m):s7 o (P.set (o.getD k 0) k) m (k+1):=by
 refine⟨by rw[List.length_set];exact h.len,fun j hj=> ?_,fun i hi=> ?_⟩
 ·rw[dE]
  by_cases e:j=k
  ·subst e;rw[if_pos ⟨rfl,by rw[h.len];exact hlt⟩]
  ·rw[if_neg (fun e2=>e (tY hn (by omega) hk e2.1.symm)),h.at_ j (by omega)]
 ·rw[dE,if_neg (fun e=>hi k (by omega) e.1),h.no i fun j hj=>hi j (by omega)]
theorem s7.get {o P:List Nat} {m:Nat} (h:s7 o P m o.length) (i:Nat):P.getD i 0=dv o i:=by
 by_cases hi:i∈o
 ·obtain⟨h1,h2⟩:=rZ hi
  have:=h.at_ _ h1
  rw[h2] at this;exact this
 ·have h0:o.findIdx? (fun j=>decide (j=i))=none:=by
   rw[List.findIdx?_eq_none_iff]
   intro x hx
   rw[decide_eq_false_iff_not]
   intro e;rw[e] at hx;exact hi hx
  rw[dv,h0]
  refine h.no i fun j hj e=>hi ?_
  rw[←e]
  simp only[List.getD,List.getElem?_eq_getElem hj,Option.getD_some];exact List.getElem_mem hj
theorem FV {P:List Nat} {i k:Nat}:(hC P).set i (i64 k)=hC (P.set i k):=by simp[hC,List.map_set]
set_option maxRecDepth 8000 in
set_option maxHeartbeats 16000000 in
theorem y7 (u:bp) (hu:u.Wf) (t:Nat) (ht:t<u.bq.length) (hk:dL u (u.gr t)) (cls:List cB) (hcl:cls.length=u.shared.length) (hN:u.shared.length≤64):Pure Tryz.prog 31 [u.av,i64 t, .im 3 .any (cls.map cB.av)] (fun r=>r=(gD (u.gr t) cls t).av):=by
 have hg:(u.gr t).Wf:=hu.bq _ (cC default ht)
 have e0:∀d,(u.bq.map bo.av).getD (t:Int).toNat d=(u.gr t).av:=fun d=>j3 ht d
 have a0:(u.bq.map bo.av).length=u.bq.length:=by simp
 have hw:=hk.whole
 have c0:=yW u hu t ht hk cls hcl hN
 have c1:=kI (u.gr t) hg hw
 have hk0:=hk
 have hnx0:=fun j=>mV hk (cls:=cls) (t:=t) (j:=j)
 generalize u.gr t=g at *
 have hl0:=hw.1
 have hl1:=hw.2.1
 have a1:(g.nodes.map Node.av).length=g.nodes.length:=by simp
 have a2:((cd g (-1)).map bl).length=g.nodes.length:=by rw[List.length_map,dP]
 have he:Ends (eG g cls t) g:=o9 _ _
 have hol:=mP g cls t
 have hnx:∀j,tf (eG g cls t) j=true→0≤(g.nd j).next∧(g.nd j).next<g.nodes.length:=fun j hj=>hnx0 j (fi.1 hj).1
 have hog:gD g cls t={ g with nodes:=(cX g (eG g cls t)).map fun i=>cz g (eG g cls t) (cX g (eG g cls t)) (g.nd i) }:=rfl
 rw[hog]
 generalize eG g cls t=out at *
 have hheir:∀i,i<g.nodes.length→dR out g i<g.nodes.length:=fun i hi=>ny (P:=fun i=>i<g.nodes.length) he (fun i h1 h2=>by have:=hnx i h1;show(g.nd i).next.toNat<_;omega) hi
 have hh0:=hheir 0 (by omega)
 have c2:=tN g hg out hol he hnx 0 (by omega)
 have a3:(out.map bl).length=g.nodes.length:=by rw[List.length_map,hol]
 refine cT ?_ (jm _)
 refine aL DQ rfl ?_
 unfold fp at c2
 rw[show((0:Nat):Int)=0 from rfl] at c2
 refine jj ?_
 clear c0 c1 c2 e0
 refine aI (fun i:Nat=>[(6, .pt 1 1 0 0),(7, .pt 7 1 0 0),(8,fp (cd g (-1))),(9,fp out),(10,i64 (dR out g 0:Nat)),(11, .sl 19 (eB g out i).length),(12,i64 i)])
  (fun i H n=>i≤g.nodes.length∧20≤n∧(∃d,bj H 1=some (.row 40 4 d [ou]))∧(∃d,bj H 7=some (.row 40 4 d [g.av]))∧∃d,bj H 19=some (.row 3 1 d (hC (eB g out i)))) (fun i=>g.nodes.length - i) 0 bt ⟨Nat.zero_le _,cH,⟨_,bk⟩,⟨_,bk⟩,⟨_,bk⟩⟩ ?_
 rintro i H n ⟨hi,hn,⟨d1,q1⟩,⟨d7,q7⟩,d19,q19⟩
 by_cases hil:i<g.nodes.length
 ·have e0:=fun d=>l7 (l:=cd g (-1)) (k:=i) d (by rw[dP];exact hil)
  have e1:=fun d=>gR (l:=out) (k:=i) (by omega) d
  rw[show out.getD i false=tf out i from rfl] at e1
  have hnxt:=oJ g out i
  have hlen:=jv (m:=i) hh0 hi
  have a4:(hC (eB g out i)).length=(eB g out i).length:=by simp[hC]
  have cE:iO g out i=false→eB g out (i+1)=eB g out i:=fun h=>by rw[hnxt,if_neg (by rw[h];decide)]
  by_cases hih:i=dR out g 0
  ·have r0:decide ((i:Int)≠(dR out g 0:Nat))=false:=decide_eq_false (by omega)
   have hk:=cE (by unfold iO;rw[decide_eq_false (fun h=>h hih)];simp)
   refine jj ?_
   exact⟨i+1,by omega,by rw[hk];exact bt,by omega,cH,⟨_,bk⟩,⟨_,bk⟩,⟨_,by rw[hk];exact bk⟩⟩
  ·have r0:decide ((i:Int)≠(dR out g 0:Nat))=true:=decide_eq_true (by omega)
   cases hrc:gl (cd g (-1)) (i:Int) with
   |false=>
    rw[hrc] at e0
    have hk:=cE (by unfold iO;rw[hrc];rfl)
    refine jj ?_
    exact⟨i+1,by omega,by rw[hk];exact bt,by omega,cH,⟨_,bk⟩,⟨_,bk⟩,⟨_,by rw[hk];exact bk⟩⟩
   |true=>
    rw[hrc] at e0
    cases hto:tf out i with
    |true=>
     rw[hto] at e1
     have hk:=cE (by unfold iO;rw[hto,hrc];rfl)
     refine jj ?_
     exact⟨i+1,by omega,by rw[hk];exact bt,by omega,cH,⟨_,bk⟩,⟨_,bk⟩,⟨_,by rw[hk];exact bk⟩⟩
    |false=>
     rw[hto] at e1
     rw[if_pos (by unfold iO;rw[hrc,hto,decide_eq_true hih];rfl)] at hnxt
     refine jj ?_
     exact⟨i+1,by omega,by rw[hnxt];exact bt,by omega,cH,⟨_,bk⟩,⟨_,bk⟩,⟨_,by rw[hnxt,←wX];exact bk⟩⟩
 ·have:i=g.nodes.length:=by omega
  subst this
  have hnd:=iV g out g.nodes.length
  have hlt:=nP (m:=g.nodes.length) hh0 (Nat.le_refl _)
  have hlen:=jv (m:=g.nodes.length) hh0 (Nat.le_refl _)
  rw[p9] at q19 hnd hlt hlen ⊢
  generalize cX g out=o at *
  have a4:(hC o).length=o.length:=by simp[hC]
  have hget:∀k,k<o.length→o.getD k 0<g.nodes.length:=fun k hk=>hlt _ (by simp only[List.getD,List.getElem?_eq_getElem hk,Option.getD_some];exact List.getElem_mem hk)
  refine jj ?_
  refine aI (fun k:Nat=>[(6, .pt 1 1 0 0),(7, .pt 7 1 0 0),(9,fp out),(11, .sl 19 o.length),(13, .sl (n+8) g.nodes.length),(14,i64 k)])
   (fun k H p=>k≤o.length∧n+9≤p∧(∃d,bj H 1=some (.row 40 4 d [ou]))∧(∃d,bj H 7=some (.row 40 4 d [g.av]))∧(∃d,bj H 19=some (.row 3 1 d (hC o)))∧∃P d,s7 o P g.nodes.length k∧bj H (n+8)=some (.row 3 1 d (hC P))) (fun k=>o.length - k) 0 (by rw[←List.length_map (f:=Node.av)];exact bt) ⟨Nat.zero_le _,cH,⟨_,bk⟩,⟨_,bk⟩,⟨_,bk⟩,List.replicate g.nodes.length 0,_,⟨by simp,fun j hj=>absurd hj (Nat.not_lt_zero _),fun i _=>by simp[List.getD,List.getElem?_replicate];split<;>rfl⟩,by rw[show hC (List.replicate g.nodes.length 0)=List.replicate ((((g.nodes.map Node.av).length:Nat):Int).toNat) (i64 0) by simp[hC]];exact bk⟩ ?_
  clear q1 q7 q19
  rintro k H2 p ⟨hk,hp,⟨d1,q1⟩,⟨d7,q7⟩,⟨d19,q19⟩,P,d8,hP,q8⟩
  have hpl:=hP.len
  have a5:(hC P).length=g.nodes.length:=by simp[hC,hpl]
  by_cases hkl:k<o.length
  ·have e0:=fun d=>oy (l:=o) (i:=k) hkl d
   have hx:=hget k hkl
   have hnP:=hP.next hnd hkl hx
   have hset:=FV (P:=P) (i:=o.getD k 0) (k:=k)
   generalize o.getD k 0=x at *
   have e1:=fun d=>oy (l:=P) (i:=x) (by omega) d
   refine jj ?_
   exact⟨k+1,by omega,bt,by omega,cH,⟨_,bk⟩,⟨_,bk⟩,⟨_,bk⟩,_,_,hnP,by rw[←hset,←Int.toNat_natCast x];exact bk⟩
  ·have:k=o.length:=by omega
   subst this
   have hgP:=hP.get
   refine jj ?_
   refine aR (fun k:Nat=>[(6, .pt 1 1 0 0),(7, .pt 7 1 0 0),(9,fp out),(11, .sl 19 o.length),(13, .sl (n+8) g.nodes.length),(15, .pt (p+5) 1 0 0),(16,i64 k)])
    (fun k H q=>k≤o.length∧p+11≤q∧(∃d,bj H 1=some (.row 40 4 d [ou]))∧(∃d,bj H 7=some (.row 40 4 d [g.av]))∧(∃d,bj H 19=some (.row 3 1 d (hC o)))∧(∃d,bj H (n+8)=some (.row 3 1 d (hC P)))∧(∃d,bj H (p+5)=some (.row 40 4 d [.agg [st g.name,i64 g.locals,i64 g.cf, .sl (p+10) k]]))∧∃d,bj H (p+10)=some (.row 46 13 d ((o.take k).map fun i=>(cz g out o (g.nd i)).av))) (fun k=>o.length - k) 0
    ⟨_,_,_,Rt.wk (Wk.qM (b:=p+5) (e:=46) (sz:=13) (by omega) (by omega) (te:=40) (tz:=4) (cs:=[st g.name,i64 g.locals,i64 g.cf, .sc (.slice none 0 0)]) (j:=3) bk (by show 3<4;omega) rfl),bt,Nat.zero_le _,cH,⟨_,bk⟩,⟨_,bk⟩,⟨_,bk⟩,⟨_,bk⟩,⟨_,bk⟩,⟨_,bk⟩⟩ ?_
   clear q1 q7 q19 q8
   rintro k H3 q ⟨hk,hq,⟨d1,q1⟩,⟨d7,q7⟩,⟨d19,q19⟩,⟨d8,q8⟩,⟨dg,qg⟩,dn,qn⟩
   by_cases hkl:k<o.length
   ·have e0:=fun d=>oy (l:=o) (i:=k) hkl d
    have hx:=hget k hkl
    have htk:(o.take (k+1)).map (fun i=>(cz g out o (g.nd i)).av)=(o.take k).map (fun i=>(cz g out o (g.nd i)).av)++[(cz g out o (g.nd (o.getD k 0))).av]:=by
     rw[List.take_succ_eq_append_getElem hkl,List.map_append,show o.getD k 0=o[k] by simp only[List.getD,List.getElem?_eq_getElem hkl,Option.getD_some]];rfl
    generalize o.getD k 0=x at *
    have e1:=fun d=>dy (l:=g.nodes) hx d
    rw[show g.nodes.getD x default=g.nd x from rfl] at e1
    have hno:=hk0.node hx
    have hql:((o.take k).map fun i=>(cz g out o (g.nd i)).av).length=k:=by rw[List.length_map,List.length_take];omega
    have call:∀z:Int,0≤z→z<g.nodes.length→Pure Tryz.prog 58 [g.av, .im 1 .any (out.map bl),i64 z] (fun r=>r=i64 (dR out g z.toNat:Nat)):=fun z h1 h2=>by
     have:=tN g hg out hol he hnx z.toNat (by omega)
     rw[Int.toNat_of_nonneg h1] at this;exact this
    have plc:∀z:Int,0≤z→z<g.nodes.length→∀d,(hC P).getD ((dR out g z.toNat:Nat):Int).toNat d=i64 (dv o (dR out g z.toNat):Nat):=fun z h1 h2 d=>by
     rw[oy (l:=P) (by have:=hheir z.toNat (by omega);omega),hgP]
    have hin:∀z:Int,0≤z→z<g.nodes.length→dR out g z.toNat<g.nodes.length:=fun z h1 h2=>hheir _ (by omega)
    by_cases h9:(g.nd x).kind=9
    ·have r0:=h9
     have hre:(cz g out o (g.nd x)).av=(g.nd x).av:=by
      unfold cz;rw[if_neg (fun h=>h h9),if_neg (fun h=>by omega)]
     refine jj ?_
     exact⟨k+1,by omega,_,_,_,Rt.refl _ _ _,bt,by omega,cH,⟨_,bk⟩,⟨_,bk⟩,⟨_,bk⟩,⟨_,bk⟩,⟨_,bk⟩,⟨_,by rw[htk,hre];exact bk⟩⟩
    ·have hnn:=hno.next.1 (by unfold eF;exact decide_eq_true (by have:=hno.kind;omega))
     have c0:=call _ hnn.1 hnn.2
     have e2:=plc _ hnn.1 hnn.2
     have hb:=hin _ hnn.1 hnn.2
     by_cases h8:(g.nd x).kind=8
     ·have hee:=hno.jT.1 h8
      have c1:=call _ hee.1 hee.2
      have e3:=plc _ hee.1 hee.2
      have hb2:=hin _ hee.1 hee.2
      refine jj ?_
      have hre:(cz g out o (g.nd x)).av=(.agg [u8 (g.nd x).kind,u8 (g.nd x).op,i64 (g.nd x).slot,i64 (g.nd x).cP,bl (g.nd x).a.dr,i64 (g.nd x).a.slot,i64 (g.nd x).a.word,bl (g.nd x).b.dr,i64 (g.nd x).b.slot,i64 (g.nd x).b.word,i64 (dv o (dR out g (g.nd x).next.toNat):Int),i64 (dv o (dR out g (g.nd x).jT.toNat):Int),i64 (g.nd x).origin]):=by
       unfold cz;rw[if_pos h9,if_pos h8];rfl
      exact⟨k+1,by omega,_,_,_,Rt.refl _ _ _,bt,by omega,cH,⟨_,bk⟩,⟨_,bk⟩,⟨_,bk⟩,⟨_,bk⟩,⟨_,bk⟩,⟨_,by rw[htk,hre];exact bk⟩⟩
     ·refine jj ?_
      have hre:(cz g out o (g.nd x)).av=(.agg [u8 (g.nd x).kind,u8 (g.nd x).op,i64 (g.nd x).slot,i64 (g.nd x).cP,bl (g.nd x).a.dr,i64 (g.nd x).a.slot,i64 (g.nd x).a.word,bl (g.nd x).b.dr,i64 (g.nd x).b.slot,i64 (g.nd x).b.word,i64 (dv o (dR out g (g.nd x).next.toNat):Int),i64 (g.nd x).jT,i64 (g.nd x).origin]):=by
       unfold cz;rw[if_pos h9,if_neg h8];rfl
      exact⟨k+1,by omega,_,_,_,Rt.refl _ _ _,bt,by omega,cH,⟨_,bk⟩,⟨_,bk⟩,⟨_,bk⟩,⟨_,bk⟩,⟨_,bk⟩,⟨_,by rw[htk,hre];exact bk⟩⟩
   ·have:k=o.length:=by omega
    subst this
    rw[List.take_length] at qn
    refine jj ?_
    refine⟨?_⟩
    rw[nn]
    simp only[List.map_cons,List.map_nil]
    rw[dB 5 (by simp[cG]),dB 5 (by simp[cG]),dB 5 (by simp[cG]),dH (b:=p+10) (len:=o.length) (H:=_) bk (by rw[List.length_map]),ca _ (by simp[cJ,cG])]
    simp[bo.cells,eU]
end Go.Proofs.YtmonponfppdgfaaGreatDoor
end
section
/- Units in rows, and copies of units: the walk. -/
namespace Go.Proofs.YtmonponfppdgfaaGreatDoor
open Go Go.ch Go.Proofs
set_option linter.unusedSimpArgs false
set_option linter.unusedVariables false
abbrev qx (x:Nat) (g:bo):AV:= .agg [st g.name,i64 g.locals,i64 g.cf, .sl x g.nodes.length]
def kG (ids:List Nat) (gs:List bo):List AV:=List.zipWith qx ids gs
abbrev zM (sh lk gr:Nat) (u:bp):AV:= .agg [.sl sh u.shared.length, .sl lk u.bx.length, .sl gr u.bq.length]
theorem j0 {ids:List Nat} {gs:List bo} (h:ids.length=gs.length):(kG ids gs).length=gs.length:=by simp[kG,h]
theorem qy {ids:List Nat} {gs:List bo} (h:ids.length=gs.length) {t:Nat} (ht:t<gs.length) (d:AV):(kG ids gs).getD t d=qx (ids.getD t 0) (gs.getD t default):=by
 have h1:t<(kG ids gs).length:=by rw[j0 h];exact ht
 rw[gd h1,gd (by omega),gd ht]
 simp[kG]
theorem CM {ids:List Nat} {gs:List bo} (h:ids.length=gs.length) (x:Nat) (g:bo):kG (ids++[x]) (gs++[g])=kG ids gs++[qx x g]:=by
 unfold kG
 rw[List.zipWith_append h];rfl
structure IX (sh lk gr:Nat) (ids:List Nat) (u:bp) (H:Hp):Prop where
 nodup:(sh::lk::gr::ids).Nodup
 len:ids.length=u.bq.length
 sh:∃d,bj H sh=some (.row 48 3 d (u.shared.map Decl.av))
 lk:∃d,bj H lk=some (.row 48 3 d (u.bx.map Decl.av))
 gr:∃d,bj H gr=some (.row 40 4 d (kG ids u.bq))
 MS:∀t,t<u.bq.length→∃d,bj H (ids.getD t 0)=some (.row 46 13 d ((u.gr t).nodes.map Node.av))
theorem IX.cE {sh lk gr:Nat} {ids:List Nat} {u:bp} {H H':Hp} (h:IX sh lk gr ids u H) (hk:∀x∈sh::lk::gr::ids,bj H' x=bj H x):IX sh lk gr ids u H':=by
 refine⟨h.nodup,h.len, ?_, ?_, ?_,fun t ht=> ?_⟩
 ·rw[hk sh (by simp)];exact h.sh
 ·rw[hk lk (by simp)];exact h.lk
 ·rw[hk gr (by simp)];exact h.gr
 ·rw[hk _ (List.mem_cons_of_mem _ (List.mem_cons_of_mem _ (List.mem_cons_of_mem _ (ee (by rw[h.len];exact ht)))))];exact h.MS t ht
theorem IX.dk {sh lk gr:Nat} {ids:List Nat} {u:bp} {H:Hp} (h:IX sh lk gr ids u H) (k:Nat):ch.dk H (k+4) (zM sh lk gr u)=u.av:=by
 obtain⟨d1,h1⟩:=h.sh
 obtain⟨d2,h2⟩:=h.lk
 obtain⟨d3,h3⟩:=h.gr
 rw[nn]
 simp only[List.map_cons,List.map_nil]
 rw[dH h1 (by simp),dH h2 (by simp),dH h3 (j0 h.len),ca _ (gK _),ca _ (gK _)]
 have:(kG ids u.bq).map (ch.dk H (k+2))=u.bq.map bo.av:=by
  apply List.ext_getElem (by simp[kG,h.len])
  intro t q1 q2
  have ht:t<u.bq.length:=by simpa using q2
  obtain⟨d,hd⟩:=h.MS t ht
  have e1:(kG ids u.bq)[t]'(by simpa using q1)=qx (ids.getD t 0) (u.gr t):=by rw[←qy h.len ht .any,gd]
  rw[List.getElem_map,e1,List.getElem_map,nn]
  simp only[List.map_cons,List.map_nil]
  rw[dB _ (by simp[cG]),dB _ (by simp[cG]),dB _ (by simp[cG]),dH hd (by simp),ca _ (mN _)]
  have:u.gr t=u.bq[t]:=by simp[bp.gr,List.getD,ht]
  rw[this];rfl
 rw[this];rfl
set_option maxRecDepth 4000 in
theorem xW (g:bo) (hg:g.Wf) (h96:g.nodes.length * 96≤140737488351232):cM Tryz.prog 35 [g.av] [] 0 (fun r H n=>∃b d,r= .agg ([st g.name,i64 g.locals,i64 g.cf]++[.sl b (g.nodes.map Node.av).length])∧bj H b=some (.row 46 13 d (g.nodes.map Node.av))):=by
 have hl:=hg.len
 refine aL DU rfl ?_
 repeat' (first|((with_reducible refine aE ?_);conv=>whnf)|refine aG ?_|exact cN|with_reducible refine aD ?_ ?_|((with_reducible refine Ask.mk ?_);first|exact bw|(refine jA (m:=g.nodes.length) (by simp) ?_;omega)|(simp only[List.length_map];omega)|exact br|(intro h;simp_all[bo.cells]<;>fail)|(simp_all[bo.cells]<;>fail))|(apply aA;(·exact bm))|refine aH ?_|((with_reducible refine aB ?_ ?_)<;>intro hc<;>(try simp only[List.length_map,ne_eq,cD] at hc)<;>try(exfalso;omega)))
 exact⟨⟨2,_,by simp[bo.cells],bk⟩⟩
set_option maxRecDepth 4000 in
set_option maxHeartbeats 4000000 in
theorem sr (u:bp) (hu:u.Wf) (h96:∀g∈u.bq,g.nodes.length * 96≤140737488351232) (H0:Hp) (nx:Nat):cM Tryz.prog 14 [u.av] H0 nx (fun r H n=>∃sh lk gr ids,r=zM sh lk gr u∧IX sh lk gr ids u H∧(∀x∈sh::lk::gr::ids,nx≤x∧x<n)∧nx≤n∧∀y,y<nx→bj H y=bj H0 y):=by
 have hs:=hu.gL
 have hk:=hu.gw
 have hgl:=hu.gb
 refine aL DJ rfl ?_
 repeat' (first|((with_reducible refine aE ?_);conv=>whnf)|refine aG ?_|exact cN|with_reducible refine aD ?_ ?_|((with_reducible refine Ask.mk ?_);first|exact bw|(refine jA rfl ?_;simp only[List.length_map];omega)|exact br|(intro h;simp_all[bp.cells]<;>fail)|(simp_all[bp.cells]<;>fail))|(apply aA;(·exact bm))|refine aH ?_|((with_reducible refine aB ?_ ?_)<;>intro hc<;>(try simp only[List.length_map,ne_eq,cD] at hc)<;>try(exfalso;omega)))
 have z1:0+(u.shared.map Decl.av).length=u.shared.length:=by simp
 have z2:0+(u.bx.map Decl.av).length=u.bx.length:=by simp
 try rw[z1]
 try rw[z2]
 refine aR (fun σ:Nat×List Nat=>[(1, .pt nx 1 0 0),(2, .pt (nx+1) 1 0 0),(3, .pt (nx+11) 1 0 0),(4,i64 σ.1)])
  (fun σ H n=>σ.1≤u.bq.length∧nx+15≤n∧σ.2.length=σ.1∧σ.2.Nodup∧(∀x∈σ.2,nx+15≤x∧x<n)∧(∃d,bj H nx=some (.row 25 3 d [u.av]))∧(∃d,bj H (nx+1)=some (.row 25 3 d [iW true [.slice none 0 0, .slice none 0 0, .slice none 0 0]]))∧(∃d,bj H (nx+11)=some (.row 25 3 d [.agg [.sl (nx+2) u.shared.length, .sl (nx+6) u.bx.length, .sl (nx+14) σ.1]]))∧(∃d,bj H (nx+2)=some (.row 48 3 d (u.shared.map Decl.av)))∧(∃d,bj H (nx+6)=some (.row 48 3 d (u.bx.map Decl.av)))∧(∃d,bj H (nx+14)=some (.row 40 4 d (kG σ.2 (u.bq.take σ.1))))∧(∀t,t<σ.1→∃d,bj H (σ.2.getD t 0)=some (.row 46 13 d ((u.gr t).nodes.map Node.av)))∧∀y,y<nx→bj H y=bj H0 y) (fun σ=>u.bq.length - σ.1) (0,[])
  ⟨_,_,_,Rt.wk (Wk.qM (b:=nx+11) (e:=40) (sz:=4) (by simp only[List.length_cons,List.length_nil];omega) (by omega) (te:=25) (tz:=3) (cs:=[.sl (nx+2) u.shared.length, .sl (nx+6) u.bx.length, .sc (.slice none 0 0)]) (j:=2) bk (by show 2<3;omega) rfl),bt,Nat.zero_le _,cH,rfl,List.nodup_nil,fun x hx=>by simp at hx,⟨_,bk⟩,⟨_,bk⟩,⟨_,bk⟩,⟨_,bk⟩,⟨_,bk⟩,⟨_,bk⟩,fun t ht=>absurd ht (Nat.not_lt_zero _),fun y hy=>bu⟩ ?_
 rintro⟨t,ids⟩ H n ⟨ht,hn,hil,hnd,hin,⟨d0,r0⟩,⟨d1,r1⟩,⟨d11,r11⟩,⟨d2,r2⟩,⟨d6,r6⟩,⟨d14,r14⟩,hnds,hkp⟩
 dsimp only at ht hil hnd hin r11 r14 hnds ⊢
 have htk:(u.bq.take t).length=t:=by rw[List.length_take];omega
 have hgl:(kG ids (u.bq.take t)).length=t:=by rw[j0 (by rw[hil,htk]),htk]
 by_cases htl:t<u.bq.length
 ·have eg:=fun d=>j3 (l:=u.bq) htl d
  have hgm:=cC (default:bo) htl
  have hcg:=xW (u.bq.getD t default) (hu.bq _ hgm) (h96 _ hgm)
  have hnx:kG (ids++[n+12]) (u.bq.take (t+1))=kG ids (u.bq.take t)++[qx (n+12) (u.bq.getD t default)]:=by
   rw[List.take_succ_eq_append_getElem htl,CM (by rw[hil,htk]),show u.bq.getD t default=u.bq[t] by simp[List.getD,htl]]
  have hgr:u.gr t=u.bq.getD t default:=rfl
  generalize u.bq.getD t default=g at *
  have hfz:∀H1:Hp,[g.av].map (ch.dk H1 6)=[g.av]:=fun H1=>by rw[List.map_cons,List.map_nil,dB 6 (jm g)]
  have hft:cL 0 [g.av]:=⟨jm g,trivial⟩
  have hflat:∀i,i<(g.nodes.map Node.av).length→gZ ((g.nodes.map Node.av).getD i .any):=fun i hi=>by
   rw[dJ Node.av _ _ _ (by simpa using hi)]
   simp[gZ,pS,Node.cells]
  repeat' (first|((with_reducible refine aE ?_);conv=>whnf)|refine aG ?_|exact cN|with_reducible refine aD ?_ ?_|((with_reducible refine Ask.mk ?_);first|exact bw|(exact hgl)|(refine jA rfl ?_;simp only[List.length_map];omega)|exact br|(intro h;simp_all[bp.cells]<;>fail)|(simp_all[bp.cells]<;>fail))|(apply aA;(·(first|exact eg _|exact bm)))|(refine aZ [] .any (cs:=[st g.name,i64 g.locals,i64 g.cf]) trivial hcg hflat (fun H1 _=>hfz H1) hft ?_)|refine aH ?_|((with_reducible refine aB ?_ ?_)<;>intro hc<;>(try simp only[List.length_map,ne_eq,cD] at hc)<;>try(exfalso;omega)))
  refine⟨(t+1,ids++[n+12]),by dsimp only;omega,_,_,_,Rt.refl _ _ _,bt,by dsimp only;omega,by omega,by simp[hil], ?_, ?_,⟨_,bk⟩,⟨_,bk⟩,⟨_,bk⟩,⟨_,bk⟩,⟨_,bk⟩,⟨_,by dsimp only;rw[hnx,List.length_map];exact bk⟩, ?_,fun y hy=>Eq.trans bu (hkp y hy)⟩
  ·refine List.nodup_append.2 ⟨hnd,by simp,fun a ha b hb=> ?_⟩
   simp only[List.mem_cons,List.not_mem_nil,or_false] at hb
   have:=hin _ ha;omega
  ·intro x hx
   rcases List.mem_append.1 hx with hx|hx
   ·have:=hin _ hx;exact⟨this.1,Nat.lt_of_lt_of_le this.2 cH⟩
   ·simp only[List.mem_cons,List.not_mem_nil,or_false] at hx
    subst hx;exact⟨by omega,cH⟩
  ·intro q hq
   have hq:q<t+1:=hq
   by_cases e:q=t
   ·subst e
    have e2:(ids++[n+12]).getD q 0=n+12:=by rw[List.getD,List.getElem?_append_right (by omega),hil,Nat.sub_self];rfl
    dsimp only
    rw[e2,hgr];exact⟨_,bk⟩
   ·obtain⟨d,hd⟩:=hnds q (by omega)
    have e2:(ids++[n+12]).getD q 0=ids.getD q 0:=by simp[List.getD,List.getElem?_append,show q<ids.length by omega]
    have:=hin _ (ee (l:=ids) (q:=q) (by omega))
    dsimp only
    rw[e2];exact⟨d,Eq.trans bu hd⟩
 ·have:t=u.bq.length:=by omega
  subst this
  rw[List.take_length] at r14
  repeat' (first|((with_reducible refine aE ?_);conv=>whnf)|refine aG ?_|exact cN|with_reducible refine aD ?_ ?_|((with_reducible refine Ask.mk ?_);first|exact bw|exact br|(intro h;simp_all[bp.cells]<;>fail)|(simp_all[bp.cells]<;>fail))|(apply aA;(·exact bm))|refine aH ?_|((with_reducible refine aB ?_ ?_)<;>intro hc<;>(try simp only[List.length_map,ne_eq,cD] at hc)<;>try(exfalso;omega)))
  refine⟨⟨nx+2,nx+6,nx+14,ids,rfl,⟨?_,hil,⟨_,bk⟩,⟨_,bk⟩,⟨_,bk⟩,fun t ht=> ?_⟩, ?_,cH,fun y hy=>Eq.trans bu (hkp y hy)⟩⟩
  ·refine List.nodup_cons.2 ⟨?_,List.nodup_cons.2 ⟨?_,List.nodup_cons.2 ⟨fun h=> ?_,hnd⟩⟩⟩
   ·simp only[List.mem_cons,not_or]
    exact⟨by omega,by omega,fun h=>by have:=hin _ h;omega⟩
   ·simp only[List.mem_cons,not_or]
    exact⟨by omega,fun h=>by have:=hin _ h;omega⟩
   ·have:=hin _ h;omega
  ·obtain⟨d,hd⟩:=hnds t ht
   have:=hin _ (ee (l:=ids) (q:=t) (by omega))
   exact⟨d,Eq.trans bu hd⟩
  ·intro x hx
   simp only[List.mem_cons] at hx
   rcases hx with rfl|rfl|rfl|hx
   ·exact⟨by omega,by omega⟩
   ·exact⟨by omega,by omega⟩
   ·exact⟨by omega,by omega⟩
   ·have:=hin _ hx;exact⟨by omega,by omega⟩
theorem zg (u:bp) (hu:u.Wf) (h96:∀g∈u.bq,g.nodes.length * 96≤140737488351232):Pure Tryz.prog 14 [u.av] (fun r=>r=u.av):=by
 refine cT ((sr u hu h96 [] 0).mono ?_) (gV u)
 rintro r H n ⟨sh,lk,gr,ids,rfl,hA,_⟩
 exact hA.dk 2
def tc (S:List Nat) (H:Hp):Hp:=H.filter fun q=>decide (q.1∈S)
theorem jW {S:List Nat} {b:Nat} (hb:b∈S):∀H:Hp,bj (tc S H) b=bj H b
 |[]=>rfl
 |(d,v)::H=>by
  unfold tc
  by_cases hd:d∈S
  ·rw[List.filter_cons_of_pos (by simpa using hd)]
   by_cases e:b=d
   ·subst e;rw[ck,ck]
   ·rw[cS e,cS e];exact jW hb H
  ·rw[List.filter_cons_of_neg (by simpa using hd),cS (fun e=>hd (by rw[←e];exact hb))]
   exact jW hb H
theorem qJ {G:Hp} {k:Nat} {cs:List AV}:ch.px G (k+1) (.agg cs)= .agg (cs.map (ch.px G k)):=rfl
theorem C7 (G:Hp) (k:Nat) (n:Node):ch.px G k n.av=n.av:=by
 cases k with
 |zero=>rfl
 |succ k=>rw[qJ];simp only[Node.cells,List.map_cons,List.map_nil,rG];rfl
theorem C6 (G:Hp) (k:Nat) (n:Decl):ch.px G k n.av=n.av:=by
 cases k with
 |zero=>rfl
 |succ k=>rw[qJ];simp only[Decl.cells,List.map_cons,List.map_nil,rG];rfl
theorem IX.px {sh lk gr:Nat} {ids:List Nat} {u:bp} {H:Hp} (h:IX sh lk gr ids u H) (k:Nat):ch.px (tc (sh::lk::gr::ids) H) (k+4) (zM sh lk gr u)=u.av:=by
 obtain⟨d1,h1⟩:=h.sh
 obtain⟨d2,h2⟩:=h.lk
 obtain⟨d3,h3⟩:=h.gr
 have g1:=(jW (S:=sh::lk::gr::ids) (b:=sh) (by simp) H).trans h1
 have g2:=(jW (S:=sh::lk::gr::ids) (b:=lk) (by simp) H).trans h2
 have g3:=(jW (S:=sh::lk::gr::ids) (b:=gr) (by simp) H).trans h3
 rw[qJ]
 simp only[List.map_cons,List.map_nil]
 rw[oq g1 (by simp),oq g2 (by simp),oq g3 (j0 h.len)]
 have e1:∀(l:List Decl) k,(l.map Decl.av).map (ch.px (tc (sh::lk::gr::ids) H) k)=l.map Decl.av:=fun l k=>by rw[List.map_map];exact List.map_congr_left fun d _=>C6 _ _ d
 have e2:∀(l:List Node) k,(l.map Node.av).map (ch.px (tc (sh::lk::gr::ids) H) k)=l.map Node.av:=fun l k=>by rw[List.map_map];exact List.map_congr_left fun d _=>C7 _ _ d
 rw[e1,e1]
 have:(kG ids u.bq).map (ch.px (tc (sh::lk::gr::ids) H) (k+2))=u.bq.map bo.av:=by
  apply List.ext_getElem (by simp[kG,h.len])
  intro t q1 q2
  have ht:t<u.bq.length:=by simpa using q2
  obtain⟨d,hd⟩:=h.MS t ht
  have g4:=(jW (S:=sh::lk::gr::ids) (b:=ids.getD t 0) (List.mem_cons_of_mem _ (List.mem_cons_of_mem _ (List.mem_cons_of_mem _ (ee (by rw[h.len];exact ht))))) H).trans hd
  have e1:(kG ids u.bq)[t]'(by simpa using q1)=qx (ids.getD t 0) (u.gr t):=by rw[←qy h.len ht .any,gd]
  rw[List.getElem_map,e1,List.getElem_map,qJ]
  simp only[List.map_cons,List.map_nil]
  rw[rG,rG,rG,oq g4 (by simp),e2]
  have:u.gr t=u.bq[t]:=by simp[bp.gr,List.getD,ht]
  rw[this];rfl
 rw[this];rfl
end Go.Proofs.YtmonponfppdgfaaGreatDoor
end
