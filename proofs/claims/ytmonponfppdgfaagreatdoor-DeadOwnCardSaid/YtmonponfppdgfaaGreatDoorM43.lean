import Derived.Test.YtmonponfppdgfaaGreatDoorM42
import Derived.Test.YtmonponfppdgfaaGreatDoorM33
import Derived.Test.YtmonponfppdgfaaGreatDoorM38
import Derived.Test.YtmonponfppdgfaaGreatDoorM37
namespace Go.Proofs.YtmonponfppdgfaaGreatDoor
open Go Go.dD Go.Proofs
set_option linter.unusedSimpArgs false
set_option linter.unusedVariables false
section
open Classical in
theorem yu {l:List Bool} {g:br} {i:Nat} (h:i<l.length):(dE l g).take (i+1)=(dE l g).take i++[tf l i&& !decide (BH l g i)]:=by
 rw[List.take_succ_eq_append_getElem (by rw[fY];exact h)]
 simp[dE]
theorem FJ {l:List Bool} {g:br} {i m:Nat} (hm:l.length=m) (h:i<m) (v:Bool):((c8 ((dE l g).take i) m).map bl).set ((i:Nat):Int).toNat (bl v)=(c8 ((dE l g).take i++[v]) m).map bl:=by
 have hl:((dE l g).take i).length=i:=by rw[List.length_take,fY];omega
 have:=qS (l:=(dE l g).take i) (m:=m) (by rw[hl];exact h) v
 rw[hl] at this;exact this
open Classical in
set_option maxRecDepth 8000 in
set_option maxHeartbeats 16000000 in
theorem zi (u:bq) (hu:u.Wf) (t:Nat) (ht:t<u.bo.length) (hk:dR u (u.gr t)) (cls:List cF) (hcl:cls.length=u.shared.length) (hN:u.shared.length<=64):Pure Tryz.prog 26 [u.av,i64 t, .im 3 .any (cls.map cF.av)] (fun r=>r=fE (eR (u.gr t) cls t)):=by
 have hg:(u.gr t).Wf:=hu.bo _ (cE default ht)
 have e0:∀d,(u.bo.map br.av).getD (t:Int).toNat d=(u.gr t).av:=fun d=>j3 ht d
 have a0:(u.bo.map br.av).length=u.bo.length:=by simp
 have a1:(cls.map cF.av).length=cls.length:=by simp
 have hw:=hk.whole
 have c0:=xx u hu t ht hw cls hcl hN
 have c1:=k9 (u.gr t) hg hw
 have hslots:=hk.cZ
 have hlocals:=hk.locals
 obtain⟨N,hNs⟩:∃N:Nat,(u.gr t).cZ=N:=⟨(u.gr t).cZ.toNat,by omega⟩
 have c2:=sV (u.gr t) hg hw N (by omega) hNs
 generalize u.gr t=g at *
 have hl1:=hw.2.1
 have hsh1:Shape (eN g) g.nodes.length g.cZ.toNat:=gZ _ _ _ _
 have hsh2:Shape (kU g cls t) g.nodes.length cls.length:=gZ _ _ _ _
 have a2:(g.nodes.map Node.av).length=g.nodes.length:=by simp
 have a3:((cj g (-1)).map bl).length=g.nodes.length:=by rw[List.length_map,dW]
 refine cV ?_ (EL _ _)
 refine aI FY rfl ?_
 refine gG ?_
 simp only[List.length_map,Int.toNat_natCast]
 have hrw0:c8 (df g cls t 0) g.nodes.length=List.replicate g.nodes.length false:=by simp[c8,df]
 refine aF (fun i:Nat=>[(1,i64 t),(2, .im 3 .any (cls.map cF.av)),(3, .pt 0 1 0 0),(7, .pt 7 1 0 0),(8,fE (cj g (-1))),(9, .im 1 .any ((eN g).map fE)),(10, .im 1 .any ((kU g cls t).map fE)),(11, .sl 20 g.nodes.length),(12,i64 i)])
  (fun i H n=>i<=g.nodes.length/\21<=n/\(∃d,bk H 7=some (.row 40 4 d [g.av]))/\∃d,bk H 20=some (.row 4 1 d ((c8 (df g cls t i) g.nodes.length).map bl))) (fun i=>g.nodes.length - i) 0 bu ⟨Nat.zero_le _,cI,⟨_,bm⟩,⟨_,by rw[hrw0,List.map_replicate];exact bm⟩⟩ ?_
 clear c0 c1 c2 e0
 rintro i H n ⟨hi,hn,⟨d7,r7⟩,d8,r8⟩
 by_cases hil:i<g.nodes.length
 ·have e0:=fun d=>eH hil d
  have e1:=fun d=>mG (l:=cj g (-1)) (k:=i) d (by rw[dW];exact hil)
  have a4:((c8 (df g cls t i) g.nodes.length).map bl).length=g.nodes.length:=by rw[List.length_map,jO (by rw[eW];exact hi)]
  have e2:=fun d=>gS (l:=c8 (df g cls t i) g.nodes.length) (k:=i) (by rw[jO (by rw[eW];exact hi)];exact hil) d
  have hno:=hk.node hil
  have hfol:=(hw.2.2 i hil).2.2
  have hnxt:=qT g cls t i
  have c0:=gI (g.nodes.getD i default)
  rw[show g.nodes.getD i default=g.nd i from rfl] at e0 c0
  have cH:dJ g cls t i=false->∃d,bk H 20=some (.row 4 1 d ((c8 (df g cls t (i+1)) g.nodes.length).map bl)):=fun h=>⟨d8,by rw[hnxt,h,kb (by rw[eW];exact hil)];exact r8⟩
  have put:∀v,dJ g cls t i=v->((c8 (df g cls t i) g.nodes.length).map bl).set ((i:Nat):Int).toNat (bl v)=(c8 (df g cls t (i+1)) g.nodes.length).map bl:=fun v h=>by rw[mc hil,hnxt,h]
  cases hrc:iF (cj g (-1)) (i:Int) with
  |false=>
   rw[hrc] at e1
   obtain⟨_,r9⟩:=cH (by unfold dJ;rw[hrc];rfl)
   refine gG ?_
   exact⟨i+1,by omega,bu,by omega,cI,⟨_,bm⟩,⟨_,bm⟩⟩
  |true=>
   rw[hrc] at e1
   by_cases h1:(g.nd i).kind=1
   ·have hsl:=hno.slot.1 (by unfold gb;exact decide_eq_true (by omega))
    obtain⟨ks,hks⟩:∃ks:Nat,(g.nd i).slot=ks:=⟨(g.nd i).slot.toNat,by omega⟩
    have c1:=lW hsh1 (g.nd i) hfol ks (by omega)
    unfold dV at c1
    have r0:=h1
    have r1:=hks
    have hsb:dJ g cls t i=(!kX (eN g) (g.nd i) ks||(decide ((g.nd i).op=0)&&(g.nd i).a.eA&&decide ((g.nd i).a.slot=ks))):=by
     unfold dJ
     simp only[hrc,h1,hks,if_true,Bool.true_and,Int.toNat_natCast]
    refine gG ?_
    refine⟨i+1,by omega,bu,by omega,cI,⟨_,bm⟩,_,Eq.trans bm (congrArg (fun v=>some (eO.row _ 1 _ v)) (put _ ?_))⟩
    rw[hsb]
    cases kX (eN g) (g.nd i) ks<;>cases(g.nd i).a.eA<;>by_cases h5:(g.nd i).op=0<;>simp[h5]
   ·by_cases h2:(g.nd i).kind=2
    ·have hsl:=hno.slot.1 (by unfold gb;exact decide_eq_true (by omega))
     have hth:=hno.cT.1 (by unfold fp;exact decide_eq_true (by omega))
     rw[if_neg (by omega)] at hth
     obtain⟨ks,hks⟩:∃ks:Nat,(g.nd i).slot=ks:=⟨(g.nd i).slot.toNat,by omega⟩
     obtain⟨kt,hkt⟩:∃kt:Nat,(g.nd i).cT=kt:=⟨(g.nd i).cT.toNat,by omega⟩
     have e3:∀d,(cls.map cF.av).getD ((kt:Int)).toNat d=(cls.getD kt default).av:=fun d=>by rw[Int.toNat_natCast];exact dG cF.av cls kt d (by omega)
     have c1:=lW hsh1 (g.nd i) hfol ks (by omega)
     unfold dV at c1
     have r0:=h2
     have r1:=hks
     have r2:=hkt
     have hsb:dJ g cls t i=(decide ((cls.getD kt default).kind≠3)&& !kX (eN g) (g.nd i) ks):=by
      unfold dJ
      dsimp only
      rw[hrc,Bool.true_and,if_neg h1,if_pos h2,hks,hkt,Int.toNat_natCast,Int.toNat_natCast]
     by_cases h3:(cls.getD kt default).kind=3
     ·refine gG ?_
      refine⟨i+1,by omega,bu,by omega,cI,⟨_,bm⟩,_,Eq.trans bm (congrArg (fun v=>some (eO.row _ 1 _ v)) (put _ ?_))⟩
      simp[hsb,h3]
     ·refine gG ?_
      refine⟨i+1,by omega,bu,by omega,cI,⟨_,bm⟩,_,Eq.trans bm (congrArg (fun v=>some (eO.row _ 1 _ v)) (put _ ?_))⟩
      simp[hsb,h3]
    ·by_cases h3:(g.nd i).kind=3
     ·have hth:=hno.cT.1 (by unfold fp;exact decide_eq_true (by omega))
      rw[if_neg (by omega)] at hth
      obtain⟨kt,hkt⟩:∃kt:Nat,(g.nd i).cT=kt:=⟨(g.nd i).cT.toNat,by omega⟩
      have e3:∀d,(cls.map cF.av).getD ((kt:Int)).toNat d=(cls.getD kt default).av:=fun d=>by rw[Int.toNat_natCast];exact dG cF.av cls kt d (by omega)
      have c1:=lW hsh2 (g.nd i) hfol kt (by omega)
      unfold dV at c1
      have r0:=h3
      have r1:=hkt
      have hsb:dJ g cls t i=(ny cls t kt&& !kX (kU g cls t) (g.nd i) kt):=by
       unfold dJ
       dsimp only
       rw[hrc,Bool.true_and,if_neg h1,if_neg h2,if_pos h3,hkt,Int.toNat_natCast]
      refine gG ?_
      refine⟨i+1,by omega,bu,by omega,cI,⟨_,bm⟩,_,Eq.trans bm (congrArg (fun v=>some (eO.row _ 1 _ v)) (put _ ?_))⟩
      rw[hsb]
      unfold ny
      by_cases a:(cls.getD kt default).kind=1<;>by_cases b:(cls.getD kt default).si=(t:Int)<;>simp[a,b]
     ·by_cases h8:(g.nd i).kind=8
      ·have hsb:dJ g cls t i=decide ((g.nd i).next=(g.nd i).jc):=by
        unfold dJ
        dsimp only
        rw[hrc,Bool.true_and,if_neg h1,if_neg h2,if_neg h3,if_pos h8]
       have r0:=h8
       refine gG ?_
       exact⟨i+1,by omega,bu,by omega,cI,⟨_,bm⟩,_,Eq.trans bm (congrArg (fun v=>some (eO.row _ 1 _ v)) (put _ hsb))⟩
      ·obtain⟨_,r9⟩:=cH (by
        unfold dJ
        dsimp only
        rw[hrc,Bool.true_and,if_neg h1,if_neg h2,if_neg h3,if_neg h8])
       refine gG ?_
       exact⟨i+1,by omega,bu,by omega,cI,⟨_,bm⟩,⟨_,bm⟩⟩
 ·have:i=g.nodes.length:=by omega
  subst this
  have hsr:c8 (df g cls t g.nodes.length) g.nodes.length=kS g cls t:=by unfold c8 kS;rw[eW,Nat.sub_self];simp
  rw[hsr] at r8
  have hnx:=fun j=>mz hk (cls:=cls) (t:=t) (j:=j)
  have hsl:=kz g cls t
  unfold eR
  generalize kS g cls t=l at *
  have a4:(l.map bl).length=g.nodes.length:=by rw[List.length_map,hsl]
  have hil0:(dE l g).length=g.nodes.length:=by rw[fY,hsl]
  refine gG ?_
  simp only[List.length_map,Int.toNat_natCast]
  refine aF (fun i:Nat=>[(7, .pt 7 1 0 0),(11, .sl 20 g.nodes.length),(16, .sl (n+8) g.nodes.length),(17,i64 i)])
   (fun i H p=>i<=g.nodes.length/\n+9<=p/\(∃d,bk H 7=some (.row 40 4 d [g.av]))/\(∃d,bk H 20=some (.row 4 1 d (l.map bl)))/\∃d,bk H (n+8)=some (.row 4 1 d ((c8 ((dE l g).take i) g.nodes.length).map bl))) (fun i=>g.nodes.length - i) 0 bu ⟨Nat.zero_le _,cI,⟨_,bm⟩,⟨_,bm⟩,⟨_,by rw[show c8 ((dE l g).take 0) g.nodes.length=List.replicate g.nodes.length false by simp[c8],List.map_replicate];exact bm⟩⟩ ?_
  clear r7 r8
  rintro i H2 p ⟨hi2,hp,⟨d7,r7⟩,⟨d8,r8⟩,d9,r9⟩
  have hrl:(c8 ((dE l g).take i) g.nodes.length).length=g.nodes.length:=jO (by rw[List.length_take,hil0];omega)
  have a5:((c8 ((dE l g).take i) g.nodes.length).map bl).length=g.nodes.length:=by rw[List.length_map,hrl]
  by_cases hil:i<g.nodes.length
  ·have hsv:=yu (l:=l) (g:=g) (i:=i) (by omega)
   have hset:=fun v=>FJ (g:=g) hsl hil v
   have e0:=fun d=>gS (l:=l) (k:=i) (by omega) d
   rw[show l.getD i false=tf l i from rfl] at e0
   have e3:=fun d=>gS (l:=c8 ((dE l g).take i) g.nodes.length) (k:=i) (by omega) d
   refine gG ?_
   refine aF (fun k:Nat=>[(7, .pt 7 1 0 0),(11, .sl 20 g.nodes.length),(16, .sl (n+8) g.nodes.length),(17,i64 i),(18,i64 (iter g i k:Nat)),(19,i64 k)])
    (fun k H q=>p<=q/\k<=g.nodes.length+1/\(∀q,q<k->tf l (iter g i q)=true)/\(∀q,1<=q->q<=k->iter g i q≠i)/\(∃d,bk H 7=some (.row 40 4 d [g.av]))/\(∃d,bk H 20=some (.row 4 1 d (l.map bl)))/\∃d,bk H (n+8)=some (.row 4 1 d ((c8 ((dE l g).take i) g.nodes.length).map bl))) (fun k=>g.nodes.length+1 - k) 0 bu ⟨cI,Nat.zero_le _,fun q hq=>by omega,fun q h1 h2=>by omega,⟨_,bm⟩,⟨_,bm⟩,⟨_,bm⟩⟩ ?_
   clear r7 r8 r9
   rintro k H3 q ⟨hq,hkl,hall,hnot,⟨d7,r7⟩,⟨d8,r8⟩,d9,r9⟩
   have hik:iter g i k<g.nodes.length:=by
    cases k with
    |zero=>exact hil
    |succ z=>
     have:=hnx _ (hall z (by omega))
     show(g.nd (iter g i z)).next.toNat<_
     omega
   have e1:=fun d=>gS (l:=l) (k:=iter g i k) (by omega) d
   rw[show l.getD (iter g i k) false=tf l (iter g i k) from rfl] at e1
   have fin:∀{w:Bool},(tf l i&& !decide (BH l g i))=w->some (eO.row 4 1 d9 (((c8 ((dE l g).take i) g.nodes.length).map bl).set ((i:Nat):Int).toNat (bl w)))=some (eO.row 4 1 d9 ((c8 ((dE l g).take (i+1)) g.nodes.length).map bl)):=fun h=>by rw[hset,hsv,h]
   by_cases hc1:k<=g.nodes.length/\tf l (iter g i k)=true
   ·obtain⟨hk1,hk2⟩:=hc1
    rw[hk2] at e1
    have e2:=fun d=>eH (l:=g.nodes) hik d
    rw[show g.nodes.getD (iter g i k) default=g.nd (iter g i k) from rfl] at e2
    have hn:=hnx _ hk2
    have r0:(g.nd (iter g i k)).next=((iter g i (k+1):Nat):Int):=by
     show _=(((g.nd (iter g i k)).next.toNat:Nat):Int);omega
    by_cases hback:iter g i (k+1)=i
    ·have hret:BH l g i:=⟨k+1,by omega,hback,fun z hz=>by
      by_cases e:z=k
      ·rw[e];exact hk2
      ·exact hall z (by omega)⟩
     refine gG ?_
     refine⟨i+1,by omega,bu,by omega,cI,⟨_,bm⟩,⟨_,bm⟩,_,Eq.trans bm (fin ?_)⟩
     rw[decide_eq_true hret,hback]
     cases tf l i<;>simp
    ·refine gG ?_
     exact⟨k+1,by omega,bu,cI,by omega,fun z hz=>by
      by_cases e:z=k
      ·rw[e];exact hk2
      ·exact hall z (by omega),fun z h1 h2=>by
      by_cases e:z=k+1
      ·rw[e];exact hback
      ·exact hnot z h1 (by omega),⟨_,bm⟩,⟨_,bm⟩,⟨_,bm⟩⟩
   ·have hno:(tf l i&& !decide (BH l g i))=(tf l i&&decide (iter g i k≠i)):=by
     cases k with
     |zero=>
      have:tf l i=false:=by
       cases h:tf l i with
       |false=>rfl
       |true=>exact absurd ⟨Nat.zero_le _,h⟩ hc1
      rw[this];rfl
     |succ z=>
      have h1:=pa (l:=l) (g:=g) (i:=i) (k:=z) ⟨fun q hq=>hall q (by omega),fun q h1 h2=>hnot q h1 (by omega)⟩ (by
       by_cases h:tf l (iter g i (z+1))=true
       ·left
        have:¬z+1<=g.nodes.length:=fun e=>hc1 ⟨e,h⟩
        omega
       ·right;simpa using h)
      have h2:=hnot (z+1) (by omega) (Nat.le_refl _)
      rw[decide_eq_false h1,decide_eq_true h2];rfl
    by_cases hkn:k<=g.nodes.length
    ·have:tf l (iter g i k)=false:=by
      cases h:tf l (iter g i k) with
      |false=>rfl
      |true=>exact absurd ⟨hkn,h⟩ hc1
     rw[this] at e1
     refine gG ?_
     refine⟨i+1,by omega,bu,by omega,cI,⟨_,bm⟩,⟨_,bm⟩,_,Eq.trans bm (fin ?_)⟩
     rw[hno]
     cases tf l i<;>by_cases e:iter g i k=i<;>simp[e]<;>omega
    ·refine gG ?_
     refine⟨i+1,by omega,bu,by omega,cI,⟨_,bm⟩,⟨_,bm⟩,_,Eq.trans bm (fin ?_)⟩
     rw[hno]
     cases tf l i<;>by_cases e:iter g i k=i<;>simp[e]<;>omega
  ·have:i=g.nodes.length:=by omega
   subst this
   rw[show c8 ((dE l g).take g.nodes.length) g.nodes.length=dE l g by
    rw[List.take_of_length_le (by omega)];unfold c8;rw[hil0,Nat.sub_self];simp] at r9
   refine gG ?_
   refine⟨?_⟩
   refine(dM (b:=n+8) (e:=4) (sz:=1) (d:=d9) (es:=(dE l g).map bl) bm (by rw[List.length_map,hil0])).trans ?_
   rw[cf _ (jd _ _)];rfl
end
structure tT (o P:List Nat) (m k:Nat):Prop where
 len:P.length=m
 at_:∀j,j<k->P.getD (o.getD j 0) 0=j
 no:∀i,(∀j,j<k->o.getD j 0≠i)->P.getD i 0=0
theorem tT.next {o P:List Nat} {m k:Nat} (h:tT o P m k) (hn:o.Nodup) (hk:k<o.length) (hlt:o.getD k 0<m):tT o (P.set (o.getD k 0) k) m (k+1):=by
 refine⟨by rw[List.length_set];exact h.len,fun j hj=> ?_,fun i hi=> ?_⟩
 ·rw[cw]
  by_cases e:j=k
  ·subst e;rw[if_pos ⟨rfl,by rw[h.len];exact hlt⟩]
  ·rw[if_neg (fun e2=>e (p8 hn (by omega) hk e2.1.symm)),h.at_ j (by omega)]
 ·rw[cw,if_neg (fun e=>hi k (by omega) e.1),h.no i fun j hj=>hi j (by omega)]
theorem tT.get {o P:List Nat} {m:Nat} (h:tT o P m o.length) (i:Nat):P.getD i 0=eC o i:=by
 by_cases hi:i∈o
 ·obtain⟨h1,h2⟩:=sR hi
  have:=h.at_ _ h1
  rw[h2] at this;exact this
 ·have h0:o.findIdx? (fun j=>decide (j=i))=none:=by
   rw[List.findIdx?_eq_none_iff]
   intro x hx
   rw[decide_eq_false_iff_not]
   intro e;rw[e] at hx;exact hi hx
  rw[eC,h0]
  refine h.no i fun j hj e=>hi ?_
  rw[<-e]
  simp only[List.getD,List.getElem?_eq_getElem hj,Option.getD_some];exact List.getElem_mem hj
theorem IH {P:List Nat} {i k:Nat}:(iQ P).set i (i64 k)=iQ (P.set i k):=by simp[iQ,List.map_set]
set_option maxRecDepth 8000 in
set_option maxHeartbeats 16000000 in
theorem zp (u:bq) (hu:u.Wf) (t:Nat) (ht:t<u.bo.length) (hk:dR u (u.gr t)) (cls:List cF) (hcl:cls.length=u.shared.length) (hN:u.shared.length<=64):Pure Tryz.prog 31 [u.av,i64 t, .im 3 .any (cls.map cF.av)] (fun r=>r=(fj (u.gr t) cls t).av):=by
 have hg:(u.gr t).Wf:=hu.bo _ (cE default ht)
 have e0:∀d,(u.bo.map br.av).getD (t:Int).toNat d=(u.gr t).av:=fun d=>j3 ht d
 have a0:(u.bo.map br.av).length=u.bo.length:=by simp
 have hw:=hk.whole
 have c0:=zi u hu t ht hk cls hcl hN
 have c1:=k9 (u.gr t) hg hw
 have hk0:=hk
 have hnx0:=fun j=>mz hk (cls:=cls) (t:=t) (j:=j)
 generalize u.gr t=g at *
 have hl0:=hw.1
 have hl1:=hw.2.1
 have a1:(g.nodes.map Node.av).length=g.nodes.length:=by simp
 have a2:((cj g (-1)).map bl).length=g.nodes.length:=by rw[List.length_map,dW]
 have he:Ends (eR g cls t) g:=pL _ _
 have hol:=mn g cls t
 have hnx:∀j,tf (eR g cls t) j=true->0<=(g.nd j).next/\(g.nd j).next<g.nodes.length:=fun j hj=>hnx0 j (gC.1 hj).1
 have hog:fj g cls t={ g with nodes:=(ca g (eR g cls t)).map fun i=>dH g (eR g cls t) (ca g (eR g cls t)) (g.nd i) }:=rfl
 rw[hog]
 generalize eR g cls t=out at *
 have hheir:∀i,i<g.nodes.length->dX out g i<g.nodes.length:=fun i hi=>oY (P:=fun i=>i<g.nodes.length) he (fun i h1 h2=>by have:=hnx i h1;show(g.nd i).next.toNat<_;omega) hi
 have hh0:=hheir 0 (by omega)
 have c2:=uO g hg out hol he hnx 0 (by omega)
 have a3:(out.map bl).length=g.nodes.length:=by rw[List.length_map,hol]
 refine cV ?_ (kG _)
 refine aI F4 rfl ?_
 unfold fE at c2
 rw[show((0:Nat):Int)=0 from rfl] at c2
 refine gG ?_
 clear c0 c1 c2 e0
 refine aF (fun i:Nat=>[(6, .pt 1 1 0 0),(7, .pt 7 1 0 0),(8,fE (cj g (-1))),(9,fE out),(10,i64 (dX out g 0:Nat)),(11, .sl 19 (eK g out i).length),(12,i64 i)])
  (fun i H n=>i<=g.nodes.length/\20<=n/\(∃d,bk H 1=some (.row 40 4 d [pX]))/\(∃d,bk H 7=some (.row 40 4 d [g.av]))/\∃d,bk H 19=some (.row 3 1 d (iQ (eK g out i)))) (fun i=>g.nodes.length - i) 0 bu ⟨Nat.zero_le _,cI,⟨_,bm⟩,⟨_,bm⟩,⟨_,bm⟩⟩ ?_
 rintro i H n ⟨hi,hn,⟨d1,q1⟩,⟨d7,q7⟩,d19,q19⟩
 by_cases hil:i<g.nodes.length
 ·have e0:=fun d=>mG (l:=cj g (-1)) (k:=i) d (by rw[dW];exact hil)
  have e1:=fun d=>gS (l:=out) (k:=i) (by omega) d
  rw[show out.getD i false=tf out i from rfl] at e1
  have hnxt:=og g out i
  have hlen:=kO (m:=i) hh0 hi
  have a4:(iQ (eK g out i)).length=(eK g out i).length:=by simp[iQ]
  have cH:iz g out i=false->eK g out (i+1)=eK g out i:=fun h=>by rw[hnxt,if_neg (by rw[h];decide)]
  by_cases hih:i=dX out g 0
  ·have r0:decide ((i:Int)≠(dX out g 0:Nat))=false:=decide_eq_false (by omega)
   have hk:=cH (by unfold iz;rw[decide_eq_false (fun h=>h hih)];simp)
   refine gG ?_
   exact⟨i+1,by omega,by rw[hk];exact bu,by omega,cI,⟨_,bm⟩,⟨_,bm⟩,⟨_,by rw[hk];exact bm⟩⟩
  ·have r0:decide ((i:Int)≠(dX out g 0:Nat))=true:=decide_eq_true (by omega)
   cases hrc:iF (cj g (-1)) (i:Int) with
   |false=>
    rw[hrc] at e0
    have hk:=cH (by unfold iz;rw[hrc];rfl)
    refine gG ?_
    exact⟨i+1,by omega,by rw[hk];exact bu,by omega,cI,⟨_,bm⟩,⟨_,bm⟩,⟨_,by rw[hk];exact bm⟩⟩
   |true=>
    rw[hrc] at e0
    cases hto:tf out i with
    |true=>
     rw[hto] at e1
     have hk:=cH (by unfold iz;rw[hto,hrc];rfl)
     refine gG ?_
     exact⟨i+1,by omega,by rw[hk];exact bu,by omega,cI,⟨_,bm⟩,⟨_,bm⟩,⟨_,by rw[hk];exact bm⟩⟩
    |false=>
     rw[hto] at e1
     rw[if_pos (by unfold iz;rw[hrc,hto,decide_eq_true hih];rfl)] at hnxt
     refine gG ?_
     exact⟨i+1,by omega,by rw[hnxt];exact bu,by omega,cI,⟨_,bm⟩,⟨_,bm⟩,⟨_,by rw[hnxt,<-x8];exact bm⟩⟩
 ·have:i=g.nodes.length:=by omega
  subst this
  have hnd:=jG g out g.nodes.length
  have hlt:=nu (m:=g.nodes.length) hh0 (Nat.le_refl _)
  have hlen:=kO (m:=g.nodes.length) hh0 (Nat.le_refl _)
  rw[qK] at q19 hnd hlt hlen ⊢
  generalize ca g out=o at *
  have a4:(iQ o).length=o.length:=by simp[iQ]
  have hget:∀k,k<o.length->o.getD k 0<g.nodes.length:=fun k hk=>hlt _ (by simp only[List.getD,List.getElem?_eq_getElem hk,Option.getD_some];exact List.getElem_mem hk)
  refine gG ?_
  refine aF (fun k:Nat=>[(6, .pt 1 1 0 0),(7, .pt 7 1 0 0),(9,fE out),(11, .sl 19 o.length),(13, .sl (n+8) g.nodes.length),(14,i64 k)])
   (fun k H p=>k<=o.length/\n+9<=p/\(∃d,bk H 1=some (.row 40 4 d [pX]))/\(∃d,bk H 7=some (.row 40 4 d [g.av]))/\(∃d,bk H 19=some (.row 3 1 d (iQ o)))/\∃P d,tT o P g.nodes.length k/\bk H (n+8)=some (.row 3 1 d (iQ P))) (fun k=>o.length - k) 0 (by rw[<-List.length_map (f:=Node.av)];exact bu) ⟨Nat.zero_le _,cI,⟨_,bm⟩,⟨_,bm⟩,⟨_,bm⟩,List.replicate g.nodes.length 0,_,⟨by simp,fun j hj=>absurd hj (Nat.not_lt_zero _),fun i _=>by simp[List.getD,List.getElem?_replicate];split<;>rfl⟩,by rw[show iQ (List.replicate g.nodes.length 0)=List.replicate ((((g.nodes.map Node.av).length:Nat):Int).toNat) (i64 0) by simp[iQ]];exact bm⟩ ?_
  clear q1 q7 q19
  rintro k H2 p ⟨hk,hp,⟨d1,q1⟩,⟨d7,q7⟩,⟨d19,q19⟩,P,d8,hP,q8⟩
  have hpl:=hP.len
  have a5:(iQ P).length=g.nodes.length:=by simp[iQ,hpl]
  by_cases hkl:k<o.length
  ·have e0:=fun d=>p7 (l:=o) (i:=k) hkl d
   have hx:=hget k hkl
   have hnP:=hP.next hnd hkl hx
   have hset:=IH (P:=P) (i:=o.getD k 0) (k:=k)
   generalize o.getD k 0=x at *
   have e1:=fun d=>p7 (l:=P) (i:=x) (by omega) d
   refine gG ?_
   exact⟨k+1,by omega,bu,by omega,cI,⟨_,bm⟩,⟨_,bm⟩,⟨_,bm⟩,_,_,hnP,by rw[<-hset,<-Int.toNat_natCast x];exact bm⟩
  ·have:k=o.length:=by omega
   subst this
   have hgP:=hP.get
   refine gG ?_
   refine aP (fun k:Nat=>[(6, .pt 1 1 0 0),(7, .pt 7 1 0 0),(9,fE out),(11, .sl 19 o.length),(13, .sl (n+8) g.nodes.length),(15, .pt (p+5) 1 0 0),(16,i64 k)])
    (fun k H q=>k<=o.length/\p+11<=q/\(∃d,bk H 1=some (.row 40 4 d [pX]))/\(∃d,bk H 7=some (.row 40 4 d [g.av]))/\(∃d,bk H 19=some (.row 3 1 d (iQ o)))/\(∃d,bk H (n+8)=some (.row 3 1 d (iQ P)))/\(∃d,bk H (p+5)=some (.row 40 4 d [.agg [st g.name,i64 g.locals,i64 g.cZ, .sl (p+10) k]]))/\∃d,bk H (p+10)=some (.row 46 13 d ((o.take k).map fun i=>(dH g out o (g.nd i)).av))) (fun k=>o.length - k) 0
    ⟨_,_,_,Rt.wk (Wk.oc (b:=p+5) (e:=46) (sz:=13) (by omega) (by omega) (te:=40) (tz:=4) (cs:=[st g.name,i64 g.locals,i64 g.cZ, .sc (.slice none 0 0)]) (j:=3) bm (by show 3<4;omega) rfl),bu,Nat.zero_le _,cI,⟨_,bm⟩,⟨_,bm⟩,⟨_,bm⟩,⟨_,bm⟩,⟨_,bm⟩,⟨_,bm⟩⟩ ?_
   clear q1 q7 q19 q8
   rintro k H3 q ⟨hk,hq,⟨d1,q1⟩,⟨d7,q7⟩,⟨d19,q19⟩,⟨d8,q8⟩,⟨dg,qg⟩,dn,qn⟩
   by_cases hkl:k<o.length
   ·have e0:=fun d=>p7 (l:=o) (i:=k) hkl d
    have hx:=hget k hkl
    have htk:(o.take (k+1)).map (fun i=>(dH g out o (g.nd i)).av)=(o.take k).map (fun i=>(dH g out o (g.nd i)).av)++[(dH g out o (g.nd (o.getD k 0))).av]:=by
     rw[List.take_succ_eq_append_getElem hkl,List.map_append,show o.getD k 0=o[k] by simp only[List.getD,List.getElem?_eq_getElem hkl,Option.getD_some]];rfl
    generalize o.getD k 0=x at *
    have e1:=fun d=>eH (l:=g.nodes) hx d
    rw[show g.nodes.getD x default=g.nd x from rfl] at e1
    have hno:=hk0.node hx
    have hql:((o.take k).map fun i=>(dH g out o (g.nd i)).av).length=k:=by rw[List.length_map,List.length_take];omega
    have call:∀z:Int,0<=z->z<g.nodes.length->Pure Tryz.prog 58 [g.av, .im 1 .any (out.map bl),i64 z] (fun r=>r=i64 (dX out g z.toNat:Nat)):=fun z h1 h2=>by
     have:=uO g hg out hol he hnx z.toNat (by omega)
     rw[Int.toNat_of_nonneg h1] at this;exact this
    have plc:∀z:Int,0<=z->z<g.nodes.length->∀d,(iQ P).getD ((dX out g z.toNat:Nat):Int).toNat d=i64 (eC o (dX out g z.toNat):Nat):=fun z h1 h2 d=>by
     rw[p7 (l:=P) (by have:=hheir z.toNat (by omega);omega),hgP]
    have hin:∀z:Int,0<=z->z<g.nodes.length->dX out g z.toNat<g.nodes.length:=fun z h1 h2=>hheir _ (by omega)
    by_cases h9:(g.nd x).kind=9
    ·have r0:=h9
     have hre:(dH g out o (g.nd x)).av=(g.nd x).av:=by
      unfold dH;rw[if_neg (fun h=>h h9),if_neg (fun h=>by omega)]
     refine gG ?_
     exact⟨k+1,by omega,_,_,_,Rt.refl _ _ _,bu,by omega,cI,⟨_,bm⟩,⟨_,bm⟩,⟨_,bm⟩,⟨_,bm⟩,⟨_,bm⟩,⟨_,by rw[htk,hre];exact bm⟩⟩
    ·have hnn:=hno.next.1 (by unfold eQ;exact decide_eq_true (by have:=hno.kind;omega))
     have c0:=call _ hnn.1 hnn.2
     have e2:=plc _ hnn.1 hnn.2
     have hb:=hin _ hnn.1 hnn.2
     by_cases h8:(g.nd x).kind=8
     ·have hee:=hno.jc.1 h8
      have c1:=call _ hee.1 hee.2
      have e3:=plc _ hee.1 hee.2
      have hb2:=hin _ hee.1 hee.2
      refine gG ?_
      have hre:(dH g out o (g.nd x)).av=(.agg [u8 (g.nd x).kind,u8 (g.nd x).op,i64 (g.nd x).slot,i64 (g.nd x).cT,bl (g.nd x).a.eA,i64 (g.nd x).a.slot,i64 (g.nd x).a.word,bl (g.nd x).b.eA,i64 (g.nd x).b.slot,i64 (g.nd x).b.word,i64 (eC o (dX out g (g.nd x).next.toNat):Int),i64 (eC o (dX out g (g.nd x).jc.toNat):Int),i64 (g.nd x).origin]):=by
       unfold dH;rw[if_pos h9,if_pos h8];rfl
      exact⟨k+1,by omega,_,_,_,Rt.refl _ _ _,bu,by omega,cI,⟨_,bm⟩,⟨_,bm⟩,⟨_,bm⟩,⟨_,bm⟩,⟨_,bm⟩,⟨_,by rw[htk,hre];exact bm⟩⟩
     ·refine gG ?_
      have hre:(dH g out o (g.nd x)).av=(.agg [u8 (g.nd x).kind,u8 (g.nd x).op,i64 (g.nd x).slot,i64 (g.nd x).cT,bl (g.nd x).a.eA,i64 (g.nd x).a.slot,i64 (g.nd x).a.word,bl (g.nd x).b.eA,i64 (g.nd x).b.slot,i64 (g.nd x).b.word,i64 (eC o (dX out g (g.nd x).next.toNat):Int),i64 (g.nd x).jc,i64 (g.nd x).origin]):=by
       unfold dH;rw[if_pos h9,if_neg h8];rfl
      exact⟨k+1,by omega,_,_,_,Rt.refl _ _ _,bu,by omega,cI,⟨_,bm⟩,⟨_,bm⟩,⟨_,bm⟩,⟨_,bm⟩,⟨_,bm⟩,⟨_,by rw[htk,hre];exact bm⟩⟩
   ·have:k=o.length:=by omega
    subst this
    rw[List.take_length] at qn
    refine gG ?_
    refine⟨?_⟩
    rw[oS]
    simp only[List.map_cons,List.map_nil]
    rw[dB 5 (by simp[cJ]),dB 5 (by simp[cJ]),dB 5 (by simp[cJ]),dM (b:=p+10) (len:=o.length) (H:=_) bm (by rw[List.length_map]),cf _ (by simp[cK,cJ])]
    simp[br.cells,ee]
theorem NT (a b:ByteArray):(a != b)= !decide (a=b):=by rw[bne,BM]
theorem qN (l m:List Decl) (hl:l.length * 32<=140737488351232) (hm:m.length * 32<=140737488351232):Pure Tryz.prog 32 [dN l,dN m] (fun r=>r=bl (decide (l=m))):=by
 refine aG F5 rfl ?_
 repeat' (first|refine aQ ?_|exact aC|with_reducible refine aB ?_ ?_|(apply aA;(·exact bp))|refine aH ?_|((with_reducible refine aE ?_ ?_)<;>intro hc<;>try(exfalso;omega)))
 ·refine cn (Eq.symm ?_)
  exact decide_eq_false fun e=>hc (by rw[e])
 ·have hlm:l.length=m.length:=by omega
  refine aF (fun i:Nat=>[(0,dN l),(1,dN m),(5,i64 i)])
   (fun i H n=>i<=l.length/\∀j,j<i->l.getD j default=m.getD j default) (fun i=>l.length - i) 0 bu ⟨Nat.zero_le _,fun _ h=>by omega⟩ ?_
  rintro i H n ⟨hi,hall⟩
  by_cases hil:i<l.length
  ·have e1:=fun d=>vC (l:=l) hil d
   have e2:=fun d=>vC (l:=m) (i:=i) (by omega) d
   repeat' (first|refine aQ ?_|exact cP|with_reducible refine aB ?_ ?_|((with_reducible refine Ask.mk ?_);first|exact bx|exact bt|(intro h;simp_all[Decl.cells]<;>fail)|(simp_all[Decl.cells]<;>fail))|(apply aA;(·(first|exact e1 _|exact e2 _|exact bp)))|refine aH ?_|((with_reducible refine aE ?_ ?_)<;>intro hc<;>try(exfalso;omega)))
   ·refine cn (Eq.symm ?_)
    refine decide_eq_false fun e=> ?_
    rw[e] at hc
    simp[BM] at hc
   ·refine⟨i+1,by omega,bu,by omega,fun j hj=> ?_⟩
    by_cases hji:j=i
    ·subst hji
     obtain⟨h1,h2,h3,_⟩:=hc
     rw[BM,decide_eq_true_eq] at h1
     exact Decl.tD h1 h2 h3
    ·exact hall j (by omega)
  ·have:i=l.length:=by omega
   subst this
   repeat' (first|refine aQ ?_|exact aC|with_reducible refine aB ?_ ?_|(apply aA;(·exact bp))|refine aH ?_|((with_reducible refine aE ?_ ?_)<;>intro hc<;>try(exfalso;omega)))
   refine cn (Eq.symm ?_)
   exact decide_eq_true (kL default hlm hall)
set_option maxRecDepth 4000 in
set_option maxHeartbeats 8000000 in
theorem xj (a b:br) (ha:a.Wf) (hb:b.Wf):Pure Tryz.prog 33 [a.av,b.av] (fun r=>r=bl (decide (a=b))):=by
 have hla:=ha.len
 have hlb:=hb.len
 refine aG F6 rfl ?_
 repeat' (first|refine aQ ?_|exact cP|with_reducible refine aB ?_ ?_|((with_reducible refine Ask.mk ?_);first|exact bx|exact bt|(intro h;simp_all[br.cells]<;>fail)|(simp_all[br.cells]<;>fail))|(apply aA;(·exact bp))|refine aH ?_|((with_reducible refine aE ?_ ?_)<;>intro hc<;>try(exfalso;omega)))
 ·refine cn (Eq.symm ?_)
  refine decide_eq_false fun e=> ?_
  rw[e] at hc
  simp[NT] at hc
 ·have hnm:a.name=b.name/\a.locals=b.locals/\a.cZ=b.cZ/\a.nodes.length=b.nodes.length:=by
   simp[NT] at hc
   exact⟨hc.1.1.1,hc.1.1.2,hc.1.2,by have:=hc.2;omega⟩
  refine aF (fun i:Nat=>[(2, .pt 0 1 0 0),(3, .pt 1 1 0 0),(5,i64 i)])
   (fun i H n=>i<=a.nodes.length/\2<=n/\(∃d,bk H 0=some (.row 40 4 d [a.av]))/\(∃d,bk H 1=some (.row 40 4 d [b.av]))/\∀j,j<i->a.nodes.getD j default=b.nodes.getD j default) (fun i=>a.nodes.length - i) 0 bu ⟨Nat.zero_le _,cI,⟨_,bm⟩,⟨_,bm⟩,fun _ h=>by omega⟩ ?_
  clear hc
  rintro i H n ⟨hi,hn,⟨d0,r0⟩,⟨d1,r1⟩,hall⟩
  by_cases hil:i<a.nodes.length
  ·have e1:=fun d=>eH (l:=a.nodes) hil d
   have e2:=fun d=>eH (l:=b.nodes) (i:=i) (by omega) d
   repeat' (first|refine aQ ?_|exact cP|with_reducible refine aB ?_ ?_|((with_reducible refine Ask.mk ?_);first|exact bx|exact bt|(intro h;simp_all[br.cells,Node.cells]<;>fail)|(simp_all[br.cells,Node.cells]<;>fail))|(apply aA;(·(first|exact e1 _|exact e2 _|exact bp)))|refine aH ?_|((with_reducible refine aE ?_ ?_)<;>intro hc<;>try(exfalso;omega)))
   ·refine cn (Eq.symm ?_)
    refine decide_eq_false fun e=> ?_
    rw[e] at hc
    simp at hc
   ·refine⟨i+1,by omega,bu,by omega,cI,⟨_,bm⟩,⟨_,bm⟩,fun j hj=> ?_⟩
    by_cases hji:j=i
    ·subst hji
     obtain⟨h1,h2,h3,h4,h5,h6,h7,h8,h9,h10,h11,h12,h13,_⟩:=hc
     exact Node.N0 h1 h2 h3 h4 (l7.tD (by simpa using h5) h6 h7) (l7.tD (by simpa using h8) h9 h10) h11 h12 h13
    ·exact hall j (by omega)
  ·have:i=a.nodes.length:=by omega
   subst this
   repeat' (first|refine aQ ?_|exact cP|with_reducible refine aB ?_ ?_|((with_reducible refine Ask.mk ?_);first|exact bx|exact bt|(intro h;simp_all[br.cells]<;>fail)|(simp_all[br.cells]<;>fail))|(apply aA;(·exact bp))|refine aH ?_|((with_reducible refine aE ?_ ?_)<;>intro hc<;>try(exfalso;omega)))
   refine cn (Eq.symm ?_)
   exact decide_eq_true (br.NZ hnm.1 hnm.2.1 hnm.2.2.1 (kL default hnm.2.2.2 hall))
set_option maxRecDepth 4000 in
set_option maxHeartbeats 4000000 in
theorem sW (u v:bq) (hu:u.Wf) (hv:v.Wf):Pure Tryz.prog 12 [u.av,v.av] (fun r=>r=bl (decide (u=v))):=by
 have h1:=qN u.shared v.shared hu.gJ hv.gJ
 have h2:=qN u.bz v.bz hu.gz hv.gz
 have hgl:=hu.gp
 have hgl2:=hv.gp
 refine aG FT rfl ?_
 repeat' (first|refine aQ ?_|exact cP|with_reducible refine aB ?_ ?_|((with_reducible refine Ask.mk ?_);first|exact bx|exact bt|(intro h;simp_all[bq.cells]<;>fail)|(simp_all[bq.cells]<;>fail))|(apply aA;(·exact bp))|refine aK (h1) ?_|refine aK (h2) ?_|refine aH ?_|((with_reducible refine aE ?_ ?_)<;>intro hc<;>try(exfalso;omega)))
 ·refine cn (Eq.symm ?_)
  refine decide_eq_false fun e=> ?_
  rw[e] at hc
  simp at hc
 ·have hnm:u.bo.length=v.bo.length/\u.shared=v.shared/\u.bz=v.bz:=by
   simp at hc
   exact⟨by have:=hc.1.1;omega,hc.1.2,hc.2⟩
  refine aF (fun i:Nat=>[(2, .pt 0 1 0 0),(3, .pt 1 1 0 0),(5,i64 i)])
   (fun i H n=>i<=u.bo.length/\2<=n/\(∃d,bk H 0=some (.row 25 3 d [u.av]))/\(∃d,bk H 1=some (.row 25 3 d [v.av]))/\∀j,j<i->u.bo.getD j default=v.bo.getD j default) (fun i=>u.bo.length - i) 0 bu ⟨Nat.zero_le _,cI,⟨_,bm⟩,⟨_,bm⟩,fun _ h=>by omega⟩ ?_
  clear hc h1 h2
  rintro i H n ⟨hi,hn,⟨d0,r0⟩,⟨d1,r1⟩,hall⟩
  by_cases hil:i<u.bo.length
  ·have e1:=fun d=>j3 (l:=u.bo) hil d
   have e2:=fun d=>j3 (l:=v.bo) (i:=i) (by omega) d
   have hg:=xj (u.bo.getD i default) (v.bo.getD i default) (hu.bo _ (cE default hil)) (hv.bo _ (cE default (by omega)))
   by_cases heq:u.bo.getD i default=v.bo.getD i default
   ·rw[decide_eq_true heq] at hg
    repeat' (first|refine aQ ?_|exact cP|with_reducible refine aB ?_ ?_|((with_reducible refine Ask.mk ?_);first|exact bx|exact bt|(intro h;simp_all[bq.cells,br.cells]<;>fail)|(simp_all[bq.cells,br.cells]<;>fail))|(apply aA;(·(first|exact e1 _|exact e2 _|exact bp)))|refine aK (hg) ?_|refine aH ?_|((with_reducible refine aE ?_ ?_)<;>intro hc<;>try(exfalso;omega)))
    refine⟨i+1,by omega,bu,by omega,cI,⟨_,bm⟩,⟨_,bm⟩,fun j hj=> ?_⟩
    by_cases hji:j=i
    ·subst hji;exact heq
    ·exact hall j (by omega)
   ·rw[decide_eq_false heq] at hg
    repeat' (first|refine aQ ?_|exact cP|with_reducible refine aB ?_ ?_|((with_reducible refine Ask.mk ?_);first|exact bx|exact bt|(intro h;simp_all[bq.cells,br.cells]<;>fail)|(simp_all[bq.cells,br.cells]<;>fail))|(apply aA;(·(first|exact e1 _|exact e2 _|exact bp)))|refine aK (hg) ?_|refine aH ?_|((with_reducible refine aE ?_ ?_)<;>intro hc<;>try(exfalso;omega)))
    refine cn (Eq.symm ?_)
    exact decide_eq_false fun e=>heq (by rw[e])
  ·have:i=u.bo.length:=by omega
   subst this
   repeat' (first|refine aQ ?_|exact cP|with_reducible refine aB ?_ ?_|((with_reducible refine Ask.mk ?_);first|exact bx|exact bt|(intro h;simp_all[bq.cells]<;>fail)|(simp_all[bq.cells]<;>fail))|(apply aA;(·exact bp))|refine aH ?_|((with_reducible refine aE ?_ ?_)<;>intro hc<;>try(exfalso;omega)))
   refine cn (Eq.symm ?_)
   exact decide_eq_true (bq.tD hnm.2.1 hnm.2.2 (kL default hnm.1 hall))
noncomputable def kr (u:bq) (ids:List Nat) (t:Nat):List AV:=(gD u t).map br.av++(fQ ids u.bo).drop t
theorem KH {u:bq} {ids:List Nat} (hl:ids.length=u.bo.length) {t:Nat} (ht:t<u.bo.length) (d:AV):(kr u ids t).getD (t:Int).toNat d=iM (ids.getD t 0) (u.gr t):=by
 rw[Int.toNat_natCast,kr,List.getD,List.getElem?_append_right (by rw[List.length_map,iA];omega),List.length_map,iA,Nat.sub_self,List.getElem?_drop,Nat.add_zero]
 exact kj hl ht d
theorem KJ {u:bq} {ids:List Nat} (hl:ids.length=u.bo.length) {t:Nat} (ht:t<u.bo.length):(kr u ids t).set (t:Int).toNat (fj (u.gr t) (ck u) t).av=kr u ids (t+1):=by
 rw[Int.toNat_natCast,kr,List.set_append_right _ _ (by rw[List.length_map,iA];omega),List.length_map,iA,Nat.sub_self,List.drop_eq_getElem_cons (by rw[gV hl];exact ht),List.set_cons_zero,kr,mX,List.map_append]
 simp
theorem KI {u:bq} {ids:List Nat} (hl:ids.length=u.bo.length) {t:Nat} (ht:t<=u.bo.length):(kr u ids t).length=u.bo.length:=by
 rw[kr,List.length_append,List.length_map,iA,List.length_drop,gV hl];omega
set_option maxRecDepth 4000 in
set_option maxHeartbeats 4000000 in
theorem qM (u:bq) (hu:u.Wf) (hr:cX u):Pure Tryz.prog 10 [u.av] (fun r=>r= .dK [(dA u).av,i64 0]):=by
 have c0:=kQ u hu
 rw[iu.2 hr] at c0
 have c1:=tH u hu
 rw[if_pos (cR.2 hr)] at c1
 unfold gk at c1
 have hfew:=hr.wI
 have h96:∀g∈u.bo,g.nodes.length * 96<=140737488351232:=fun g hg=>by have:=(hr.bo g hg).len.2;omega
 refine cV ?_ (by rw[cJ,cL,cL,cL];exact⟨gA _,by simp[cJ],trivial⟩)
 refine aI CO rfl ?_
 refine gG ?_
 refine aJ (BT u hu h96 _ _) ?_
 rintro _ H2 n2 ⟨sh,lk,gr,ids,rfl,hA,hin,hn2,hk⟩
 have hnd:=hA.nodup
 obtain⟨i1,i2⟩:=hin sh (by simp)
 obtain⟨i3,i4⟩:=hin lk (by simp)
 obtain⟨i5,i6⟩:=hin gr (by simp)
 have n1:sh≠lk:=fun e=>by subst e;simp at hnd
 have n3:sh≠gr:=fun e=>by subst e;simp at hnd
 have n4:lk≠gr:=fun e=>by subst e;simp at hnd
 have hil:=hA.len
 obtain⟨d1,q1⟩:=hA.sh
 obtain⟨d2,q2⟩:=hA.lk
 obtain⟨d3,q3⟩:=hA.gr
 have q4:bk H2 0=some (.row 25 3 .any [u.av]):=(hk 0 (by omega)).trans bm
 have q5:bk H2 1=some (.row 25 3 (gw true [.slice none 0 0, .slice none 0 0, .slice none 0 0]) [gw true [.slice none 0 0, .slice none 0 0, .slice none 0 0]]):=(hk 1 (by omega)).trans bm
 have hn2:2<=n2:=by omega
 clear hk c0 c1 hA
 refine gG ?_
 refine aF (fun t:Nat=>[(1, .pt 0 1 0 0),(2, .pt 1 1 0 0),(7, .im 3 .any ((ck u).map cF.av)),(9, .pt n2 1 0 0),(10,i64 t)])
  (fun t H n=>t<=u.bo.length/\n2+1<=n/\(∃d,bk H 0=some (.row 25 3 d [u.av]))/\(∃d,bk H 1=some (.row 25 3 d [gw true [.slice none 0 0, .slice none 0 0, .slice none 0 0]]))/\(∃d,bk H n2=some (.row 25 3 d [nV sh lk gr u]))/\(∃d,bk H sh=some (.row 48 3 d (u.shared.map Decl.av)))/\(∃d,bk H lk=some (.row 48 3 d (u.bz.map Decl.av)))/\∃d,bk H gr=some (.row 40 4 d (kr u ids t))) (fun t=>u.bo.length - t) 0 bu ⟨Nat.zero_le _,cI,⟨_,bm⟩,⟨_,bm⟩,⟨_,bm⟩,⟨_,bm⟩,⟨_,bm⟩,⟨_,by rw[show kr u ids 0=fQ ids u.bo by simp[kr,gD]];exact bm⟩⟩ ?_
 clear q1 q2 q3 q4 q5
 rintro t H n ⟨ht,hn,⟨d0,q0⟩,⟨d1,q1⟩,⟨d2,q2⟩,⟨d3,q3⟩,⟨d4,q4⟩,d5,q5⟩
 have a0:=KI hil ht
 have a1:(u.bo.map br.av).length=u.bo.length:=by simp
 by_cases htl:t<u.bo.length
 ·have c0:=zp u hu t htl (hr.gr htl) (ck u) (gm u) hfew.1
  have e0:=fun d=>KH hil htl d
  have hst:=KJ hil htl
  refine gG ?_
  exact⟨t+1,by omega,bu,by omega,cI,⟨_,bm⟩,⟨_,bm⟩,⟨_,bm⟩,⟨_,bm⟩,⟨_,bm⟩,⟨_,by rw[<-hst];exact bm⟩⟩
 ·have:t=u.bo.length:=by omega
  subst this
  have hm:kr u ids u.bo.length=(dA u).bo.map br.av:=by
   rw[kr,List.drop_eq_nil_of_le (by rw[gV hil];exact Nat.le_refl _),List.append_nil];rfl
  rw[hm] at q5
  have hol:=fm u
  refine gG ?_
  refine⟨mK.trans ?_⟩
  rw[pO 5 (by simp[cJ])]
  refine congrArg (fun z=>AV.dK [z,i64 0]) ?_
  rw[oS]
  simp only[List.map_cons,List.map_nil]
  rw[dM (b:=sh) bm (by simp),dM (b:=lk) bm (by simp),dM (b:=gr) bm (by simp[hol]),cf _ (gn _),cf _ (gn _),cf _ (lP _)]
  rfl
theorem z8 (u:bq) (hu:u.Wf):Pure Tryz.prog 10 [u.av] (fun r=>r=jX u (dA u)):=by
 unfold jX
 by_cases hr:cX u
 ·rw[if_pos (cR.2 hr)];exact qM u hu hr
 ·rw[if_neg (mt cR.1 hr)]
  have c0:=kQ u hu
  have h60:=jl hr
  generalize gT u=c3 at *
  obtain⟨c1,c2,c3⟩:=c3
  simp only at h60
  subst h60
  refine sJ ?_
  refine aG CO rfl ?_
  refine gG ?_
  first|exact rfl|trivial
set_option maxRecDepth 4000 in
set_option maxHeartbeats 4000000 in
theorem xi (u:bq) (hu:u.Wf):Pure Tryz.prog 16 [u.av] (fun r=>r=jX u (gF u)):=by
 have c0:=z8 u hu
 unfold jX at c0 ⊢
 by_cases hr:cX u
 ·rw[if_pos (cR.2 hr)] at c0 ⊢
  refine cV ?_ (by rw[cJ,cL,cL,cL];exact⟨gA _,by simp[cJ],trivial⟩)
  refine aI CQ rfl ?_
  refine gG ?_
  refine aF (fun v:bq=>[(2, .pt 1 1 0 0),(4, .pt 7 1 0 0)])
   (fun v H n=>10<=n/\cX v/\v.Wf/\fO (fW v) v=gF u/\(∃d,bk H 1=some (.row 25 3 d [gw true [.slice none 0 0, .slice none 0 0, .slice none 0 0]]))/\(∃d,bk H 7=some (.row 25 3 d [v.av]))) (fun v=>fW v) (dA u) bu ⟨cI,fF hr,jF hu hr,(nA hr).symm,⟨_,bm⟩,⟨_,bm⟩⟩ ?_
  clear c0
  rintro v H n ⟨hn,hvr,hvw,hsw,⟨d1,r1⟩,⟨d8,r8⟩⟩
  have c0:=qM v hvw hvr
  have c1:=sW v (dA v) hvw (jF hvw hvr)
  by_cases e:v=dA v
  ·rw[decide_eq_true e] at c1
   rw[lZ hvr e.symm] at hsw
   subst hsw
   refine gG ?_
   exact⟨congrArg (fun z=>AV.dK [AV.agg z,i64 0]) (cf _ (wN 0 _))⟩
  ·rw[decide_eq_false e] at c1
   obtain⟨h1,h2⟩:=sf hvr (Ne.symm e)
   refine gG ?_
   exact⟨dA v,h2,bu,cI,fF hvr,jF hvw hvr,h1.symm.trans hsw,⟨_,bm⟩,⟨_,bm⟩⟩
 ·rw[if_neg (mt cR.1 hr)] at c0 ⊢
  refine sJ ?_
  refine aG CQ rfl ?_
  refine gG ?_
  first|exact rfl|trivial
theorem vA (u:bq) (hu:u.Wf) (t:Int) (ht:jE t):Pure Tryz.prog 5 [u.av,i64 t] (fun r=>r=bl true):=
 vB u hu t ht (xi u hu) (z7 u hu t) (fun T h1 h2=>yG T h1 h2) fun v hv=>by
  have:=sW v v hv hv
  rw[decide_eq_true rfl] at this
  exact this
end Go.Proofs.YtmonponfppdgfaaGreatDoor
