import Derived.Test.YtmonponfppdgfaaGreatDoorM32
import Derived.Test.YtmonponfppdgfaaGreatDoorM36
import Derived.Test.YtmonponfppdgfaaGreatDoorM35
namespace Go.Proofs.YtmonponfppdgfaaGreatDoor
open Go Go.dD Go.Proofs
set_option linter.unusedSimpArgs false
set_option linter.unusedVariables false
abbrev iQ (l:List Nat):List AV:=l.map fun(i:Nat)=>i64 (i:Int)
theorem x8 (l:List Nat) (k:Nat):iQ l++[i64 (k:Int)]=iQ (l++[k]):=by simp[iQ]
theorem p7 {l:List Nat} {i:Nat} (h:i<l.length) (d:AV):(iQ l).getD ((i:Int)).toNat d=i64 (l.getD i 0:Nat):=by
 rw[Int.toNat_natCast];exact dG (fun(i:Nat)=>i64 (i:Int)) l i d h
noncomputable def pX:AV:= .agg [.sc (.string ⟨#[]⟩),i64 0,i64 0, .sc (.slice none 0 0)]
set_option maxRecDepth 4000 in
set_option maxHeartbeats 8000000 in
theorem uZ (u:bq) (g:br) (hg:g.Wf) (hk:dR u g) (t:Nat) (cls:List cF) (hcl:cls.length=u.shared.length) (hcl64:cls.length<=64) (H:Hp) (nx:Nat):
 cM Tryz.prog 29 [eG g t cls] H nx (fun r H2 n2=>∃b d,r= .agg [st g.name,i64 g.locals,i64 g.cZ, .sl b (fj g cls t).nodes.length]/\nx<=b/\b<n2/\bk H2 b=some (.row 46 13 d ((fj g cls t).nodes.map Node.av))/\∀y,y<nx->bk H2 y=bk H y):=by
 have hl:=hg.len
 have hw:=hk.whole
 have hk0:=hk
 have hl0:=hw.1
 have hl1:=hw.2.1
 have hil:=mn g cls t
 have hends:Ends (eR g cls t) g:=pL _ _
 have hinx:∀j,tf (eR g cls t) j=true->0<=(g.nd j).next/\(g.nd j).next<(eR g cls t).length:=fun j hj=>by
  rw[hil];exact mz hk (gC.1 hj).1
 have hh0:dX (eR g cls t) g 0<g.nodes.length:=oY hends (P:=fun i=>i<g.nodes.length) (fun i hi _=>by have:=hinx i hi;rw[hil] at this;show(g.nd i).next.toNat<_;omega) (by omega)
 unfold fj
 have hhc:=fun b H nx d hb hbn=>yp g hg t cls (eR g cls t) hil (by omega) hends hinx b H nx d hb hbn
 simp only[hil] at hhc
 generalize hid:eR g cls t=out at *
 refine aI F1 rfl ?_
 repeat' (first|refine aQ ?_|exact cP|with_reducible refine aB ?_ ?_|((with_reducible refine Ask.mk ?_);first|exact bx|exact bt|(intro h;simp_all[cB]<;>fail)|(simp_all[cB]<;>fail))|(apply aA;(·exact bp))|refine aH ?_|((with_reducible refine aE ?_ ?_)<;>intro hc<;>try(exfalso;omega)))
 refine aJ (uS u g hg hk t cls hcl hcl64 _ _) ?_
 rintro _ H1 n1 ⟨bi,di,rfl,hb1,hb2,ri,hk1⟩
 rw[hid] at ri
 have r0:bk H1 nx=some (.row 40 4 (gw true [.string ⟨#[]⟩, .int .i64 0, .int .i64 0, .slice none 0 0]) [gw true [.string ⟨#[]⟩, .int .i64 0, .int .i64 0, .slice none 0 0]]):=(hk1 nx cI).trans bm
 have hk1':∀y,y<nx->bk H1 y=bk H y:=fun y hy=>(hk1 y (Nat.lt_of_lt_of_le hy cI)).trans bw
 have hb1':nx+2<=bi:=Nat.le_trans cI hb1
 clear hk1 hb1
 repeat' (first|refine aQ ?_|exact cP|with_reducible refine aB ?_ ?_|((with_reducible refine Ask.mk ?_);first|exact bx|exact bt|(intro h;simp_all[cB]<;>fail)|(simp_all[cB]<;>fail))|(apply aA;(·exact bp))|refine aH ?_|((with_reducible refine aE ?_ ?_)<;>intro hc<;>try(exfalso;omega)))
 refine aJ (hhc bi _ _ di bm cI) ?_
 rintro _ H2 n2 ⟨mm,dm,em,F,rfl,hm1,hm2,rm,hF,hk2⟩
 have hm1':n1+3<=mm:=Nat.le_trans cI hm1
 have r02:bk H2 nx=some (.row 40 4 (gw true [.string ⟨#[]⟩, .int .i64 0, .int .i64 0, .slice none 0 0]) [gw true [.string ⟨#[]⟩, .int .i64 0, .int .i64 0, .slice none 0 0]]):=(hk2 nx cI).trans bm
 have ri2:bk H2 bi=some (.row 4 1 di (out.map bl)):=(hk2 bi cI).trans bm
 have hk2':∀y,y<nx->bk H2 y=bk H y:=fun y hy=>(hk2 y (Nat.lt_of_lt_of_le hy cI)).trans (Eq.trans bw (hk1' y hy))
 clear hk2 hk1' ri r0
 have hF0:=hF 0 (by omega)
 have e0:q6 false (.int .i64 0) (o9 F) (i64 0)=some (i64 (dX out g 0:Int),true):=by
  rw[J5,show cd F 0=some (dX out g 0:Int) from hF0];rfl
 repeat' (first|refine aQ ?_|exact cP|with_reducible refine aB ?_ ?_|((with_reducible refine Ask.mk ?_);first|exact bx|exact bt|(intro h;simp_all[cB]<;>fail)|(simp_all[cB]<;>fail))|(apply aA;(·exact bp))|(apply aD (g:=none);(·exact fun _=>e0))|refine aH ?_|((with_reducible refine aE ?_ ?_)<;>intro hc<;>try(exfalso;omega)))
 have hbm:bi≠mm:=by omega
 have ho0:([i64 (dX out g 0:Int)]:List AV)=iQ (eK g out 0):=rfl
 have hml:(out.map bl).length=g.nodes.length:=by rw[List.length_map,hil]
 have hrl:((cj g (-1)).map bl).length=g.nodes.length:=by rw[List.length_map,dW]
 refine aF (fun i:Nat=>[(0,eG g t cls),(2, .pt nx 1 0 0),(3, .sl bi g.nodes.length),(4, .mp mm),(5, .sl (n2+3) (eK g out i).length),(27,i64 g.nodes.length),(28,i64 i)])
  (fun i H' n'=>i<=g.nodes.length/\n2+11<=n'/\(∃d,bk H' nx=some (.row 40 4 d [pX]))/\(∃d,bk H' bi=some (.row 4 1 d (out.map bl)))/\(∃d,bk H' mm=some (.row em 0 d (mapA (o9 F))))/\(∃d,bk H' (n2+3)=some (.row 3 1 d (iQ (eK g out i))))/\∀y,y<nx->bk H' y=bk H y) (fun i=>g.nodes.length - i) 0 (by rw[<-List.length_map (f:=Node.av)];exact bu) ⟨Nat.zero_le _,cI,⟨_,bm⟩,⟨_,bm⟩,⟨_,bm⟩,⟨_,by rw[<-ho0];exact bm⟩,fun y hy=>Eq.trans bw (hk2' y hy)⟩ ?_
 clear r02 ri2 rm hk2'
 rintro i H3 n3 ⟨hi,hn3,⟨dg,rg⟩,⟨di,ri⟩,⟨dm,rm⟩,⟨d5,r5⟩,hk3⟩
 by_cases hilt:i<g.nodes.length
 ·have er:=fun d=>mG (l:=cj g (-1)) (k:=i) d (by rw[dW];exact hilt)
  have eo:=fun d=>gS (l:=out) (k:=i) (by rw[hil];exact hilt) d
  have hnx:=og g out i
  have hol:=kO (m:=i) hh0 hi
  have homl:(iQ (eK g out i)).length=(eK g out i).length:=by simp[iQ]
  cases hrc:iF (cj g (-1)) (i:Int) with
  |false=>
   rw[hrc] at er
   rw[if_neg (by unfold iz;rw[hrc];simp)] at hnx
   repeat' (first|refine aQ ?_|exact cP|with_reducible refine aB ?_ ?_|((with_reducible refine Ask.mk ?_);first|exact bx|(exact hrl)|(exact hml)|exact bt|(intro h;simp_all[cB]<;>fail)|(simp_all[cB]<;>fail))|(apply aA;(·(first|exact er _|exact eo _|exact bp)))|(apply aD (g:=none);(·exact fun _=>e0))|(apply aD (g:=some _);(·exact fun _=>e0))|refine aH ?_|((with_reducible refine aE ?_ ?_)<;>intro hc<;>try(exfalso;omega)))
   exact⟨i+1,by omega,by rw[hnx];exact bu,by omega,by omega,⟨_,bm⟩,⟨_,bm⟩,⟨_,bm⟩,⟨_,by rw[hnx];exact bm⟩,fun y hy=>Eq.trans bw (hk3 y hy)⟩
  |true=>
   rw[hrc] at er
   cases hto:tf out i with
   |true=>
    rw[show out.getD i false=true from hto] at eo
    rw[if_neg (by unfold iz;rw[hto];simp)] at hnx
    repeat' (first|refine aQ ?_|exact cP|with_reducible refine aB ?_ ?_|((with_reducible refine Ask.mk ?_);first|exact bx|(exact hrl)|(exact hml)|exact bt|(intro h;simp_all[cB]<;>fail)|(simp_all[cB]<;>fail))|(apply aA;(·(first|exact er _|exact eo _|exact bp)))|(apply aD (g:=none);(·exact fun _=>e0))|(apply aD (g:=some _);(·exact fun _=>e0))|refine aH ?_|((with_reducible refine aE ?_ ?_)<;>intro hc<;>try(exfalso;omega)))
    exact⟨i+1,by omega,by rw[hnx];exact bu,by omega,by omega,⟨_,bm⟩,⟨_,bm⟩,⟨_,bm⟩,⟨_,by rw[hnx];exact bm⟩,fun y hy=>Eq.trans bw (hk3 y hy)⟩
   |false=>
    rw[show out.getD i false=false from hto] at eo
    by_cases hih:i=dX out g 0
    ·have hihz:((i:Int)=(dX out g 0:Int)):=by omega
     rw[if_neg (by unfold iz;rw[decide_eq_false (fun h=>h hih)];simp)] at hnx
     repeat' (first|refine aQ ?_|exact cP|with_reducible refine aB ?_ ?_|((with_reducible refine Ask.mk ?_);first|exact bx|(exact hrl)|(exact hml)|exact bt|(intro h;simp_all[cB]<;>fail)|(simp_all[cB]<;>fail))|(apply aA;(·(first|exact er _|exact eo _|exact bp)))|(apply aD (g:=none);(·exact fun _=>e0))|(apply aD (g:=some _);(·exact fun _=>e0))|refine aH ?_|((with_reducible refine aE ?_ ?_)<;>intro hc<;>try(exfalso;omega)))
     exact⟨i+1,by omega,by rw[hnx];exact bu,by omega,by omega,⟨_,bm⟩,⟨_,bm⟩,⟨_,bm⟩,⟨_,by rw[hnx];exact bm⟩,fun y hy=>Eq.trans bw (hk3 y hy)⟩
    ·rw[if_pos (by unfold iz;rw[hrc,hto,decide_eq_true hih];rfl)] at hnx
     repeat' (first|refine aQ ?_|exact cP|with_reducible refine aB ?_ ?_|((with_reducible refine Ask.mk ?_);first|exact bx|(exact hrl)|(exact hml)|exact bt|(intro h;simp_all[cB]<;>fail)|(simp_all[cB]<;>fail))|(apply aA;(·(first|exact er _|exact eo _|exact bp)))|(apply aD (g:=none);(·exact fun _=>e0))|(apply aD (g:=some _);(·exact fun _=>e0))|refine aH ?_|((with_reducible refine aE ?_ ?_)<;>intro hc<;>try(exfalso;omega)))
     ·exact⟨i+1,by omega,by rw[hnx];exact bu,by omega,by omega,⟨_,bm⟩,⟨_,bm⟩,⟨_,bm⟩,⟨_,by rw[hnx,<-x8];exact bm⟩,fun y hy=>Eq.trans bw (hk3 y hy)⟩
     ·exact hc.elim (fun h=>absurd ⟨trivial,trivial⟩ h) (fun h=>absurd (Int.ofNat.inj h) hih)
 ·have:i=g.nodes.length:=by omega
  subst this
  have hnd:=jG g out g.nodes.length
  have hlt:=nu (m:=g.nodes.length) hh0 (Nat.le_refl _)
  have hol:=kO (m:=g.nodes.length) hh0 (Nat.le_refl _)
  rw[qK] at r5 hnd hlt hol ⊢
  generalize ca g out=o at *
  have homl:(iQ o).length=o.length:=by simp[iQ]
  repeat' (first|refine aQ ?_|exact cP|with_reducible refine aB ?_ ?_|((with_reducible refine Ask.mk ?_);first|exact bx|(exact homl)|exact bt)|(apply aA;(·exact bp))|refine aH ?_|((with_reducible refine aE ?_ ?_)<;>intro hc<;>try(exfalso;omega)))
  refine aF (fun k:Nat=>[(0,eG g t cls),(2, .pt nx 1 0 0),(4, .mp mm),(5, .sl (n2+3) o.length),(7, .mp (n3+1)),(57, .sl (n2+3) o.length),(58,i64 o.length),(59,i64 k)])
   (fun k H' n'=>k<=o.length/\n3+6<=n'/\(∃d,bk H' nx=some (.row 40 4 d [pX]))/\(∃d,bk H' mm=some (.row em 0 d (mapA (o9 F))))/\(∃d,bk H' (n2+3)=some (.row 3 1 d (iQ o)))/\(∃d,bk H' (n3+1)=some (.row 3 0 d (mapA (o9 (qH o k)))))/\∀y,y<nx->bk H' y=bk H y) (fun k=>o.length - k) 0 bu ⟨Nat.zero_le _,cI,⟨_,bm⟩,⟨_,bm⟩,⟨_,bm⟩,⟨_,bm⟩,fun y hy=>Eq.trans bw (hk3 y hy)⟩ ?_
  clear rg ri rm r5 hk3
  rintro k H4 n4 ⟨hkl,hn4,⟨dg,rg⟩,⟨dm,rm⟩,⟨d5,r5⟩,⟨d7,r7⟩,hk4⟩
  by_cases hk:k<o.length
  ·have eo:=fun d=>p7 (l:=o) (i:=k) hk d
   have hnx:=sL o k
   repeat' (first|refine aQ ?_|exact cP|with_reducible refine aB ?_ ?_|((with_reducible refine Ask.mk ?_);first|exact bx|(exact homl)|exact bt)|(apply aA;(·(first|exact eo _|exact bp)))|(apply aD (g:=none);(·exact fun _=>MV _ _ _))|refine aH ?_|((with_reducible refine aE ?_ ?_)<;>intro hc<;>try(exfalso;omega)))
   exact⟨k+1,by omega,bu,by omega,by omega,⟨_,bm⟩,⟨_,bm⟩,⟨_,bm⟩,⟨_,by rw[hnx];exact bm⟩,fun y hy=>Eq.trans bw (hk4 y hy)⟩
  ·have:k=o.length:=by omega
   subst this
   have hpl:=fun i=>C4 hnd i
   generalize qH o o.length=NE at *
   repeat' (first|refine aQ ?_|exact cP|with_reducible refine aB ?_ ?_|((with_reducible refine Ask.mk ?_);first|exact bx|(exact homl)|exact bt|(intro h;simp_all[cB]<;>fail)|(simp_all[cB]<;>fail))|(apply aA;(·exact bp))|refine aH ?_|((with_reducible refine aE ?_ ?_)<;>intro hc<;>try(exfalso;omega)))
   have hndl:(g.nodes.map Node.av).length=g.nodes.length:=by simp
   refine aP (fun k:Nat=>[(0,eG g t cls),(2, .pt nx 1 0 0),(4, .mp mm),(7, .mp (n3+1)),(10, .pt (n4+5) 1 0 0),(73, .sl (n2+3) o.length),(74,i64 o.length),(75,i64 k)])
    (fun k H' n'=>k<=o.length/\n4+13<=n'/\(∃d,bk H' nx=some (.row 40 4 d [pX]))/\(∃d,bk H' mm=some (.row em 0 d (mapA (o9 F))))/\(∃d,bk H' (n2+3)=some (.row 3 1 d (iQ o)))/\(∃d,bk H' (n3+1)=some (.row 3 0 d (mapA (o9 NE))))/\(∃d,bk H' (n4+5)=some (.row 40 4 d [.agg [st g.name,i64 g.locals,i64 g.cZ, .sl (n4+12) k]]))/\(∃d,bk H' (n4+12)=some (.row 46 13 d ((o.take k).map fun i=>(dH g out o (g.nd i)).av)))/\∀y,y<nx->bk H' y=bk H y) (fun k=>o.length - k) 0
    ⟨_,_,_,Rt.wk (Wk.oc (b:=n4+5) (e:=46) (sz:=13) (by omega) (by omega) (te:=40) (tz:=4) (cs:=[st g.name,i64 g.locals,i64 g.cZ, .sc (.slice none 0 0)]) (j:=3) bm (by show 3<4;omega) rfl),bu,Nat.zero_le _,cI,⟨_,bm⟩,⟨_,bm⟩,⟨_,bm⟩,⟨_,bm⟩,⟨_,bm⟩,⟨_,bm⟩,fun y hy=>Eq.trans bw (hk4 y hy)⟩ ?_
   clear rg rm r5 r7 hk4
   rintro k H5 n5 ⟨hkl,hn5,⟨dg,rg⟩,⟨dm,rm⟩,⟨d5,r5⟩,⟨d7,r7⟩,⟨dc,rc⟩,⟨dq,rq⟩,hk5⟩
   by_cases hkk:k<o.length
   ·have eo:=fun d=>p7 (l:=o) (i:=k) hkk d
    have hom:o.getD k 0<g.nodes.length:=hlt _ (by simp only[List.getD,List.getElem?_eq_getElem hkk,Option.getD_some];exact List.getElem_mem hkk)
    have htk:(o.take (k+1)).map (fun i=>(dH g out o (g.nd i)).av)=(o.take k).map (fun i=>(dH g out o (g.nd i)).av)++[(dH g out o (g.nd (o.getD k 0))).av]:=by
     rw[List.take_succ_eq_append_getElem hkk,List.map_append,show o.getD k 0=o[k] by simp only[List.getD,List.getElem?_eq_getElem hkk,Option.getD_some]];rfl
    generalize o.getD k 0=i at *
    have en:=fun d=>eH (l:=g.nodes) (i:=i) hom d
    have hnk:nX u g (g.nd i):=hk0.nodes _ (by simp only[br.nd,List.getD,List.getElem?_eq_getElem hom,Option.getD_some];exact List.getElem_mem hom)
    have hx:∀z:Int,0<=z->z<g.nodes.length->q6 false (.int .i64 z) (o9 F) (i64 0)=some (i64 (dX out g z.toNat:Int),true):=fun z h0 h1=>by
     have:=hF z.toNat (by omega)
     rw[Int.toNat_of_nonneg h0] at this
     rw[J5,this];rfl
    have hp:∀j:Nat,q6 false (.int .i64 (j:Int)) (o9 NE) (i64 0)=some (i64 (eC o j:Int),(cd NE (j:Int)).isSome):=fun j=>by rw[J5,hpl]
    have hql:((o.take k).map fun i=>(dH g out o (g.nd i)).av).length=k:=by rw[List.length_map,List.length_take];omega
    by_cases h9:(g.nodes.getD i default).kind=9
    ·repeat' (first|refine aQ ?_|exact cP|with_reducible refine aB ?_ ?_|((with_reducible refine Ask.mk ?_);first|exact bx|(exact homl)|(exact hndl)|(exact hql)|(exact absurd h9 hc)|(simp only[h9])|exact bt|(intro h;simp_all[cB,Node.cells]<;>fail)|(simp_all[cB,Node.cells]<;>fail))|(apply aA;(·(first|exact eo _|exact en _|exact bp)))|refine aH ?_|((with_reducible refine aE ?_ ?_)<;>intro hc<;>try(exfalso;omega)))
     all_goals first|exact hql|exact rfl|skip
     have hre:(dH g out o (g.nd i)).av=(g.nodes.getD i default).av:=by
      unfold dH;rw[if_neg (fun h=>h h9),if_neg (fun h=>by have h':(g.nodes.getD i default).kind=8:=h;omega)]
     exact⟨k+1,by omega,_,_,_,Rt.refl _ _ _,bu,by omega,by omega,⟨_,bm⟩,⟨_,bm⟩,⟨_,bm⟩,⟨_,bm⟩,⟨_,bm⟩,⟨_,by rw[htk,hre];exact bm⟩,fun y hy=>Eq.trans bw (hk5 y hy)⟩
    ·have hnn:=hnk.next.1 (by unfold eQ;exact decide_eq_true (by have:=hnk.kind;have h9':¬(g.nd i).kind=9:=h9;omega))
     have e1:=hx _ hnn.1 hnn.2
     have e2:=hp (dX out g (g.nd i).next.toNat)
     by_cases h8:(g.nodes.getD i default).kind=8
     ·have hee:=hnk.jc.1 h8
      have e3:=hx _ hee.1 hee.2
      have e4:=hp (dX out g (g.nd i).jc.toNat)
      repeat' (first|refine aQ ?_|exact cP|with_reducible refine aB ?_ ?_|((with_reducible refine Ask.mk ?_);first|exact bx|(exact homl)|(exact hndl)|(exact absurd h8 hc)|exact bt|(intro h;simp_all[cB,Node.cells]<;>fail)|(simp_all[cB,Node.cells]<;>fail))|(apply aA;(·(first|exact eo _|exact en _|exact bp)))|(apply aD (g:=none);(·exact fun _=>e1))|(apply aD (g:=none);(·exact fun _=>e2))|(apply aD (g:=none);(·exact fun _=>e3))|(apply aD (g:=none);(·exact fun _=>e4))|refine aH ?_|((with_reducible refine aE ?_ ?_)<;>intro hc<;>try(exfalso;omega)))
      all_goals first|exact hql|exact rfl|skip
      have hre:(dH g out o (g.nd i)).av=(.agg [u8 (g.nd i).kind,u8 (g.nd i).op,i64 (g.nd i).slot,i64 (g.nd i).cT,bl (g.nd i).a.eA,i64 (g.nd i).a.slot,i64 (g.nd i).a.word,bl (g.nd i).b.eA,i64 (g.nd i).b.slot,i64 (g.nd i).b.word,i64 (eC o (dX out g (g.nd i).next.toNat):Int),i64 (eC o (dX out g (g.nd i).jc.toNat):Int),i64 (g.nd i).origin]):=by
       unfold dH;rw[if_pos h9,if_pos h8];rfl
      exact⟨k+1,by omega,_,_,_,Rt.refl _ _ _,bu,by omega,by omega,⟨_,bm⟩,⟨_,bm⟩,⟨_,bm⟩,⟨_,bm⟩,⟨_,bm⟩,⟨_,by rw[htk,hre];exact bm⟩,fun y hy=>Eq.trans bw (hk5 y hy)⟩
     ·repeat' (first|refine aQ ?_|exact cP|with_reducible refine aB ?_ ?_|((with_reducible refine Ask.mk ?_);first|exact bx|(exact homl)|(exact hndl)|(exact absurd hc h8)|exact bt|(intro h;simp_all[cB,Node.cells]<;>fail)|(simp_all[cB,Node.cells]<;>fail))|(apply aA;(·(first|exact eo _|exact en _|exact bp)))|(apply aD (g:=none);(·exact fun _=>e1))|(apply aD (g:=none);(·exact fun _=>e2))|refine aH ?_|((with_reducible refine aE ?_ ?_)<;>intro hc<;>try(exfalso;omega)))
      all_goals first|exact hql|exact rfl|skip
      have hre:(dH g out o (g.nd i)).av=(.agg [u8 (g.nd i).kind,u8 (g.nd i).op,i64 (g.nd i).slot,i64 (g.nd i).cT,bl (g.nd i).a.eA,i64 (g.nd i).a.slot,i64 (g.nd i).a.word,bl (g.nd i).b.eA,i64 (g.nd i).b.slot,i64 (g.nd i).b.word,i64 (eC o (dX out g (g.nd i).next.toNat):Int),i64 (g.nd i).jc,i64 (g.nd i).origin]):=by
       unfold dH;rw[if_pos h9,if_neg h8];rfl
      exact⟨k+1,by omega,_,_,_,Rt.refl _ _ _,bu,by omega,by omega,⟨_,bm⟩,⟨_,bm⟩,⟨_,bm⟩,⟨_,bm⟩,⟨_,bm⟩,⟨_,by rw[htk,hre];exact bm⟩,fun y hy=>Eq.trans bw (hk5 y hy)⟩
   ·have:k=o.length:=by omega
    subst this
    rw[List.take_length] at rq
    repeat' (first|refine aQ ?_|exact cP|with_reducible refine aB ?_ ?_|((with_reducible refine Ask.mk ?_);first|exact bx|(exact homl)|exact bt|(intro h;simp_all[cB]<;>fail)|(simp_all[cB]<;>fail))|(apply aA;(·exact bp))|refine aH ?_|((with_reducible refine aE ?_ ?_)<;>intro hc<;>try(exfalso;omega)))
    exact⟨n4+12,_,by rw[List.length_map],by omega,by omega,by rw[List.map_map];exact bm,fun y hy=>Eq.trans bw (hk5 y hy)⟩
theorem kG (g:br):cJ 0 g.av:=by simp[cJ,cL,br.cells,mj]
theorem gA (u:bq):cJ 0 u.av:=by simp[cJ,cL,bq.cells,gn,lP]
theorem zP (u:bq) (g:br) (hg:g.Wf) (hk:dR u g) (t:Nat) (cls:List cF) (hcl:cls.length=u.shared.length) (hcl64:cls.length<=64):Pure Tryz.prog 29 [eG g t cls] (fun r=>r=(fj g cls t).av):=by
 refine cV ((uZ u g hg hk t cls hcl hcl64 [] 0).mono ?_) (kG _)
 rintro r H2 n2 ⟨b,d,rfl,_,_,hb,_⟩
 rw[show dD.de H2 6 (.agg [st g.name,i64 g.locals,i64 g.cZ, .sl b (fj g cls t).nodes.length])= .agg ([st g.name,i64 g.locals,i64 g.cZ, .sl b (fj g cls t).nodes.length].map (dD.de H2 5)) from rfl]
 simp only[List.map_cons,List.map_nil]
 rw[dB 5 (by simp[cJ]),dB 5 (by simp[cJ]),dB 5 (by simp[cJ]),dM hb (by simp),cf _ (mj _)]
 rfl
theorem oS {H:Hp} {k:Nat} {cs:List AV}:dD.de H (k+1) (.agg cs)= .agg (cs.map (dD.de H k)):=by simp only[de]
noncomputable def gD (u:bq) (t:Nat):List br:=(List.range t).map fun t=>fj (u.gr t) (ck u) t
theorem mX (u:bq) (t:Nat):gD u (t+1)=gD u t++[fj (u.gr t) (ck u) t]:=by
 rw[gD,List.range_succ,List.map_append];rfl
theorem iA (u:bq) (t:Nat):(gD u t).length=t:=by simp[gD]
noncomputable def jX (u v:bq):AV:=if k8 u=true then .dK [v.av,i64 0] else .dK [(⟨[],[],[]⟩:bq).av,i64 60]
theorem DX (u:bq) (hu:u.Wf) (hr:¬cX u):Pure Tryz.prog 9 [u.av] (fun r=>r= .dK [.agg [.sc (.slice none 0 0), .sc (.slice none 0 0), .sc (.slice none 0 0)],i64 60]):=by
 have hc:=lJ u hu
 have h60:=jl hr
 generalize gT u=c3 at *
 obtain⟨c1,c2,c3⟩:=c3
 simp only at h60
 subst h60
 refine aG MO rfl ?_
 repeat' (first|refine aQ ?_|exact cP|with_reducible refine aB ?_ ?_|((with_reducible refine Ask.mk ?_);first|exact bx|exact bt|(intro h;simp_all[bq.cells]<;>fail)|(simp_all[bq.cells]<;>fail))|(apply aA;(·exact bp))|refine aK (hc) ?_|refine aH ?_|((with_reducible refine aE ?_ ?_)<;>intro hc<;>try(exfalso;omega)))
 exact rfl
set_option maxRecDepth 4000 in
set_option maxHeartbeats 4000000 in
theorem nY (u:bq) (hu:u.Wf) (hr:cX u):Pure Tryz.prog 9 [u.av] (fun r=>r= .dK [(dA u).av,i64 0]):=by
 have hc:=lJ u hu
 rw[iu.2 hr] at hc
 have hsh:=px u.shared hu.gJ
 have hlk:=px u.bz hu.gz
 have hfew:=hr.wI
 refine cV ?_ (by rw[cJ,cL,cL,cL];exact⟨gA _,by simp[cJ],trivial⟩)
 refine aI MO rfl ?_
 repeat' (first|refine aQ ?_|exact cP|with_reducible refine aB ?_ ?_|((with_reducible refine Ask.mk ?_);first|exact bx|exact bt|(intro h;simp_all[bq.cells]<;>fail)|(simp_all[bq.cells]<;>fail))|(apply aA;(·exact bp))|refine aK (hc) ?_|refine aK (hsh) ?_|refine aK (hlk) ?_|refine aH ?_|((with_reducible refine aE ?_ ?_)<;>intro hc<;>try(exfalso;omega)))
 have hg0:gD u 0=[]:=rfl
 refine aP (fun t:Nat=>[(1, .pt 0 1 0 0),(2, .pt 1 1 0 0),(7, .pt 20 1 0 0),(30,i64 u.bo.length),(31,i64 t)])
  (fun t H n=>t<=u.bo.length/\27<=n/\(∃d,bk H 0=some (.row 25 3 d [u.av]))/\(∃d,bk H 1=some (.row 25 3 d [gw true [.slice none 0 0, .slice none 0 0, .slice none 0 0]]))/\(∃d,bk H 20=some (.row 25 3 d [.agg [dN u.shared,dN u.bz, .sl 26 t]]))/\(∃d,bk H 26=some (.row 40 4 d ((gD u t).map br.av)))) (fun t=>u.bo.length - t) 0
  ⟨_,_,_,Rt.wk (Wk.oc (b:=20) (e:=40) (sz:=4) (by simp only[List.length_cons,List.length_nil];omega) (by omega) (te:=25) (tz:=3) (cs:=[dN u.shared,dN u.bz, .sc (.slice none 0 0)]) (j:=2) bm (by show 2<3;omega) rfl),by rw[<-List.length_map (f:=br.av)];exact bu,Nat.zero_le _,cI,⟨_,bm⟩,⟨_,bm⟩,⟨_,bm⟩,⟨_,bm⟩⟩ ?_
 rintro t H n ⟨ht,hn,⟨d0,r0⟩,⟨d1,r1⟩,⟨d20,r20⟩,⟨dg,rg⟩⟩
 have hgl:((gD u t).map br.av).length=t:=by rw[List.length_map,iA]
 by_cases htl:t<u.bo.length
 ·have ha:=mF u hu hr t htl
  have ho:=zP u (u.gr t) (hu.bo _ (cE default htl)) (hr.gr htl) t (ck u) (gm u) (by rw[gm];omega)
  have hnx:(gD u (t+1)).map br.av=(gD u t).map br.av++[(fj (u.gr t) (ck u) t).av]:=by rw[mX,List.map_append];rfl
  repeat' (first|refine aQ ?_|exact cP|with_reducible refine aB ?_ ?_|((with_reducible refine Ask.mk ?_);first|exact bx|(exact hgl)|exact bt|(intro h;simp_all[bq.cells]<;>fail)|(simp_all[bq.cells]<;>fail))|(apply aA;(·exact bp))|refine aK (ha) ?_|refine aK (ho) ?_|refine aH ?_|((with_reducible refine aE ?_ ?_)<;>intro hc<;>try(exfalso;omega)))
  exact⟨t+1,by omega,_,_,_,Rt.refl _ _ _,bu,by omega,by omega,⟨_,bm⟩,⟨_,bm⟩,⟨_,bm⟩,⟨_,by rw[hnx];exact bm⟩⟩
 ·have:t=u.bo.length:=by omega
  subst this
  repeat' (first|refine aQ ?_|exact cP|with_reducible refine aB ?_ ?_|((with_reducible refine Ask.mk ?_);first|exact bx|(exact hgl)|exact bt|(intro h;simp_all[bq.cells]<;>fail)|(simp_all[bq.cells]<;>fail))|(apply aA;(·exact bp))|refine aH ?_|((with_reducible refine aE ?_ ?_)<;>intro hc<;>try(exfalso;omega)))
  refine⟨mK.trans ?_⟩
  rw[pO 5 (by simp[cJ])]
  refine congrArg (fun z=>AV.dK [z,i64 0]) ?_
  rw[oS]
  simp only[List.map_cons,List.map_nil]
  rw[dB 4 (by rw[cJ];exact gn _),dB 4 (by rw[cJ];exact gn _),dM (e:=40) (sz:=4) (d:=dg) (es:=(gD u u.bo.length).map br.av) bm hgl,cf _ (lP _)]
  rfl
theorem sJ {P:Program} {f:FuncId} {args:List AV} {n:Int} (h:Pure P f args (fun r=>r= .dK [.agg [.sc (.slice none 0 0), .sc (.slice none 0 0), .sc (.slice none 0 0)],i64 n])):Pure P f args (fun r=>r= .dK [(⟨[],[],[]⟩:bq).av,i64 n]):=by
 refine mw (u:= .dK [.agg [.sc (.slice none 0 0), .sc (.slice none 0 0), .sc (.slice none 0 0)],i64 n]) (h.mono fun r hr=> .inl hr) (by rw[cJ,cL,cL,cL];exact⟨gA _,by simp[cJ],trivial⟩) fun c=> ?_
 refine dD.dk.dK (.cons (dD.dk.agg (.cons ?_ (.cons ?_ (.cons ?_ .nil)))) (.cons (fun _ h=>h) .nil))
 ·exact dD.dk.mV c c 3 .any
 ·exact dD.dk.mV c c 3 .any
 ·exact dD.dk.mV c c 4 .any
theorem BD (u:bq) (hu:u.Wf):Pure Tryz.prog 9 [u.av] (fun r=>r=jX u (dA u)):=by
 unfold jX
 by_cases hr:cX u
 ·rw[if_pos (cR.2 hr)];exact nY u hu hr
 ·rw[if_neg (mt cR.1 hr)];exact sJ (DX u hu hr)
theorem BI (u:bq) (hu:u.Wf) (hr:¬cX u):Pure Tryz.prog 15 [u.av] (fun r=>r= .dK [(⟨[],[],[]⟩:bq).av,i64 60]):=by
 have ho:=BD u hu
 unfold jX at ho
 rw[if_neg (mt cR.1 hr)] at ho
 refine aG zB rfl ?_
 repeat' (first|refine aQ ?_|exact cP|with_reducible refine aB ?_ ?_|((with_reducible refine Ask.mk ?_);first|exact bx|exact bt|(intro h;simp_all[bq.cells]<;>fail)|(simp_all[bq.cells]<;>fail))|(apply aA;(·exact bp))|refine aK (ho) ?_|refine aH ?_|((with_reducible refine aE ?_ ?_)<;>intro hc<;>try(exfalso;omega)))
 refine aV ?_
 repeat' (first|refine aQ ?_|exact cP|with_reducible refine aB ?_ ?_|((with_reducible refine Ask.mk ?_);first|exact bx|exact bt|(intro h;simp_all[bq.cells]<;>fail)|(simp_all[bq.cells]<;>fail))|(apply aA;(·exact bp))|refine aH ?_|((with_reducible refine aE ?_ ?_)<;>intro hc<;>try(exfalso;omega)))
 exact rfl
set_option maxRecDepth 4000 in
set_option maxHeartbeats 4000000 in
theorem pk (u:bq) (hu:u.Wf) (hr:cX u):Pure Tryz.prog 15 [u.av] (fun r=>r= .dK [(gF u).av,i64 0]):=by
 have ho:=nY u hu hr
 have hfit:=fun v=>gA v
 refine aG zB rfl ?_
 repeat' (first|refine aQ ?_|exact cP|with_reducible refine aB ?_ ?_|((with_reducible refine Ask.mk ?_);first|exact bx|exact bt|(intro h;simp_all[bq.cells]<;>fail)|(simp_all[bq.cells]<;>fail))|(apply aA;(·exact bp))|refine aK (ho) ?_|refine aH ?_|((with_reducible refine aE ?_ ?_)<;>intro hc<;>try(exfalso;omega)))
 refine aF (fun v:bq=>[(2, .pt 1 1 0 0),(4, .pt 7 1 0 0),(5,i64 0)])
  (fun v H n=>10<=n/\cX v/\v.Wf/\fO (fW v) v=gF u/\(∃d,bk H 1=some (.row 25 3 d [gw true [.slice none 0 0, .slice none 0 0, .slice none 0 0]]))/\(∃d,bk H 7=some (.row 25 3 d [v.av]))) (fun v=>fW v) (dA u) bu ⟨cI,fF hr,jF hu hr,(nA hr).symm,⟨_,bm⟩,⟨_,bm⟩⟩ ?_
 rintro v H n ⟨hn,hvr,hvw,hsw,⟨d1,r1⟩,⟨d8,r8⟩⟩
 have ho2:=nY v hvw hvr
 have hs:=oM (dA v) v (jF hvw hvr) hvw
 by_cases e:dA v=v
 ·rw[decide_eq_true e] at hs
  rw[lZ hvr e] at hsw
  subst hsw
  repeat' (first|refine aQ ?_|exact cP|with_reducible refine aB ?_ ?_|((with_reducible refine Ask.mk ?_);first|exact bx|exact bt|(intro h;simp_all[bq.cells]<;>fail)|(simp_all[bq.cells]<;>fail))|(apply aA;(·exact bp))|refine aK (ho2) ?_|refine aK (hs) ?_|refine aH ?_|((with_reducible refine aE ?_ ?_)<;>intro hc<;>try(exfalso;omega)))
  exact congrArg (fun z=>AV.dK [AV.agg z,i64 0]) (cf _ (wN 0 _))
 ·rw[decide_eq_false e] at hs
  obtain⟨h1,h2⟩:=sf hvr e
  repeat' (first|refine aQ ?_|exact cP|with_reducible refine aB ?_ ?_|((with_reducible refine Ask.mk ?_);first|exact bx|exact bt|(intro h;simp_all[bq.cells]<;>fail)|(simp_all[bq.cells]<;>fail))|(apply aA;(·exact bp))|refine aK (ho2) ?_|refine aK (hs) ?_|refine aH ?_|((with_reducible refine aE ?_ ?_)<;>intro hc<;>try(exfalso;omega)))
  exact⟨dA v,h2,bu,by omega,fF hvr,jF hvw hvr,h1.symm.trans hsw,⟨_,bm⟩,⟨_,bm⟩⟩
theorem yT (u:bq) (hu:u.Wf):Pure Tryz.prog 15 [u.av] (fun r=>r=jX u (gF u)):=by
 unfold jX
 by_cases hr:cX u
 ·rw[if_pos (cR.2 hr)];exact pk u hu hr
 ·rw[if_neg (mt cR.1 hr)];exact BI u hu hr
abbrev iM (x:Nat) (g:br):AV:= .agg [st g.name,i64 g.locals,i64 g.cZ, .sl x g.nodes.length]
def fQ (ids:List Nat) (gs:List br):List AV:=List.zipWith iM ids gs
abbrev nV (sh lk gr:Nat) (u:bq):AV:= .agg [.sl sh u.shared.length, .sl lk u.bz.length, .sl gr u.bo.length]
theorem gV {ids:List Nat} {gs:List br} (h:ids.length=gs.length):(fQ ids gs).length=gs.length:=by simp[fQ,h]
theorem kj {ids:List Nat} {gs:List br} (h:ids.length=gs.length) {t:Nat} (ht:t<gs.length) (d:AV):(fQ ids gs).getD t d=iM (ids.getD t 0) (gs.getD t default):=by
 have h1:t<(fQ ids gs).length:=by rw[gV h];exact ht
 rw[gd h1,gd (by omega),gd ht]
 simp[fQ]
theorem wU {ids:List Nat} {gs:List br} (h:ids.length=gs.length) (x:Nat) (g:br):fQ (ids++[x]) (gs++[g])=fQ ids gs++[iM x g]:=by
 unfold fQ
 rw[List.zipWith_append h];rfl
structure qe (sh lk gr:Nat) (ids:List Nat) (u:bq) (H:Hp):Prop where
 nodup:(sh::lk::gr::ids).Nodup
 len:ids.length=u.bo.length
 sh:∃d,bk H sh=some (.row 48 3 d (u.shared.map Decl.av))
 lk:∃d,bk H lk=some (.row 48 3 d (u.bz.map Decl.av))
 gr:∃d,bk H gr=some (.row 40 4 d (fQ ids u.bo))
 LM:∀t,t<u.bo.length->∃d,bk H (ids.getD t 0)=some (.row 46 13 d ((u.gr t).nodes.map Node.av))
theorem qe.cH {sh lk gr:Nat} {ids:List Nat} {u:bq} {H H':Hp} (h:qe sh lk gr ids u H) (hk:∀x∈sh::lk::gr::ids,bk H' x=bk H x):qe sh lk gr ids u H':=by
 refine⟨h.nodup,h.len, ?_, ?_, ?_,fun t ht=> ?_⟩
 ·rw[hk sh (by simp)];exact h.sh
 ·rw[hk lk (by simp)];exact h.lk
 ·rw[hk gr (by simp)];exact h.gr
 ·rw[hk _ (List.mem_cons_of_mem _ (List.mem_cons_of_mem _ (List.mem_cons_of_mem _ (dP (by rw[h.len];exact ht)))))];exact h.LM t ht
theorem qe.de {sh lk gr:Nat} {ids:List Nat} {u:bq} {H:Hp} (h:qe sh lk gr ids u H) (k:Nat):dD.de H (k+4) (nV sh lk gr u)=u.av:=by
 obtain⟨d1,h1⟩:=h.sh
 obtain⟨d2,h2⟩:=h.lk
 obtain⟨d3,h3⟩:=h.gr
 rw[oS]
 simp only[List.map_cons,List.map_nil]
 rw[dM h1 (by simp),dM h2 (by simp),dM h3 (gV h.len),cf _ (gn _),cf _ (gn _)]
 have:(fQ ids u.bo).map (dD.de H (k+2))=u.bo.map br.av:=by
  apply List.ext_getElem (by simp[fQ,h.len])
  intro t q1 q2
  have ht:t<u.bo.length:=by simpa using q2
  obtain⟨d,hd⟩:=h.LM t ht
  have e1:(fQ ids u.bo)[t]'(by simpa using q1)=iM (ids.getD t 0) (u.gr t):=by rw[<-kj h.len ht .any,gd]
  rw[List.getElem_map,e1,List.getElem_map,oS]
  simp only[List.map_cons,List.map_nil]
  rw[dB _ (by simp[cJ]),dB _ (by simp[cJ]),dB _ (by simp[cJ]),dM hd (by simp),cf _ (mj _)]
  have:u.gr t=u.bo[t]:=by simp[bq.gr,List.getD,ht]
  rw[this];rfl
 rw[this];rfl
set_option maxRecDepth 4000 in
theorem y5 (g:br) (hg:g.Wf) (h96:g.nodes.length * 96<=140737488351232):cM Tryz.prog 35 [g.av] [] 0 (fun r H n=>∃b d,r= .agg ([st g.name,i64 g.locals,i64 g.cZ]++[.sl b (g.nodes.map Node.av).length])/\bk H b=some (.row 46 13 d (g.nodes.map Node.av))):=by
 have hl:=hg.len
 refine aI F8 rfl ?_
 repeat' (first|refine aQ ?_|exact cP|with_reducible refine aB ?_ ?_|((with_reducible refine Ask.mk ?_);first|exact bx|(refine jU (m:=g.nodes.length) (by simp) ?_;omega)|(simp only[List.length_map];omega)|exact bt|(intro h;simp_all[br.cells]<;>fail)|(simp_all[br.cells]<;>fail))|(apply aA;(·exact bp))|refine aH ?_|((with_reducible refine aE ?_ ?_)<;>intro hc<;>try(exfalso;omega)))
 exact⟨⟨2,_,by simp[br.cells],bm⟩⟩
set_option maxRecDepth 4000 in
set_option maxHeartbeats 4000000 in
theorem BT (u:bq) (hu:u.Wf) (h96:∀g∈u.bo,g.nodes.length * 96<=140737488351232) (H0:Hp) (nx:Nat):cM Tryz.prog 14 [u.av] H0 nx (fun r H n=>∃sh lk gr ids,r=nV sh lk gr u/\qe sh lk gr ids u H/\(∀x∈sh::lk::gr::ids,nx<=x/\x<n)/\nx<=n/\∀y,y<nx->bk H y=bk H0 y):=by
 have hs:=hu.gJ
 have hk:=hu.gz
 have hgl:=hu.gp
 refine aI FV rfl ?_
 repeat' (first|refine aQ ?_|exact cP|with_reducible refine aB ?_ ?_|((with_reducible refine Ask.mk ?_);first|exact bx|(refine jU rfl ?_;simp only[List.length_map];omega)|exact bt|(intro h;simp_all[bq.cells]<;>fail)|(simp_all[bq.cells]<;>fail))|(apply aA;(·exact bp))|refine aH ?_|((with_reducible refine aE ?_ ?_)<;>intro hc<;>try(exfalso;omega)))
 have z1:0+(u.shared.map Decl.av).length=u.shared.length:=by simp
 have z2:0+(u.bz.map Decl.av).length=u.bz.length:=by simp
 try rw[z1]
 try rw[z2]
 refine aP (fun σ:Nat×List Nat=>[(1, .pt nx 1 0 0),(2, .pt (nx+1) 1 0 0),(3, .pt (nx+11) 1 0 0),(4,i64 σ.1)])
  (fun σ H n=>σ.1<=u.bo.length/\nx+15<=n/\σ.2.length=σ.1/\σ.2.Nodup/\(∀x∈σ.2,nx+15<=x/\x<n)/\(∃d,bk H nx=some (.row 25 3 d [u.av]))/\(∃d,bk H (nx+1)=some (.row 25 3 d [gw true [.slice none 0 0, .slice none 0 0, .slice none 0 0]]))/\(∃d,bk H (nx+11)=some (.row 25 3 d [.agg [.sl (nx+2) u.shared.length, .sl (nx+6) u.bz.length, .sl (nx+14) σ.1]]))/\(∃d,bk H (nx+2)=some (.row 48 3 d (u.shared.map Decl.av)))/\(∃d,bk H (nx+6)=some (.row 48 3 d (u.bz.map Decl.av)))/\(∃d,bk H (nx+14)=some (.row 40 4 d (fQ σ.2 (u.bo.take σ.1))))/\(∀t,t<σ.1->∃d,bk H (σ.2.getD t 0)=some (.row 46 13 d ((u.gr t).nodes.map Node.av)))/\∀y,y<nx->bk H y=bk H0 y) (fun σ=>u.bo.length - σ.1) (0,[])
  ⟨_,_,_,Rt.wk (Wk.oc (b:=nx+11) (e:=40) (sz:=4) (by simp only[List.length_cons,List.length_nil];omega) (by omega) (te:=25) (tz:=3) (cs:=[.sl (nx+2) u.shared.length, .sl (nx+6) u.bz.length, .sc (.slice none 0 0)]) (j:=2) bm (by show 2<3;omega) rfl),bu,Nat.zero_le _,cI,rfl,List.nodup_nil,fun x hx=>by simp at hx,⟨_,bm⟩,⟨_,bm⟩,⟨_,bm⟩,⟨_,bm⟩,⟨_,bm⟩,⟨_,bm⟩,fun t ht=>absurd ht (Nat.not_lt_zero _),fun y hy=>bw⟩ ?_
 rintro⟨t,ids⟩ H n ⟨ht,hn,hil,hnd,hin,⟨d0,r0⟩,⟨d1,r1⟩,⟨d11,r11⟩,⟨d2,r2⟩,⟨d6,r6⟩,⟨d14,r14⟩,hnds,hkp⟩
 dsimp only at ht hil hnd hin r11 r14 hnds ⊢
 have htk:(u.bo.take t).length=t:=by rw[List.length_take];omega
 have hgl:(fQ ids (u.bo.take t)).length=t:=by rw[gV (by rw[hil,htk]),htk]
 by_cases htl:t<u.bo.length
 ·have eg:=fun d=>j3 (l:=u.bo) htl d
  have hgm:=cE (default:br) htl
  have hcg:=y5 (u.bo.getD t default) (hu.bo _ hgm) (h96 _ hgm)
  have hnx:fQ (ids++[n+12]) (u.bo.take (t+1))=fQ ids (u.bo.take t)++[iM (n+12) (u.bo.getD t default)]:=by
   rw[List.take_succ_eq_append_getElem htl,wU (by rw[hil,htk]),show u.bo.getD t default=u.bo[t] by simp[List.getD,htl]]
  have hgr:u.gr t=u.bo.getD t default:=rfl
  generalize u.bo.getD t default=g at *
  have hfz:∀H1:Hp,[g.av].map (dD.de H1 6)=[g.av]:=fun H1=>by rw[List.map_cons,List.map_nil,dB 6 (kG g)]
  have hft:cL 0 [g.av]:=⟨kG g,trivial⟩
  have hflat:∀i,i<(g.nodes.map Node.av).length->gL ((g.nodes.map Node.av).getD i .any):=fun i hi=>by
   rw[dG Node.av _ _ _ (by simpa using hi)]
   simp[gL,nN,Node.cells]
  repeat' (first|refine aQ ?_|exact cP|with_reducible refine aB ?_ ?_|((with_reducible refine Ask.mk ?_);first|exact bx|(exact hgl)|(refine jU rfl ?_;simp only[List.length_map];omega)|exact bt|(intro h;simp_all[bq.cells]<;>fail)|(simp_all[bq.cells]<;>fail))|(apply aA;(·(first|exact eg _|exact bp)))|(refine aY [] .any (cs:=[st g.name,i64 g.locals,i64 g.cZ]) trivial hcg hflat (fun H1 _=>hfz H1) hft ?_)|refine aH ?_|((with_reducible refine aE ?_ ?_)<;>intro hc<;>try(exfalso;omega)))
  refine⟨(t+1,ids++[n+12]),by dsimp only;omega,_,_,_,Rt.refl _ _ _,bu,by dsimp only;omega,by omega,by simp[hil], ?_, ?_,⟨_,bm⟩,⟨_,bm⟩,⟨_,bm⟩,⟨_,bm⟩,⟨_,bm⟩,⟨_,by dsimp only;rw[hnx,List.length_map];exact bm⟩, ?_,fun y hy=>Eq.trans bw (hkp y hy)⟩
  ·refine List.nodup_append.2 ⟨hnd,by simp,fun a ha b hb=> ?_⟩
   simp only[List.mem_cons,List.not_mem_nil,or_false] at hb
   have:=hin _ ha;omega
  ·intro x hx
   rcases List.mem_append.1 hx with hx|hx
   ·have:=hin _ hx;exact⟨this.1,Nat.lt_of_lt_of_le this.2 cI⟩
   ·simp only[List.mem_cons,List.not_mem_nil,or_false] at hx
    subst hx;exact⟨by omega,cI⟩
  ·intro q hq
   have hq:q<t+1:=hq
   by_cases e:q=t
   ·subst e
    have e2:(ids++[n+12]).getD q 0=n+12:=by rw[List.getD,List.getElem?_append_right (by omega),hil,Nat.sub_self];rfl
    dsimp only
    rw[e2,hgr];exact⟨_,bm⟩
   ·obtain⟨d,hd⟩:=hnds q (by omega)
    have e2:(ids++[n+12]).getD q 0=ids.getD q 0:=by simp[List.getD,List.getElem?_append,show q<ids.length by omega]
    have:=hin _ (dP (l:=ids) (q:=q) (by omega))
    dsimp only
    rw[e2];exact⟨d,Eq.trans bw hd⟩
 ·have:t=u.bo.length:=by omega
  subst this
  rw[List.take_length] at r14
  repeat' (first|refine aQ ?_|exact cP|with_reducible refine aB ?_ ?_|((with_reducible refine Ask.mk ?_);first|exact bx|exact bt|(intro h;simp_all[bq.cells]<;>fail)|(simp_all[bq.cells]<;>fail))|(apply aA;(·exact bp))|refine aH ?_|((with_reducible refine aE ?_ ?_)<;>intro hc<;>try(exfalso;omega)))
  refine⟨⟨nx+2,nx+6,nx+14,ids,rfl,⟨?_,hil,⟨_,bm⟩,⟨_,bm⟩,⟨_,bm⟩,fun t ht=> ?_⟩, ?_,cI,fun y hy=>Eq.trans bw (hkp y hy)⟩⟩
  ·refine List.nodup_cons.2 ⟨?_,List.nodup_cons.2 ⟨?_,List.nodup_cons.2 ⟨fun h=> ?_,hnd⟩⟩⟩
   ·simp only[List.mem_cons,not_or]
    exact⟨by omega,by omega,fun h=>by have:=hin _ h;omega⟩
   ·simp only[List.mem_cons,not_or]
    exact⟨by omega,fun h=>by have:=hin _ h;omega⟩
   ·have:=hin _ h;omega
  ·obtain⟨d,hd⟩:=hnds t ht
   have:=hin _ (dP (l:=ids) (q:=t) (by omega))
   exact⟨d,Eq.trans bw hd⟩
  ·intro x hx
   simp only[List.mem_cons] at hx
   rcases hx with rfl|rfl|rfl|hx
   ·exact⟨by omega,by omega⟩
   ·exact⟨by omega,by omega⟩
   ·exact⟨by omega,by omega⟩
   ·have:=hin _ hx;exact⟨by omega,by omega⟩
def u9 (S:List Nat) (H:Hp):Hp:=H.filter fun q=>decide (q.1∈S)
theorem jg {S:List Nat} {b:Nat} (hb:b∈S):∀H:Hp,bk (u9 S H) b=bk H b
 |[]=>rfl
 |(d,v)::H=>by
  unfold u9
  by_cases hd:d∈S
  ·rw[List.filter_cons_of_pos (by simpa using hd)]
   by_cases e:b=d
   ·subst e;rw[ch,ch]
   ·rw[cQ e,cQ e];exact jg hb H
  ·rw[List.filter_cons_of_neg (by simpa using hd),cQ (fun e=>hd (by rw[<-e];exact hb))]
   exact jg hb H
theorem ql {G:Hp} {k:Nat} {cs:List AV}:dD.qZ G (k+1) (.agg cs)= .agg (cs.map (dD.qZ G k)):=rfl
theorem FI (G:Hp) (k:Nat) (n:Node):dD.qZ G k n.av=n.av:=by
 cases k with
 |zero=>rfl
 |succ k=>rw[ql];simp only[Node.cells,List.map_cons,List.map_nil,rv];rfl
theorem FH (G:Hp) (k:Nat) (n:Decl):dD.qZ G k n.av=n.av:=by
 cases k with
 |zero=>rfl
 |succ k=>rw[ql];simp only[Decl.cells,List.map_cons,List.map_nil,rv];rfl
theorem qe.qZ {sh lk gr:Nat} {ids:List Nat} {u:bq} {H:Hp} (h:qe sh lk gr ids u H) (k:Nat):dD.qZ (u9 (sh::lk::gr::ids) H) (k+4) (nV sh lk gr u)=u.av:=by
 obtain⟨d1,h1⟩:=h.sh
 obtain⟨d2,h2⟩:=h.lk
 obtain⟨d3,h3⟩:=h.gr
 have g1:=(jg (S:=sh::lk::gr::ids) (b:=sh) (by simp) H).trans h1
 have g2:=(jg (S:=sh::lk::gr::ids) (b:=lk) (by simp) H).trans h2
 have g3:=(jg (S:=sh::lk::gr::ids) (b:=gr) (by simp) H).trans h3
 rw[ql]
 simp only[List.map_cons,List.map_nil]
 rw[pU g1 (by simp),pU g2 (by simp),pU g3 (gV h.len)]
 have e1:∀(l:List Decl) k,(l.map Decl.av).map (dD.qZ (u9 (sh::lk::gr::ids) H) k)=l.map Decl.av:=fun l k=>by rw[List.map_map];exact List.map_congr_left fun d _=>FH _ _ d
 have e2:∀(l:List Node) k,(l.map Node.av).map (dD.qZ (u9 (sh::lk::gr::ids) H) k)=l.map Node.av:=fun l k=>by rw[List.map_map];exact List.map_congr_left fun d _=>FI _ _ d
 rw[e1,e1]
 have:(fQ ids u.bo).map (dD.qZ (u9 (sh::lk::gr::ids) H) (k+2))=u.bo.map br.av:=by
  apply List.ext_getElem (by simp[fQ,h.len])
  intro t q1 q2
  have ht:t<u.bo.length:=by simpa using q2
  obtain⟨d,hd⟩:=h.LM t ht
  have g4:=(jg (S:=sh::lk::gr::ids) (b:=ids.getD t 0) (List.mem_cons_of_mem _ (List.mem_cons_of_mem _ (List.mem_cons_of_mem _ (dP (by rw[h.len];exact ht))))) H).trans hd
  have e1:(fQ ids u.bo)[t]'(by simpa using q1)=iM (ids.getD t 0) (u.gr t):=by rw[<-kj h.len ht .any,gd]
  rw[List.getElem_map,e1,List.getElem_map,ql]
  simp only[List.map_cons,List.map_nil]
  rw[rv,rv,rv,pU g4 (by simp),e2]
  have:u.gr t=u.bo[t]:=by simp[bq.gr,List.getD,ht]
  rw[this];rfl
 rw[this];rfl
theorem ER {ids:List Nat} {gs:List br} (h:ids.length=gs.length) {t:Nat} (ht:t<gs.length) (g:br):fQ ids (gs.set t g)=(fQ ids gs).set t (iM (ids.getD t 0) g):=by
 unfold fQ
 apply List.ext_getElem (by simp)
 intro j h1 h2
 have hj:j<gs.length:=by simp at h1;omega
 have hji:j<ids.length:=by omega
 simp only[List.getElem_zipWith,List.getElem_set]
 by_cases e:t=j
 ·subst e
  rw[if_pos rfl,if_pos rfl,gd hji]
 ·rw[if_neg e,if_neg e]
theorem qe.inj {sh lk gr:Nat} {ids:List Nat} {u:bq} {H:Hp} (h:qe sh lk gr ids u H) {q t:Nat} (hq:q<u.bo.length) (ht:t<u.bo.length) (hne:q≠t):ids.getD q 0≠ids.getD t 0:=by
 have hn:=h.nodup
 simp only[List.nodup_cons] at hn
 intro e
 exact hne (p8 hn.2.2.2 (by rw[h.len];exact hq) (by rw[h.len];exact ht) e)
theorem qe.ne {sh lk gr:Nat} {ids:List Nat} {u:bq} {H:Hp} (h:qe sh lk gr ids u H) {t:Nat} (ht:t<u.bo.length):sh≠lk/\sh≠gr/\lk≠gr/\sh≠ids.getD t 0/\lk≠ids.getD t 0/\gr≠ids.getD t 0:=by
 have hn:=h.nodup
 have hm:=dP (l:=ids) (q:=t) (by rw[h.len];exact ht)
 simp only[List.nodup_cons,List.mem_cons,not_or] at hn
 obtain⟨⟨a1,a2,a3⟩,⟨b1,b2⟩,c1,_⟩:=hn
 exact⟨a1,a2,b1,fun e=>a3 (e▸hm),fun e=>b2 (e▸hm),fun e=>c1 (e▸hm)⟩
abbrev bq.put (u:bq) (t:Nat) (ns:List Node):bq:={ u with bo:=u.bo.set t { u.gr t with nodes:=ns } }
theorem A3 (u:bq) (t:Nat) (ns:List Node):(u.put t ns).bo.length=u.bo.length:=by simp
theorem zZ {u:bq} {t:Nat} (ht:t<u.bo.length) (ns:List Node) (q:Nat):(u.put t ns).gr q=if t=q then { u.gr t with nodes:=ns } else u.gr q:=by
 show(u.bo.set t _).getD q default=_
 rw[cw]
 by_cases e:t=q
 ·rw[if_pos ⟨e,ht⟩,if_pos e]
 ·rw[if_neg (fun x=>e x.1),if_neg e]
theorem qe.put {sh lk gr:Nat} {ids:List Nat} {u:bq} {H H':Hp} (h:qe sh lk gr ids u H) {t:Nat} (ht:t<u.bo.length) (ns:List Node)
 (h1:∀x∈sh::lk::gr::ids,x≠ids.getD t 0->x≠gr->bk H' x=bk H x)
 (h2:∃d,bk H' (ids.getD t 0)=some (.row 46 13 d (ns.map Node.av)))
 (h3:∃d,bk H' gr=some (.row 40 4 d ((fQ ids u.bo).set t (iM (ids.getD t 0) { u.gr t with nodes:=ns })))):qe sh lk gr ids (u.put t ns) H':=by
 obtain⟨n1,n2,n3,n4,n5,n6⟩:=h.ne ht
 refine⟨h.nodup,by rw[h.len];simp, ?_, ?_, ?_,fun q hq=> ?_⟩
 ·rw[h1 sh (by simp) n4 n2];exact h.sh
 ·rw[h1 lk (by simp) n5 n3];exact h.lk
 ·obtain⟨d,h3⟩:=h3
  exact⟨d,by rw[ER h.len ht];exact h3⟩
 ·rw[A3] at hq
  rw[zZ ht]
  by_cases e:t=q
  ·subst e;rw[if_pos rfl];exact h2
  ·rw[if_neg e,h1 _ (List.mem_cons_of_mem _ (List.mem_cons_of_mem _ (List.mem_cons_of_mem _ (dP (by rw[h.len];exact hq))))) (h.inj hq ht (fun x=>e x.symm)) (fun x=>(h.ne hq).2.2.2.2.2 x.symm)]
   exact h.LM q hq
theorem B2 {ids:List Nat} {gs:List br} (h:ids.length=gs.length) {t:Nat} (ht:t<gs.length) (ns:List Node) (hl:ns.length=(gs.getD t default).nodes.length):(fQ ids gs).set t (iM (ids.getD t 0) { gs.getD t default with nodes:=ns })=fQ ids gs:=by
 have e:iM (ids.getD t 0) { gs.getD t default with nodes:=ns }=iM (ids.getD t 0) (gs.getD t default):=by
  unfold iM
  dsimp only
  rw[hl]
 have h1:t<(fQ ids gs).length:=by rw[gV h];exact ht
 rw[e,<-kj h ht .any,gd h1]
 exact List.set_getElem_self h1
theorem qe.shared {sh lk gr:Nat} {ids:List Nat} {u:bq} {H H':Hp} (h:qe sh lk gr ids u H) (ds:List Decl)
 (h1:∀x∈sh::lk::gr::ids,x≠sh->bk H' x=bk H x)
 (h2:∃d,bk H' sh=some (.row 48 3 d (ds.map Decl.av))):qe sh lk gr ids { u with shared:=ds } H':=by
 have hn:=h.nodup
 simp only[List.nodup_cons,List.mem_cons,not_or] at hn
 obtain⟨⟨a1,a2,a3⟩,_,_,_⟩:=hn
 refine⟨h.nodup,h.len,h2, ?_, ?_,fun t ht=> ?_⟩
 ·rw[h1 lk (by simp) (fun e=>a1 e.symm)];exact h.lk
 ·rw[h1 gr (by simp) (fun e=>a2 e.symm)];exact h.gr
 ·have hm:=dP (l:=ids) (q:=t) (by rw[h.len];exact ht)
  rw[h1 _ (List.mem_cons_of_mem _ (List.mem_cons_of_mem _ (List.mem_cons_of_mem _ hm))) (fun e=>a3 (e▸hm))]
  exact h.LM t ht
def rA (v:bq) (H0:Hp) (nx:Nat) (r:AV) (H:Hp) (n:Nat):Prop:=∃sh lk gr ids,r= .dK [nV sh lk gr v,i64 0]/\qe sh lk gr ids v H/\(∀x∈sh::lk::gr::ids,nx<=x/\x<n)/\nx<=n/\∀y,y<nx->bk H y=bk H0 y
theorem PM {l:List Decl} (hl:l.length * 32<=140737488351232):cM Tryz.prog 28 [dN l] [] 0 (fun r1 H1 _=>∃b d0,r1= .sl b (l.map Decl.av).length/\bk H1 b=some (.row 48 3 d0 (l.map Decl.av))):=tm (by rw[List.length_map];omega)
theorem rV (l:List Decl):∀i,i<(l.map Decl.av).length->gL ((l.map Decl.av).getD i .any):=fun i hi=>by
 rw[dG Decl.av _ _ _ (by simpa using hi)]
 simp[gL,nN,Decl.cells]
theorem ye (l:List Node):∀i,i<(l.map Node.av).length->gL ((l.map Node.av).getD i .any):=fun i hi=>by
 rw[dG Node.av _ _ _ (by simpa using hi)]
 simp[gL,nN,Node.cells]
set_option maxRecDepth 4000 in
set_option maxHeartbeats 4000000 in
theorem tS (u:bq) (hu:u.Wf) (hr:cX u) (H0:Hp) (nx:Nat):cM Tryz.prog 9 [u.av] H0 nx (rA (dA u) H0 nx):=by
 have c0:=lJ u hu
 rw[iu.2 hr] at c0
 have hfew:=hr.wI
 have hsl:=hu.gJ
 have hkl:=hu.gz
 refine aI MO rfl ?_
 refine gG ?_
 refine aX [] .any (PM hsl) (rV _) (fun H1 _=>by rw[List.map_cons,List.map_nil,dB 6 (by simp[cJ,cK])]) (by simp[cJ,cL,cK]) ?_
 refine gG ?_
 refine aX [] .any (PM hkl) (rV _) (fun H1 _=>by rw[List.map_cons,List.map_nil,dB 6 (by simp[cJ,cK])]) (by simp[cJ,cL,cK]) ?_
 refine gG ?_
 simp only[List.length_map]
 have hzero:fQ [] (gD u 0)=[]:=rfl
 refine aP (fun σ:Nat×List Nat=>[(1, .pt nx 1 0 0),(2, .pt (nx+1) 1 0 0),(7, .pt (nx+20) 1 0 0),(30,i64 u.bo.length),(31,i64 σ.1)])
  (fun σ H n=>σ.1<=u.bo.length/\nx+27<=n/\σ.2.length=σ.1/\σ.2.Nodup/\(∀x∈σ.2,nx+27<=x/\x<n)/\(∃d,bk H nx=some (.row 25 3 d [u.av]))/\(∃d,bk H (nx+1)=some (.row 25 3 d [gw true [.slice none 0 0, .slice none 0 0, .slice none 0 0]]))/\(∃d,bk H (nx+20)=some (.row 25 3 d [.agg [.sl (nx+15) u.shared.length, .sl (nx+18) u.bz.length, .sl (nx+26) σ.1]]))/\(∃d,bk H (nx+15)=some (.row 48 3 d (u.shared.map Decl.av)))/\(∃d,bk H (nx+18)=some (.row 48 3 d (u.bz.map Decl.av)))/\(∃d,bk H (nx+26)=some (.row 40 4 d (fQ σ.2 (gD u σ.1))))/\(∀t,t<σ.1->∃d,bk H (σ.2.getD t 0)=some (.row 46 13 d ((fj (u.gr t) (ck u) t).nodes.map Node.av)))/\∀y,y<nx->bk H y=bk H0 y) (fun σ=>u.bo.length - σ.1) (0,[])
  ⟨_,_,_,Rt.wk (Wk.oc (b:=nx+20) (e:=40) (sz:=4) (by simp only[List.length_cons,List.length_nil];omega) (by omega) (te:=25) (tz:=3) (cs:=[.sl (nx+15) u.shared.length, .sl (nx+18) u.bz.length, .sc (.slice none 0 0)]) (j:=2) bm (by show 2<3;omega) rfl),bu,Nat.zero_le _,cI,rfl,List.nodup_nil,fun x hx=>by simp at hx,⟨_,bm⟩,⟨_,bm⟩,⟨_,bm⟩,⟨_,bm⟩,⟨_,bm⟩,⟨_,bm⟩,fun t ht=>absurd ht (Nat.not_lt_zero _),fun y hy=>bw⟩ ?_
 rintro⟨t,ids⟩ H n ⟨ht,hn,hil,hnd,hin,⟨d0,r0⟩,⟨d1,r1⟩,⟨d20,r20⟩,⟨d15,r15⟩,⟨d18,r18⟩,⟨d26,r26⟩,hnds,hkp⟩
 dsimp only at ht hil hnd hin r20 r26 hnds ⊢
 have htk:(gD u t).length=t:=iA u t
 have a0:(fQ ids (gD u t)).length=t:=by rw[gV (by rw[hil,htk]),htk]
 by_cases htl:t<u.bo.length
 ·clear c0
  have c0:=mF u hu hr t htl
  have hcg:cM Tryz.prog 29 [eG (u.gr t) t (ck u)] [] 0 (fun r1 H1 _=>∃b d0,r1= .agg ([st (u.gr t).name,i64 (u.gr t).locals,i64 (u.gr t).cZ]++[.sl b ((fj (u.gr t) (ck u) t).nodes.map Node.av).length])/\bk H1 b=some (.row 46 13 d0 ((fj (u.gr t) (ck u) t).nodes.map Node.av))):=
   (uZ u (u.gr t) (hu.bo _ (cE default htl)) (hr.gr htl) t (ck u) (gm u) (by rw[gm];omega) [] 0).mono fun r H1 n1 ⟨b,d,h1,_,_,h2,_⟩=>⟨b,d,by rw[h1,List.length_map];rfl,h2⟩
  have hnx:fQ (ids++[n+13]) (gD u (t+1))=fQ ids (gD u t)++[iM (n+13) (fj (u.gr t) (ck u) t)]:=by
   rw[mX,wU (by rw[hil,htk])]
  refine gG ?_
  refine aY [] .any (cs:=[st (u.gr t).name,i64 (u.gr t).locals,i64 (u.gr t).cZ]) trivial hcg (ye _) (fun H1 _=>by rw[List.map_cons,List.map_nil,B1]) (by rw[cL,cL];exact⟨uB _ _ _,trivial⟩) ?_
  refine gG ?_
  refine⟨(t+1,ids++[n+13]),by dsimp only;omega,_,_,_,Rt.refl _ _ _,bu,by dsimp only;omega,by omega,by simp[hil], ?_, ?_,⟨_,bm⟩,⟨_,bm⟩,⟨_,bm⟩,⟨_,bm⟩,⟨_,bm⟩,⟨_,by dsimp only;rw[hnx,List.length_map];exact bm⟩, ?_,fun y hy=>Eq.trans bw (hkp y hy)⟩
  ·refine List.nodup_append.2 ⟨hnd,by simp,fun a ha b hb=> ?_⟩
   simp only[List.mem_cons,List.not_mem_nil,or_false] at hb
   have:=hin _ ha;omega
  ·intro x hx
   rcases List.mem_append.1 hx with hx|hx
   ·have:=hin _ hx;exact⟨this.1,Nat.lt_of_lt_of_le this.2 cI⟩
   ·simp only[List.mem_cons,List.not_mem_nil,or_false] at hx
    subst hx;exact⟨by omega,cI⟩
  ·intro q hq
   have hq:q<t+1:=hq
   by_cases e:q=t
   ·subst e
    have e2:(ids++[n+13]).getD q 0=n+13:=by rw[List.getD,List.getElem?_append_right (by omega),hil,Nat.sub_self];rfl
    dsimp only
    rw[e2];exact⟨_,bm⟩
   ·obtain⟨d,hd⟩:=hnds q (by omega)
    have e2:(ids++[n+13]).getD q 0=ids.getD q 0:=by simp[List.getD,List.getElem?_append,show q<ids.length by omega]
    have:=hin _ (dP (l:=ids) (q:=q) (by omega))
    dsimp only
    rw[e2];exact⟨d,Eq.trans bw hd⟩
 ·have:t=u.bo.length:=by omega
  subst this
  refine gG ?_
  refine⟨nx+15,nx+18,nx+26,ids,by show _=AV.dK [.agg [.sl (nx+15) u.shared.length, .sl (nx+18) u.bz.length, .sl (nx+26) (dA u).bo.length],i64 0];rw[fm],⟨?_,hil.trans (fm u).symm,⟨_,bm⟩,⟨_,bm⟩,⟨_,bm⟩,fun t ht=> ?_⟩, ?_,cI,fun y hy=>Eq.trans bw (hkp y hy)⟩
  ·refine List.nodup_cons.2 ⟨?_,List.nodup_cons.2 ⟨?_,List.nodup_cons.2 ⟨fun h=> ?_,hnd⟩⟩⟩
   ·simp only[List.mem_cons,not_or]
    exact⟨by omega,by omega,fun h=>by have:=hin _ h;omega⟩
   ·simp only[List.mem_cons,not_or]
    exact⟨by omega,fun h=>by have:=hin _ h;omega⟩
   ·have:=hin _ h;omega
  ·rw[fm] at ht
   obtain⟨d,hd⟩:=hnds t ht
   have:=hin _ (dP (l:=ids) (q:=t) (by omega))
   rw[jq ht]
   exact⟨d,Eq.trans bw hd⟩
  ·intro x hx
   simp only[List.mem_cons] at hx
   rcases hx with rfl|rfl|rfl|hx
   ·exact⟨by omega,cI⟩
   ·exact⟨by omega,cI⟩
   ·exact⟨by omega,cI⟩
   ·have:=hin _ hx;exact⟨by omega,Nat.lt_of_lt_of_le this.2 cI⟩
end Go.Proofs.YtmonponfppdgfaaGreatDoor
