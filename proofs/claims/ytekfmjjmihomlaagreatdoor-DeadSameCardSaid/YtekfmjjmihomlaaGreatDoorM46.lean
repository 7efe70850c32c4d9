import Derived.Test.YtekfmjjmihomlaaGreatDoorM32
import Derived.Test.YtekfmjjmihomlaaGreatDoorM34
import Derived.Test.YtekfmjjmihomlaaGreatDoorM45
import Derived.Test.YtekfmjjmihomlaaGreatDoorM44
namespace Go.Proofs.YtekfmjjmihomlaaGreatDoor
open Go Go.cw Go.Proofs
set_option linter.unusedSimpArgs false
set_option linter.unusedVariables false
abbrev sP (l:List Nat):List AV:=l.map fun(i:Nat)=>i64 (i:Int)
theorem PH (l:List Nat) (k:Nat):sP l++[i64 (k:Int)]=sP (l++[k]):=by simp[sP]
theorem PG {l:List Nat} {i:Nat} (h:i<l.length) (d:AV):(sP l).getD ((i:Int)).toNat d=i64 (l.getD i 0:Nat):=by
 rw[Int.toNat_natCast];exact dN (fun(i:Nat)=>i64 (i:Int)) l i d h
noncomputable def D8:AV:= .agg [.sc (.string ⟨#[]⟩),i64 0,i64 0, .sc (.slice none 0 0)]
set_option maxRecDepth 4000 in
set_option maxHeartbeats 8000000 in
theorem JW (u:bq) (g:bu) (hg:g.Wf) (hk:eJ u g) (t:Nat) (cls:List cY) (hcl:cls.length=u.shared.length) (hcl64:cls.length<=64) (H:Hp) (nx:Nat):
 cQ Tryz.prog 27 [ej g t cls] H nx (fun r H2 n2=>∃b d,r= .agg [st g.name,i64 g.locals,i64 g.bw, .sl b (iE g cls t).nodes.length]/\nx<=b/\b<n2/\bo H2 b=some (.row 51 13 d ((iE g cls t).nodes.map Node.av))/\∀y,y<nx->bo H2 y=bo H y):=by
 have hl:=hg.len
 have hw:=hk.whole
 have hk0:=hk
 have hl0:=hw.1
 have hl1:=hw.2.1
 have hil:=qq g cls t
 have hends:Ends (fG g cls t) g:=vy _ _
 have hinx:∀j,tf (fG g cls t) j=true->0<=(g.nd j).next/\(g.nd j).next<(fG g cls t).length:=fun j hj=>by
  rw[hil];exact wy hk (fT.1 hj).1
 have hh0:eR (fG g cls t) g 0<g.nodes.length:=uD hends (P:=fun i=>i<g.nodes.length) (fun i hi _=>by have:=hinx i hi;rw[hil] at this;show(g.nd i).next.toNat<_;omega) (by omega)
 unfold iE
 have hhc:=fun b H nx d hb hbn=>DT g hg t cls (fG g cls t) hil (by omega) hends hinx b H nx d hb hbn
 simp only[hil] at hhc
 generalize hid:fG g cls t=out at *
 refine aJ NU rfl ?_
 repeat' (first|refine aQ ?_|exact dR|with_reducible refine aB ?_ ?_|((with_reducible refine Ask.mk ?_);first|exact cW|exact cJ|(intro h;simp_all[cD]<;>fail)|(simp_all[cD]<;>fail))|(apply aA;(·exact bz))|refine aH ?_|((with_reducible refine aE ?_ ?_)<;>intro hc<;>try(exfalso;omega)))
 refine aG (wY u g hg hk t cls hcl hcl64 _ _) ?_
 rintro _ H1 n1 ⟨bi,di,rfl,hb1,hb2,ri,hk1⟩
 rw[hid] at ri
 have r0:bo H1 nx=some (.row 45 4 (gl true [.string ⟨#[]⟩, .int .i64 0, .int .i64 0, .slice none 0 0]) [gl true [.string ⟨#[]⟩, .int .i64 0, .int .i64 0, .slice none 0 0]]):=(hk1 nx cU).trans bt
 have hk1':∀y,y<nx->bo H1 y=bo H y:=fun y hy=>(hk1 y (Nat.lt_of_lt_of_le hy cU)).trans bx
 have hb1':nx+2<=bi:=Nat.le_trans cU hb1
 clear hk1 hb1
 repeat' (first|refine aQ ?_|exact dR|with_reducible refine aB ?_ ?_|((with_reducible refine Ask.mk ?_);first|exact cW|exact cJ|(intro h;simp_all[cD]<;>fail)|(simp_all[cD]<;>fail))|(apply aA;(·exact bz))|refine aH ?_|((with_reducible refine aE ?_ ?_)<;>intro hc<;>try(exfalso;omega)))
 refine aG (hhc bi _ _ di bt cU) ?_
 rintro _ H2 n2 ⟨mm,dm,em,F,rfl,hm1,hm2,rm,hF,hk2⟩
 have hm1':n1+3<=mm:=Nat.le_trans cU hm1
 have r02:bo H2 nx=some (.row 45 4 (gl true [.string ⟨#[]⟩, .int .i64 0, .int .i64 0, .slice none 0 0]) [gl true [.string ⟨#[]⟩, .int .i64 0, .int .i64 0, .slice none 0 0]]):=(hk2 nx cU).trans bt
 have ri2:bo H2 bi=some (.row 4 1 di (out.map bl)):=(hk2 bi cU).trans bt
 have hk2':∀y,y<nx->bo H2 y=bo H y:=fun y hy=>(hk2 y (Nat.lt_of_lt_of_le hy cU)).trans (Eq.trans bx (hk1' y hy))
 clear hk2 hk1' ri r0
 have hF0:=hF 0 (by omega)
 have e0:qB false (.int .i64 0) (qA F) (i64 0)=some (i64 (eR out g 0:Int),true):=by
  rw[R4,show cm F 0=some (eR out g 0:Int) from hF0];rfl
 repeat' (first|refine aQ ?_|exact dR|with_reducible refine aB ?_ ?_|((with_reducible refine Ask.mk ?_);first|exact cW|exact cJ|(intro h;simp_all[cD]<;>fail)|(simp_all[cD]<;>fail))|(apply aA;(·exact bz))|(apply aF (g:=none);(·exact fun _=>e0))|refine aH ?_|((with_reducible refine aE ?_ ?_)<;>intro hc<;>try(exfalso;omega)))
 have hbm:bi≠mm:=by omega
 have ho0:([i64 (eR out g 0:Int)]:List AV)=sP (fY g out 0):=rfl
 have hml:(out.map bl).length=g.nodes.length:=by rw[List.length_map,hil]
 have hrl:((dW g (-1)).map bl).length=g.nodes.length:=by rw[List.length_map,fy]
 refine aI (fun i:Nat=>[(0,ej g t cls),(2, .pt nx 1 0 0),(3, .sl bi g.nodes.length),(4, .mp mm),(5, .sl (n2+3) (fY g out i).length),(27,i64 g.nodes.length),(28,i64 i)])
  (fun i H' n'=>i<=g.nodes.length/\n2+11<=n'/\(∃d,bo H' nx=some (.row 45 4 d [D8]))/\(∃d,bo H' bi=some (.row 4 1 d (out.map bl)))/\(∃d,bo H' mm=some (.row em 0 d (mapA (qA F))))/\(∃d,bo H' (n2+3)=some (.row 3 1 d (sP (fY g out i))))/\∀y,y<nx->bo H' y=bo H y) (fun i=>g.nodes.length - i) 0 (by rw[<-List.length_map (f:=Node.av)];exact cG) ⟨Nat.zero_le _,cU,⟨_,bt⟩,⟨_,bt⟩,⟨_,bt⟩,⟨_,by rw[<-ho0];exact bt⟩,fun y hy=>Eq.trans bx (hk2' y hy)⟩ ?_
 clear r02 ri2 rm hk2'
 rintro i H3 n3 ⟨hi,hn3,⟨dg,rg⟩,⟨di,ri⟩,⟨dm,rm⟩,⟨d5,r5⟩,hk3⟩
 by_cases hilt:i<g.nodes.length
 ·have er:=fun d=>tM (l:=dW g (-1)) (k:=i) d (by rw[fy];exact hilt)
  have eo:=fun d=>oI (l:=out) (k:=i) (by rw[hil];exact hilt) d
  have hnx:=yA g out i
  have hol:=sA (m:=i) hh0 hi
  have homl:(sP (fY g out i)).length=(fY g out i).length:=by simp[sP]
  cases hrc:ji (dW g (-1)) (i:Int) with
  |false=>
   rw[hrc] at er
   rw[if_neg (by unfold mu;rw[hrc];simp)] at hnx
   repeat' (first|refine aQ ?_|exact dR|with_reducible refine aB ?_ ?_|((with_reducible refine Ask.mk ?_);first|exact cW|(exact hrl)|(exact hml)|exact cJ|(intro h;simp_all[cD]<;>fail)|(simp_all[cD]<;>fail))|(apply aA;(·(first|exact er _|exact eo _|exact bz)))|(apply aF (g:=none);(·exact fun _=>e0))|(apply aF (g:=some _);(·exact fun _=>e0))|refine aH ?_|((with_reducible refine aE ?_ ?_)<;>intro hc<;>try(exfalso;omega)))
   exact⟨i+1,by omega,by rw[hnx];exact cG,by omega,by omega,⟨_,bt⟩,⟨_,bt⟩,⟨_,bt⟩,⟨_,by rw[hnx];exact bt⟩,fun y hy=>Eq.trans bx (hk3 y hy)⟩
  |true=>
   rw[hrc] at er
   cases hto:tf out i with
   |true=>
    rw[show out.getD i false=true from hto] at eo
    rw[if_neg (by unfold mu;rw[hto];simp)] at hnx
    repeat' (first|refine aQ ?_|exact dR|with_reducible refine aB ?_ ?_|((with_reducible refine Ask.mk ?_);first|exact cW|(exact hrl)|(exact hml)|exact cJ|(intro h;simp_all[cD]<;>fail)|(simp_all[cD]<;>fail))|(apply aA;(·(first|exact er _|exact eo _|exact bz)))|(apply aF (g:=none);(·exact fun _=>e0))|(apply aF (g:=some _);(·exact fun _=>e0))|refine aH ?_|((with_reducible refine aE ?_ ?_)<;>intro hc<;>try(exfalso;omega)))
    exact⟨i+1,by omega,by rw[hnx];exact cG,by omega,by omega,⟨_,bt⟩,⟨_,bt⟩,⟨_,bt⟩,⟨_,by rw[hnx];exact bt⟩,fun y hy=>Eq.trans bx (hk3 y hy)⟩
   |false=>
    rw[show out.getD i false=false from hto] at eo
    by_cases hih:i=eR out g 0
    ·have hihz:((i:Int)=(eR out g 0:Int)):=by omega
     rw[if_neg (by unfold mu;rw[decide_eq_false (fun h=>h hih)];simp)] at hnx
     repeat' (first|refine aQ ?_|exact dR|with_reducible refine aB ?_ ?_|((with_reducible refine Ask.mk ?_);first|exact cW|(exact hrl)|(exact hml)|exact cJ|(intro h;simp_all[cD]<;>fail)|(simp_all[cD]<;>fail))|(apply aA;(·(first|exact er _|exact eo _|exact bz)))|(apply aF (g:=none);(·exact fun _=>e0))|(apply aF (g:=some _);(·exact fun _=>e0))|refine aH ?_|((with_reducible refine aE ?_ ?_)<;>intro hc<;>try(exfalso;omega)))
     exact⟨i+1,by omega,by rw[hnx];exact cG,by omega,by omega,⟨_,bt⟩,⟨_,bt⟩,⟨_,bt⟩,⟨_,by rw[hnx];exact bt⟩,fun y hy=>Eq.trans bx (hk3 y hy)⟩
    ·rw[if_pos (by unfold mu;rw[hrc,hto,decide_eq_true hih];rfl)] at hnx
     repeat' (first|refine aQ ?_|exact dR|with_reducible refine aB ?_ ?_|((with_reducible refine Ask.mk ?_);first|exact cW|(exact hrl)|(exact hml)|exact cJ|(intro h;simp_all[cD]<;>fail)|(simp_all[cD]<;>fail))|(apply aA;(·(first|exact er _|exact eo _|exact bz)))|(apply aF (g:=none);(·exact fun _=>e0))|(apply aF (g:=some _);(·exact fun _=>e0))|refine aH ?_|((with_reducible refine aE ?_ ?_)<;>intro hc<;>try(exfalso;omega)))
     ·exact⟨i+1,by omega,by rw[hnx];exact cG,by omega,by omega,⟨_,bt⟩,⟨_,bt⟩,⟨_,bt⟩,⟨_,by rw[hnx,<-PH];exact bt⟩,fun y hy=>Eq.trans bx (hk3 y hy)⟩
     ·exact hc.elim (fun h=>absurd ⟨trivial,trivial⟩ h) (fun h=>absurd (Int.ofNat.inj h) hih)
 ·have:i=g.nodes.length:=by omega
  subst this
  have hnd:=k7 g out g.nodes.length
  have hlt:=u6 (m:=g.nodes.length) hh0 (Nat.le_refl _)
  have hol:=sA (m:=g.nodes.length) hh0 (Nat.le_refl _)
  rw[BQ] at r5 hnd hlt hol ⊢
  generalize cS g out=o at *
  have homl:(sP o).length=o.length:=by simp[sP]
  repeat' (first|refine aQ ?_|exact dR|with_reducible refine aB ?_ ?_|((with_reducible refine Ask.mk ?_);first|exact cW|(exact homl)|exact cJ)|(apply aA;(·exact bz))|refine aH ?_|((with_reducible refine aE ?_ ?_)<;>intro hc<;>try(exfalso;omega)))
  refine aI (fun k:Nat=>[(0,ej g t cls),(2, .pt nx 1 0 0),(4, .mp mm),(5, .sl (n2+3) o.length),(7, .mp (n3+1)),(57, .sl (n2+3) o.length),(58,i64 o.length),(59,i64 k)])
   (fun k H' n'=>k<=o.length/\n3+6<=n'/\(∃d,bo H' nx=some (.row 45 4 d [D8]))/\(∃d,bo H' mm=some (.row em 0 d (mapA (qA F))))/\(∃d,bo H' (n2+3)=some (.row 3 1 d (sP o)))/\(∃d,bo H' (n3+1)=some (.row 3 0 d (mapA (qA (rv o k)))))/\∀y,y<nx->bo H' y=bo H y) (fun k=>o.length - k) 0 cG ⟨Nat.zero_le _,cU,⟨_,bt⟩,⟨_,bt⟩,⟨_,bt⟩,⟨_,bt⟩,fun y hy=>Eq.trans bx (hk3 y hy)⟩ ?_
  clear rg ri rm r5 hk3
  rintro k H4 n4 ⟨hkl,hn4,⟨dg,rg⟩,⟨dm,rm⟩,⟨d5,r5⟩,⟨d7,r7⟩,hk4⟩
  by_cases hk:k<o.length
  ·have eo:=fun d=>PG (l:=o) (i:=k) hk d
   have hnx:=uZ o k
   repeat' (first|refine aQ ?_|exact dR|with_reducible refine aB ?_ ?_|((with_reducible refine Ask.mk ?_);first|exact cW|(exact homl)|exact cJ)|(apply aA;(·(first|exact eo _|exact bz)))|(apply aF (g:=none);(·exact fun _=>V6 _ _ _))|refine aH ?_|((with_reducible refine aE ?_ ?_)<;>intro hc<;>try(exfalso;omega)))
   exact⟨k+1,by omega,cG,by omega,by omega,⟨_,bt⟩,⟨_,bt⟩,⟨_,bt⟩,⟨_,by rw[hnx];exact bt⟩,fun y hy=>Eq.trans bx (hk4 y hy)⟩
  ·have:k=o.length:=by omega
   subst this
   have hpl:=fun i=>JU hnd i
   generalize rv o o.length=NE at *
   repeat' (first|refine aQ ?_|exact dR|with_reducible refine aB ?_ ?_|((with_reducible refine Ask.mk ?_);first|exact cW|(exact homl)|exact cJ|(intro h;simp_all[cD]<;>fail)|(simp_all[cD]<;>fail))|(apply aA;(·exact bz))|refine aH ?_|((with_reducible refine aE ?_ ?_)<;>intro hc<;>try(exfalso;omega)))
   have hndl:(g.nodes.map Node.av).length=g.nodes.length:=by simp
   refine aT (fun k:Nat=>[(0,ej g t cls),(2, .pt nx 1 0 0),(4, .mp mm),(7, .mp (n3+1)),(10, .pt (n4+5) 1 0 0),(73, .sl (n2+3) o.length),(74,i64 o.length),(75,i64 k)])
    (fun k H' n'=>k<=o.length/\n4+13<=n'/\(∃d,bo H' nx=some (.row 45 4 d [D8]))/\(∃d,bo H' mm=some (.row em 0 d (mapA (qA F))))/\(∃d,bo H' (n2+3)=some (.row 3 1 d (sP o)))/\(∃d,bo H' (n3+1)=some (.row 3 0 d (mapA (qA NE))))/\(∃d,bo H' (n4+5)=some (.row 45 4 d [.agg [st g.name,i64 g.locals,i64 g.bw, .sl (n4+12) k]]))/\(∃d,bo H' (n4+12)=some (.row 51 13 d ((o.take k).map fun i=>(dQ g out o (g.nd i)).av)))/\∀y,y<nx->bo H' y=bo H y) (fun k=>o.length - k) 0
    ⟨_,_,_,Rt.wk (Wk.mA (b:=n4+5) (e:=51) (sz:=13) (by omega) (by omega) (te:=45) (tz:=4) (cs:=[st g.name,i64 g.locals,i64 g.bw, .sc (.slice none 0 0)]) (j:=3) bt (by show 3<4;omega) rfl),cG,Nat.zero_le _,cU,⟨_,bt⟩,⟨_,bt⟩,⟨_,bt⟩,⟨_,bt⟩,⟨_,bt⟩,⟨_,bt⟩,fun y hy=>Eq.trans bx (hk4 y hy)⟩ ?_
   clear rg rm r5 r7 hk4
   rintro k H5 n5 ⟨hkl,hn5,⟨dg,rg⟩,⟨dm,rm⟩,⟨d5,r5⟩,⟨d7,r7⟩,⟨dc,rc⟩,⟨dq,rq⟩,hk5⟩
   by_cases hkk:k<o.length
   ·have eo:=fun d=>PG (l:=o) (i:=k) hkk d
    have hom:o.getD k 0<g.nodes.length:=hlt _ (by simp only[List.getD,List.getElem?_eq_getElem hkk,Option.getD_some];exact List.getElem_mem hkk)
    have htk:(o.take (k+1)).map (fun i=>(dQ g out o (g.nd i)).av)=(o.take k).map (fun i=>(dQ g out o (g.nd i)).av)++[(dQ g out o (g.nd (o.getD k 0))).av]:=by
     rw[List.take_succ_eq_append_getElem hkk,List.map_append,show o.getD k 0=o[k] by simp only[List.getD,List.getElem?_eq_getElem hkk,Option.getD_some]];rfl
    generalize o.getD k 0=i at *
    have en:=fun d=>gh (l:=g.nodes) (i:=i) hom d
    have hnk:mW u g (g.nd i):=hk0.nodes _ (by simp only[bu.nd,List.getD,List.getElem?_eq_getElem hom,Option.getD_some];exact List.getElem_mem hom)
    have hx:∀z:Int,0<=z->z<g.nodes.length->qB false (.int .i64 z) (qA F) (i64 0)=some (i64 (eR out g z.toNat:Int),true):=fun z h0 h1=>by
     have:=hF z.toNat (by omega)
     rw[Int.toNat_of_nonneg h0] at this
     rw[R4,this];rfl
    have hp:∀j:Nat,qB false (.int .i64 (j:Int)) (qA NE) (i64 0)=some (i64 (eS o j:Int),(cm NE (j:Int)).isSome):=fun j=>by rw[R4,hpl]
    have hql:((o.take k).map fun i=>(dQ g out o (g.nd i)).av).length=k:=by rw[List.length_map,List.length_take];omega
    by_cases h9:(g.nodes.getD i default).kind=9
    ·repeat' (first|refine aQ ?_|exact dR|with_reducible refine aB ?_ ?_|((with_reducible refine Ask.mk ?_);first|exact cW|(exact homl)|(exact hndl)|(exact hql)|(exact absurd h9 hc)|(simp only[h9])|exact cJ|(intro h;simp_all[cD,Node.cells]<;>fail)|(simp_all[cD,Node.cells]<;>fail))|(apply aA;(·(first|exact eo _|exact en _|exact bz)))|refine aH ?_|((with_reducible refine aE ?_ ?_)<;>intro hc<;>try(exfalso;omega)))
     all_goals first|exact hql|exact rfl|skip
     have hre:(dQ g out o (g.nd i)).av=(g.nodes.getD i default).av:=by
      unfold dQ;rw[if_neg (fun h=>h h9),if_neg (fun h=>by have h':(g.nodes.getD i default).kind=8:=h;omega)]
     exact⟨k+1,by omega,_,_,_,Rt.refl _ _ _,cG,by omega,by omega,⟨_,bt⟩,⟨_,bt⟩,⟨_,bt⟩,⟨_,bt⟩,⟨_,bt⟩,⟨_,by rw[htk,hre];exact bt⟩,fun y hy=>Eq.trans bx (hk5 y hy)⟩
    ·have hnn:=hnk.next.1 (by unfold fK;exact decide_eq_true (by have:=hnk.kind;have h9':¬(g.nd i).kind=9:=h9;omega))
     have e1:=hx _ hnn.1 hnn.2
     have e2:=hp (eR out g (g.nd i).next.toNat)
     by_cases h8:(g.nodes.getD i default).kind=8
     ·have hee:=hnk.iu.1 h8
      have e3:=hx _ hee.1 hee.2
      have e4:=hp (eR out g (g.nd i).iu.toNat)
      repeat' (first|refine aQ ?_|exact dR|with_reducible refine aB ?_ ?_|((with_reducible refine Ask.mk ?_);first|exact cW|(exact homl)|(exact hndl)|(exact absurd h8 hc)|exact cJ|(intro h;simp_all[cD,Node.cells]<;>fail)|(simp_all[cD,Node.cells]<;>fail))|(apply aA;(·(first|exact eo _|exact en _|exact bz)))|(apply aF (g:=none);(·exact fun _=>e1))|(apply aF (g:=none);(·exact fun _=>e2))|(apply aF (g:=none);(·exact fun _=>e3))|(apply aF (g:=none);(·exact fun _=>e4))|refine aH ?_|((with_reducible refine aE ?_ ?_)<;>intro hc<;>try(exfalso;omega)))
      all_goals first|exact hql|exact rfl|skip
      have hre:(dQ g out o (g.nd i)).av=(.agg [u8 (g.nd i).kind,u8 (g.nd i).op,i64 (g.nd i).slot,i64 (g.nd i).cB,bl (g.nd i).a.ee,i64 (g.nd i).a.slot,i64 (g.nd i).a.word,bl (g.nd i).b.ee,i64 (g.nd i).b.slot,i64 (g.nd i).b.word,i64 (eS o (eR out g (g.nd i).next.toNat):Int),i64 (eS o (eR out g (g.nd i).iu.toNat):Int),i64 (g.nd i).origin]):=by
       unfold dQ;rw[if_pos h9,if_pos h8];rfl
      exact⟨k+1,by omega,_,_,_,Rt.refl _ _ _,cG,by omega,by omega,⟨_,bt⟩,⟨_,bt⟩,⟨_,bt⟩,⟨_,bt⟩,⟨_,bt⟩,⟨_,by rw[htk,hre];exact bt⟩,fun y hy=>Eq.trans bx (hk5 y hy)⟩
     ·repeat' (first|refine aQ ?_|exact dR|with_reducible refine aB ?_ ?_|((with_reducible refine Ask.mk ?_);first|exact cW|(exact homl)|(exact hndl)|(exact absurd hc h8)|exact cJ|(intro h;simp_all[cD,Node.cells]<;>fail)|(simp_all[cD,Node.cells]<;>fail))|(apply aA;(·(first|exact eo _|exact en _|exact bz)))|(apply aF (g:=none);(·exact fun _=>e1))|(apply aF (g:=none);(·exact fun _=>e2))|refine aH ?_|((with_reducible refine aE ?_ ?_)<;>intro hc<;>try(exfalso;omega)))
      all_goals first|exact hql|exact rfl|skip
      have hre:(dQ g out o (g.nd i)).av=(.agg [u8 (g.nd i).kind,u8 (g.nd i).op,i64 (g.nd i).slot,i64 (g.nd i).cB,bl (g.nd i).a.ee,i64 (g.nd i).a.slot,i64 (g.nd i).a.word,bl (g.nd i).b.ee,i64 (g.nd i).b.slot,i64 (g.nd i).b.word,i64 (eS o (eR out g (g.nd i).next.toNat):Int),i64 (g.nd i).iu,i64 (g.nd i).origin]):=by
       unfold dQ;rw[if_pos h9,if_neg h8];rfl
      exact⟨k+1,by omega,_,_,_,Rt.refl _ _ _,cG,by omega,by omega,⟨_,bt⟩,⟨_,bt⟩,⟨_,bt⟩,⟨_,bt⟩,⟨_,bt⟩,⟨_,by rw[htk,hre];exact bt⟩,fun y hy=>Eq.trans bx (hk5 y hy)⟩
   ·have:k=o.length:=by omega
    subst this
    rw[List.take_length] at rq
    repeat' (first|refine aQ ?_|exact dR|with_reducible refine aB ?_ ?_|((with_reducible refine Ask.mk ?_);first|exact cW|(exact homl)|exact cJ|(intro h;simp_all[cD]<;>fail)|(simp_all[cD]<;>fail))|(apply aA;(·exact bz))|refine aH ?_|((with_reducible refine aE ?_ ?_)<;>intro hc<;>try(exfalso;omega)))
    exact⟨n4+12,_,by rw[List.length_map],by omega,by omega,by rw[List.map_map];exact bt,fun y hy=>Eq.trans bx (hk5 y hy)⟩
theorem yx (g:bu):cF 0 g.av:=by simp[cF,cT,bu.cells,qk]
theorem lh (u:bq):cF 0 u.av:=by simp[cF,cT,bq.cells,lB,oe]
theorem EG (u:bq) (g:bu) (hg:g.Wf) (hk:eJ u g) (t:Nat) (cls:List cY) (hcl:cls.length=u.shared.length) (hcl64:cls.length<=64):Pure Tryz.prog 27 [ej g t cls] (fun r=>r=(iE g cls t).av):=by
 refine dO ((JW u g hg hk t cls hcl hcl64 [] 0).mono ?_) (yx _)
 rintro r H2 n2 ⟨b,d,rfl,_,_,hb,_⟩
 rw[show cw.dj H2 6 (.agg [st g.name,i64 g.locals,i64 g.bw, .sl b (iE g cls t).nodes.length])= .agg ([st g.name,i64 g.locals,i64 g.bw, .sl b (iE g cls t).nodes.length].map (cw.dj H2 5)) from rfl]
 simp only[List.map_cons,List.map_nil]
 rw[dG 5 (by simp[cF]),dG 5 (by simp[cF]),dG 5 (by simp[cF]),dv hb (by simp),cu _ (qk _)]
 rfl
noncomputable def jn (u:bq) (t:Nat):List bu:=(List.range t).map fun t=>iE (u.gr t) (cP u) t
theorem BM (u:bq) (t:Nat):jn u (t+1)=jn u t++[iE (u.gr t) (cP u) t]:=by
 rw[jn,List.range_succ,List.map_append];rfl
theorem EF (u:bq) (t:Nat):(jn u t).length=t:=by simp[jn]
noncomputable def pH (u v:bq):AV:=if nI u=true then .df [v.av,i64 0] else .df [(⟨[],[],[]⟩:bq).av,i64 60]
theorem KX (u:bq) (hu:u.Wf) (hr:¬cN u):Pure Tryz.prog 12 [u.av] (fun r=>r= .df [.agg [.sc (.slice none 0 0), .sc (.slice none 0 0), .sc (.slice none 0 0)],i64 60]):=by
 have hc:=jg u hu
 have h60:=o6 hr
 generalize jP u=c3 at *
 obtain⟨c1,c2,c3⟩:=c3
 simp only at h60
 subst h60
 refine aD JE rfl ?_
 repeat' (first|refine aQ ?_|exact dR|with_reducible refine aB ?_ ?_|((with_reducible refine Ask.mk ?_);first|exact cW|exact cJ|(intro h;simp_all[bq.cells]<;>fail)|(simp_all[bq.cells]<;>fail))|(apply aA;(·exact bz))|refine aK (hc) ?_|refine aH ?_|((with_reducible refine aE ?_ ?_)<;>intro hc<;>try(exfalso;omega)))
 exact rfl
set_option maxRecDepth 4000 in
set_option maxHeartbeats 4000000 in
theorem oW (u:bq) (hu:u.Wf) (hr:cN u):Pure Tryz.prog 12 [u.av] (fun r=>r= .df [(dH u).av,i64 0]):=by
 have hc:=jg u hu
 rw[nX.2 hr] at hc
 have hsh:=rY u.shared hu.jb
 have hlk:=rY u.cE hu.lL
 have hfew:=hr.yu
 refine dO ?_ (by rw[cF,cT,cT,cT];exact⟨lh _,by simp[cF],trivial⟩)
 refine aJ JE rfl ?_
 repeat' (first|refine aQ ?_|exact dR|with_reducible refine aB ?_ ?_|((with_reducible refine Ask.mk ?_);first|exact cW|exact cJ|(intro h;simp_all[bq.cells]<;>fail)|(simp_all[bq.cells]<;>fail))|(apply aA;(·exact bz))|refine aK (hc) ?_|refine aK (hsh) ?_|refine aK (hlk) ?_|refine aH ?_|((with_reducible refine aE ?_ ?_)<;>intro hc<;>try(exfalso;omega)))
 have hg0:jn u 0=[]:=rfl
 refine aT (fun t:Nat=>[(1, .pt 0 1 0 0),(2, .pt 1 1 0 0),(7, .pt 20 1 0 0),(30,i64 u.br.length),(31,i64 t)])
  (fun t H n=>t<=u.br.length/\27<=n/\(∃d,bo H 0=some (.row 25 3 d [u.av]))/\(∃d,bo H 1=some (.row 25 3 d [gl true [.slice none 0 0, .slice none 0 0, .slice none 0 0]]))/\(∃d,bo H 20=some (.row 25 3 d [.agg [cg u.shared,cg u.cE, .sl 26 t]]))/\(∃d,bo H 26=some (.row 45 4 d ((jn u t).map bu.av)))) (fun t=>u.br.length - t) 0
  ⟨_,_,_,Rt.wk (Wk.mA (b:=20) (e:=45) (sz:=4) (by simp only[List.length_cons,List.length_nil];omega) (by omega) (te:=25) (tz:=3) (cs:=[cg u.shared,cg u.cE, .sc (.slice none 0 0)]) (j:=2) bt (by show 2<3;omega) rfl),by rw[<-List.length_map (f:=bu.av)];exact cG,Nat.zero_le _,cU,⟨_,bt⟩,⟨_,bt⟩,⟨_,bt⟩,⟨_,bt⟩⟩ ?_
 rintro t H n ⟨ht,hn,⟨d0,r0⟩,⟨d1,r1⟩,⟨d20,r20⟩,⟨dg,rg⟩⟩
 have hgl:((jn u t).map bu.av).length=t:=by rw[List.length_map,EF]
 by_cases htl:t<u.br.length
 ·have ha:=tI u hu hr t htl
  have ho:=EG u (u.gr t) (hu.br _ (cR default htl)) (hr.gr htl) t (cP u) (jY u) (by rw[jY];omega)
  have hnx:(jn u (t+1)).map bu.av=(jn u t).map bu.av++[(iE (u.gr t) (cP u) t).av]:=by rw[BM,List.map_append];rfl
  repeat' (first|refine aQ ?_|exact dR|with_reducible refine aB ?_ ?_|((with_reducible refine Ask.mk ?_);first|exact cW|(exact hgl)|exact cJ|(intro h;simp_all[bq.cells]<;>fail)|(simp_all[bq.cells]<;>fail))|(apply aA;(·exact bz))|refine aK (ha) ?_|refine aK (ho) ?_|refine aH ?_|((with_reducible refine aE ?_ ?_)<;>intro hc<;>try(exfalso;omega)))
  exact⟨t+1,by omega,_,_,_,Rt.refl _ _ _,cG,by omega,by omega,⟨_,bt⟩,⟨_,bt⟩,⟨_,bt⟩,⟨_,by rw[hnx];exact bt⟩⟩
 ·have:t=u.br.length:=by omega
  subst this
  repeat' (first|refine aQ ?_|exact dR|with_reducible refine aB ?_ ?_|((with_reducible refine Ask.mk ?_);first|exact cW|(exact hgl)|exact cJ|(intro h;simp_all[bq.cells]<;>fail)|(simp_all[bq.cells]<;>fail))|(apply aA;(·exact bz))|refine aH ?_|((with_reducible refine aE ?_ ?_)<;>intro hc<;>try(exfalso;omega)))
  refine⟨pd.trans ?_⟩
  rw[tu 5 (by simp[cF])]
  refine congrArg (fun z=>AV.df [z,i64 0]) ?_
  rw[pc]
  simp only[List.map_cons,List.map_nil]
  rw[dG 4 (by rw[cF];exact lB _),dG 4 (by rw[cF];exact lB _),dv (e:=45) (sz:=4) (d:=dg) (es:=(jn u u.br.length).map bu.av) bt hgl,cu _ (oe _)]
  rfl
theorem PK {P:Program} {f:FuncId} {args:List AV} {n:Int} (h:Pure P f args (fun r=>r= .df [.agg [.sc (.slice none 0 0), .sc (.slice none 0 0), .sc (.slice none 0 0)],i64 n])):Pure P f args (fun r=>r= .df [(⟨[],[],[]⟩:bq).av,i64 n]):=by
 refine qL (u:= .df [.agg [.sc (.slice none 0 0), .sc (.slice none 0 0), .sc (.slice none 0 0)],i64 n]) (h.mono fun r hr=> .inl hr) (by rw[cF,cT,cT,cT];exact⟨lh _,by simp[cF],trivial⟩) fun c=> ?_
 refine cw.da.df (.cons (cw.da.agg (.cons ?_ (.cons ?_ (.cons ?_ .nil)))) (.cons (fun _ h=>h) .nil))
 ·exact cw.da.qE c c 3 .any
 ·exact cw.da.qE c c 3 .any
 ·exact cw.da.qE c c 4 .any
theorem HJ (u:bq) (hu:u.Wf):Pure Tryz.prog 12 [u.av] (fun r=>r=pH u (dH u)):=by
 unfold pH
 by_cases hr:cN u
 ·rw[if_pos (dB.2 hr)];exact oW u hu hr
 ·rw[if_neg (mt dB.1 hr)];exact PK (KX u hu hr)
theorem HK (u:bq) (hu:u.Wf) (hr:¬cN u):Pure Tryz.prog 5 [u.av] (fun r=>r= .df [(⟨[],[],[]⟩:bq).av,i64 60]):=by
 have ho:=HJ u hu
 unfold pH at ho
 rw[if_neg (mt dB.1 hr)] at ho
 refine aD W1 rfl ?_
 repeat' (first|refine aQ ?_|exact dR|with_reducible refine aB ?_ ?_|((with_reducible refine Ask.mk ?_);first|exact cW|exact cJ|(intro h;simp_all[bq.cells]<;>fail)|(simp_all[bq.cells]<;>fail))|(apply aA;(·exact bz))|refine aK (ho) ?_|refine aH ?_|((with_reducible refine aE ?_ ?_)<;>intro hc<;>try(exfalso;omega)))
 refine bO ?_
 repeat' (first|refine aQ ?_|exact dR|with_reducible refine aB ?_ ?_|((with_reducible refine Ask.mk ?_);first|exact cW|exact cJ|(intro h;simp_all[bq.cells]<;>fail)|(simp_all[bq.cells]<;>fail))|(apply aA;(·exact bz))|refine aH ?_|((with_reducible refine aE ?_ ?_)<;>intro hc<;>try(exfalso;omega)))
 exact rfl
set_option maxRecDepth 4000 in
set_option maxHeartbeats 4000000 in
theorem rU (u:bq) (hu:u.Wf) (hr:cN u):Pure Tryz.prog 5 [u.av] (fun r=>r= .df [(fJ u).av,i64 0]):=by
 have ho:=oW u hu hr
 have hfit:=fun v=>lh v
 refine aD W1 rfl ?_
 repeat' (first|refine aQ ?_|exact dR|with_reducible refine aB ?_ ?_|((with_reducible refine Ask.mk ?_);first|exact cW|exact cJ|(intro h;simp_all[bq.cells]<;>fail)|(simp_all[bq.cells]<;>fail))|(apply aA;(·exact bz))|refine aK (ho) ?_|refine aH ?_|((with_reducible refine aE ?_ ?_)<;>intro hc<;>try(exfalso;omega)))
 refine aI (fun v:bq=>[(2, .pt 1 1 0 0),(4, .pt 7 1 0 0),(5,i64 0)])
  (fun v H n=>10<=n/\cN v/\v.Wf/\fc (gB v) v=fJ u/\(∃d,bo H 1=some (.row 25 3 d [gl true [.slice none 0 0, .slice none 0 0, .slice none 0 0]]))/\(∃d,bo H 7=some (.row 25 3 d [v.av]))) (fun v=>gB v) (dH u) cG ⟨cU,fx hr,nk hu hr,(wz hr).symm,⟨_,bt⟩,⟨_,bt⟩⟩ ?_
 rintro v H n ⟨hn,hvr,hvw,hsw,⟨d1,r1⟩,⟨d8,r8⟩⟩
 have ho2:=oW v hvw hvr
 have hs:=xW (dH v) v (nk hvw hvr) hvw
 by_cases e:dH v=v
 ·rw[decide_eq_true e] at hs
  rw[ux hvr e] at hsw
  subst hsw
  repeat' (first|refine aQ ?_|exact dR|with_reducible refine aB ?_ ?_|((with_reducible refine Ask.mk ?_);first|exact cW|exact cJ|(intro h;simp_all[bq.cells]<;>fail)|(simp_all[bq.cells]<;>fail))|(apply aA;(·exact bz))|refine aK (ho2) ?_|refine aK (hs) ?_|refine aH ?_|((with_reducible refine aE ?_ ?_)<;>intro hc<;>try(exfalso;omega)))
  exact congrArg (fun z=>AV.df [AV.agg z,i64 0]) (cu _ (MD 0 _))
 ·rw[decide_eq_false e] at hs
  obtain⟨h1,h2⟩:=QJ hvr e
  repeat' (first|refine aQ ?_|exact dR|with_reducible refine aB ?_ ?_|((with_reducible refine Ask.mk ?_);first|exact cW|exact cJ|(intro h;simp_all[bq.cells]<;>fail)|(simp_all[bq.cells]<;>fail))|(apply aA;(·exact bz))|refine aK (ho2) ?_|refine aK (hs) ?_|refine aH ?_|((with_reducible refine aE ?_ ?_)<;>intro hc<;>try(exfalso;omega)))
  exact⟨dH v,h2,cG,by omega,fx hvr,nk hvw hvr,h1.symm.trans hsw,⟨_,bt⟩,⟨_,bt⟩⟩
theorem CR (u:bq) (hu:u.Wf):Pure Tryz.prog 5 [u.av] (fun r=>r=pH u (fJ u)):=by
 unfold pH
 by_cases hr:cN u
 ·rw[if_pos (dB.2 hr)];exact rU u hu hr
 ·rw[if_neg (mt dB.1 hr)];exact HK u hu hr
instance XJ (n:Int):Decidable (eW n):=inferInstanceAs (Decidable (_/\_))
def Z6:Node:=⟨1,0,0,0,⟨false,0,1⟩,default,1,0,0⟩
def ZT:Node:=⟨1,0,0,0,⟨false,0,2⟩,default,2,0,1⟩
def ZU:Node:=⟨7,0,0,0,⟨true,0,0⟩,default,3,0,2⟩
def ZV:Node:=⟨9,0,0,0,default,default,0,0,3⟩
def oD:bu:=⟨⟨(List.toArray [97])⟩,0,1,[Z6,ZT,ZU,ZV]⟩
def sS:bu:=⟨⟨(List.toArray [97])⟩,0,1,[{ ZT with next:=1 },{ ZU with next:=2 },ZV]⟩
def vA:bq:=⟨[],[],[oD]⟩
def QU:bq:=⟨[],[],[sS]⟩
theorem lU:cN vA:=⟨by decide+kernel,fun g hg=>by
 simp only[vA,List.mem_cons,List.not_mem_nil,or_false] at hg
 subst hg
 exact kF.1 (by decide+kernel)⟩
theorem xA:cN QU:=⟨by decide+kernel,fun g hg=>by
 simp only[QU,List.mem_cons,List.not_mem_nil,or_false] at hg
 subst hg
 exact kF.1 (by decide+kernel)⟩
theorem wj {g:bu} (h:∀i,i<g.nodes.length->e8 g (-1) (i:Int)):dW g (-1)=List.replicate g.nodes.length true:=by
 apply List.ext_getElem (by rw[fy,List.length_replicate])
 intro i h1 h2
 have hi:i<g.nodes.length:=by rw[<-fy g (-1)];exact h1
 have e2:(dW g (-1))[i]=(dW g (-1)).getD i false:=by simp[List.getD,h1]
 rw[e2,(pC g (-1) hi).2 (h i hi)];simp
theorem lR:dW oD (-1)=[true,true,true,true]:=by
 have c0:e8 oD (-1) 0:= .zero
 have c1:e8 oD (-1) 1:= .step c0 (by decide) (by decide)
 have c2:e8 oD (-1) 2:= .step c1 (by decide) (by decide)
 have c3:e8 oD (-1) 3:= .step c2 (by decide) (by decide)
 exact wj (g:=oD) fun i hi=>match i,hi with
  |0,_=>c0
  |1,_=>c1
  |2,_=>c2
  |3,_=>c3
theorem nu:dW sS (-1)=[true,true,true]:=by
 have c0:e8 sS (-1) 0:= .zero
 have c1:e8 sS (-1) 1:= .step c0 (by decide) (by decide)
 have c2:e8 sS (-1) 2:= .step c1 (by decide) (by decide)
 exact wj (g:=sS) fun i hi=>match i,hi with
  |0,_=>c0
  |1,_=>c1
  |2,_=>c2
theorem my:iO oD=[[false],[false],[true],[false]]:=by
 have hw:Whole oD:=(lU.br oD (by simp[vA])).whole
 refine(Grow.fin hw (T:=[[false],[false],[true],[false]]) ⟨⟨rfl,by decide+kernel⟩,fun i k h=> ?_⟩ (fun i k hi hk=>(by decide+kernel:∀i,i<oD.nodes.length->∀k,k<oD.bw.toNat->iM oD hP kZ [[false],[false],[true],[false]] i k=true->fg [[false],[false],[true],[false]] i k=true) i hi k hk)).symm
 match i,k,h with
 |2,0,_=>exact .beg (by decide+kernel)
 |0,0,h=>exact absurd h (by decide)
 |1,0,h=>exact absurd h (by decide)
 |3,0,h=>exact absurd h (by decide)
 |0,k+1,h=>exact absurd h (by simp[fg])
 |1,k+1,h=>exact absurd h (by simp[fg])
 |2,k+1,h=>exact absurd h (by simp[fg])
 |3,k+1,h=>exact absurd h (by simp[fg])
 |i+4,k,h=>exact absurd h (by simp[fg])
theorem uO:iO sS=[[false],[true],[false]]:=by
 have hw:Whole sS:=(xA.br sS (by simp[QU])).whole
 refine(Grow.fin hw (T:=[[false],[true],[false]]) ⟨⟨rfl,by decide+kernel⟩,fun i k h=> ?_⟩ (fun i k hi hk=>(by decide+kernel:∀i,i<sS.nodes.length->∀k,k<sS.bw.toNat->iM sS hP kZ [[false],[true],[false]] i k=true->fg [[false],[true],[false]] i k=true) i hi k hk)).symm
 match i,k,h with
 |1,0,_=>exact .beg (by decide+kernel)
 |0,0,h=>exact absurd h (by decide)
 |2,0,h=>exact absurd h (by decide)
 |0,k+1,h=>exact absurd h (by simp[fg])
 |1,k+1,h=>exact absurd h (by simp[fg])
 |2,k+1,h=>exact absurd h (by simp[fg])
 |i+3,k,h=>exact absurd h (by simp[fg])
theorem I8 {l:List Bool} {g:bu} (h:∀i,tf l i=false):fN l g=List.replicate l.length false:=by
 apply List.ext_getElem (by rw[gw,List.length_replicate])
 intro i h1 h2
 have e:(fN l g)[i]=tf (fN l g) i:=by simp[tf,List.getD,h1]
 rw[e]
 cases hb:tf (fN l g) i with
 |false=>simp
 |true=>have:=(fT.1 hb).1;rw[h i] at this;cases this
theorem QG:lS oD [] 0=[true,false,false,false]:=by
 have e0:eF oD [] 0 0=true:=by unfold eF;rw[lR,my];rfl
 have e1:eF oD [] 0 1=false:=by unfold eF;rw[lR,my];rfl
 have e2:eF oD [] 0 2=false:=by unfold eF;rw[lR,my];rfl
 have e3:eF oD [] 0 3=false:=by unfold eF;rw[lR,my];rfl
 show[eF oD [] 0 0,eF oD [] 0 1,eF oD [] 0 2,eF oD [] 0 3]=_
 rw[e0,e1,e2,e3]
theorem za:fG oD [] 0=[true,false,false,false]:=by
 unfold fG
 rw[QG]
 have hn:¬RD [true,false,false,false] oD 0:=by
  rintro⟨p,h1,h2,h3⟩
  by_cases e:p=1
  ·subst e;exact absurd h2 (by decide)
  ·exact absurd (h3 1 (by omega)) (by decide)
 have key:∀i,tf (fN [true,false,false,false] oD) i=tf [true,false,false,false] i:=fun i=>by
  rw[Bool.eq_iff_iff,fT]
  refine⟨fun h=>h.1,fun h=>⟨h, ?_⟩⟩
  match i,h with
  |0,_=>exact hn
  |1,h=>exact absurd h (by decide)
  |2,h=>exact absurd h (by decide)
  |3,h=>exact absurd h (by decide)
  |i+4,h=>exact absurd h (by simp[tf])
 exact pq false (by rw[gw]) fun j _=>key j
theorem PT:iE oD [] 0=sS:=by
 have ho:cS oD [true,false,false,false]=[1,2,3]:=by unfold cS;rw[lR];decide+kernel
 unfold iE
 rw[za,ho]
 decide+kernel
theorem QH:lS sS [] 0=[false,false,false]:=by
 have e0:eF sS [] 0 0=false:=by unfold eF;rw[nu,uO];rfl
 have e1:eF sS [] 0 1=false:=by unfold eF;rw[nu,uO];rfl
 have e2:eF sS [] 0 2=false:=by unfold eF;rw[nu,uO];rfl
 show[eF sS [] 0 0,eF sS [] 0 1,eF sS [] 0 2]=_
 rw[e0,e1,e2]
theorem PU:iE sS [] 0=sS:=by
 have hi:fG sS [] 0=[false,false,false]:=by
  unfold fG
  rw[QH]
  refine I8 fun i=> ?_
  match i with
  |0=>rfl
  |1=>rfl
  |2=>rfl
  |i+3=>simp[tf]
 have ho:cS sS [false,false,false]=[0,1,2]:=by unfold cS;rw[nu];decide+kernel
 unfold iE
 rw[hi,ho]
 decide+kernel
theorem PQ:dH vA=QU:=by
 show({ vA with br:=[iE oD [] 0] }:bq)=QU
 rw[PT];rfl
theorem PS:dH QU=QU:=by
 show({ QU with br:=[iE sS [] 0] }:bq)=QU
 rw[PU];rfl
theorem QK:fJ vA=QU:=by
 rw[wz lU,PQ]
 exact ux xA PS
theorem QV:vA.Wf:=by
 refine⟨fun _ h=>by simp[vA] at h,by simp[vA],fun _ h=>by simp[vA] at h,by simp[vA],fun g hg=> ?_,by simp[vA]⟩
 simp only[vA,List.mem_cons,List.not_mem_nil,or_false] at hg
 subst hg
 refine⟨by decide+kernel,by decide+kernel,by decide+kernel,fun n hn=> ?_,by decide+kernel⟩
 simp only[oD,List.mem_cons,List.not_mem_nil,or_false] at hn
 rcases hn with rfl|rfl|rfl|rfl<;>exact⟨by decide+kernel,by decide+kernel,by decide+kernel,by decide+kernel,⟨by decide+kernel,by decide+kernel⟩,⟨by decide+kernel,by decide+kernel⟩,by decide+kernel,by decide+kernel,by decide+kernel⟩
theorem CY (l m:List Bool) (hl:l.length<=4096) (hm:m.length<=4096):Pure Tryz.prog 11 [ju l,ju m] (fun r=>r=bl (decide (l=m))):=by
 refine aD NK rfl ?_
 unfold ju
 repeat' (first|refine aQ ?_|exact aC|with_reducible refine aB ?_ ?_|(apply aA;(·exact bz))|refine aH ?_|((with_reducible refine aE ?_ ?_)<;>intro hc<;>try(exfalso;omega)))
 ·refine dZ (Eq.symm ?_)
  exact decide_eq_false fun e=>hc (by rw[e])
 ·have hlm:l.length=m.length:=by omega
  refine aI (fun i:Nat=>[(0,ju l),(1,ju m),(5,i64 i)])
   (fun i H n=>i<=l.length/\∀j,j<i->l.getD j false=m.getD j false) (fun i=>l.length - i) 0 cG ⟨Nat.zero_le _,fun _ h=>by omega⟩ ?_
  unfold ju
  rintro i H n ⟨hi,hall⟩
  by_cases hil:i<l.length
  ·have e1:=fun d=>oI (l:=l) hil d
   have e2:=fun d=>oI (l:=m) (k:=i) (by omega) d
   repeat' (first|refine aQ ?_|exact aC|with_reducible refine aB ?_ ?_|(apply aA;(·(first|exact e1 _|exact e2 _|exact bz)))|refine aH ?_|((with_reducible refine aE ?_ ?_)<;>intro hc<;>try(exfalso;omega)))
   ·refine dZ (Eq.symm ?_)
    refine decide_eq_false fun e=> ?_
    rw[e] at hc
    simp at hc
   ·refine⟨i+1,by omega,cG,by omega,fun j hj=> ?_⟩
    by_cases hji:j=i
    ·subst hji;simpa using hc
    ·exact hall j (by omega)
  ·have:i=l.length:=by omega
   subst this
   repeat' (first|refine aQ ?_|exact aC|with_reducible refine aB ?_ ?_|(apply aA;(·exact bz))|refine aH ?_|((with_reducible refine aE ?_ ?_)<;>intro hc<;>try(exfalso;omega)))
   refine dZ (Eq.symm ?_)
   exact decide_eq_true (pq false hlm hall)
theorem FJ:Pure Tryz.prog 9 [] (fun r=>r=vA.av):=by
 have h:Pure Tryz.prog 9 [] (fun r=>r= .agg [.sc (.slice none 0 0), .sc (.slice none 0 0),dS [oD]]):=by
  refine dO ?_ (by rw[cF,cT,cT,cT,cT];exact⟨by simp[cF],by simp[cF],by rw[cF];exact oe _,trivial⟩)
  refine aJ X4 rfl ?_
  repeat' (first|refine aQ ?_|exact aC|with_reducible refine aB ?_ ?_|(apply aA;(·exact bz))|refine aH ?_|((with_reducible refine aE ?_ ?_)<;>intro hc<;>try(exfalso;omega)))
  exact⟨by kernel_rfl⟩
 refine qL (u:= .agg [.sc (.slice none 0 0), .sc (.slice none 0 0),dS [oD]]) (h.mono fun r hr=> .inl hr) (lh _) fun c=> ?_
 refine cw.da.agg (.cons ?_ (.cons ?_ (.cons (fun _ h=>h) .nil)))
 ·exact cw.da.qE c c 3 .any
 ·exact cw.da.qE c c 3 .any
theorem CX (l m:List Bool) (hl:l.length<=4096) (hm:m.length<=4096) {b:Nat} {H:Hp} {nx:Nat} {e:TypeId} {d:AV} (hb:bo H b=some (.row e 1 d (m.map bl))):kU Tryz.prog 11 [ju l, .sl b m.length] H nx (bl (decide (l=m))):=by
 refine Pure.view (args2:=[ju l,ju m]) (CY l m hl hm) ?_ (by simp[cT,cF,ju,cI]) trivial ⟨rfl,fun _ _=>rfl⟩
 rw[List.map_cons,List.map_cons,List.map_nil,dG 6 (by simp[cF,ju,cI]),dv hb (by simp),cu _ (n9 _ _)]
 rfl
theorem yg {b:Nat} {H:Hp} {nx:Nat} {e:TypeId} {d:AV} (hb:bo H b=some (.row e 1 d [bl true,bl false,bl false,bl false])):kU Tryz.prog 11 [ju [true,false,false,false], .sl b 4] H nx (bl true):=
 CX [true,false,false,false] [true,false,false,false] (by decide) (by decide) hb
set_option maxRecDepth 4000 in
set_option maxHeartbeats 4000000 in
theorem yd:Pure Tryz.prog 4 [] (fun r=>r=bl true):=by
 have hcl:cP vA=[]:=rfl
 have h1:Pure Tryz.prog 8 [vA.av,i64 0] (fun r=>r= .df [ju [true,false,false,false],i64 0]):=by
  have:=HF vA QV 0
  unfold D5 at this
  rw[if_pos (dB.2 lU),if_neg (by decide),hcl,show vA.gr (0:Int).toNat=oD from rfl,show(0:Int).toNat=0 from rfl,za] at this
  exact this
 have h2:Pure Tryz.prog 5 [vA.av] (fun r=>r= .df [QU.av,i64 0]):=by
  have:=rU vA QV lU
  rw[QK] at this
  exact this
 have h3:Pure Tryz.prog 10 [vA.av,i64 0] (fun r=>r= .df [.im 1 .any ([[false],[false],[true],[false]].map ju),i64 0]):=by
  have:=HG vA QV 0
  unfold QM at this
  rw[if_pos (dB.2 lU),if_neg (by decide),show vA.gr (0:Int).toNat=oD from rfl,my] at this
  exact this
 have h0:=FJ
 refine aD X0 rfl ?_
 repeat' (first|refine aQ ?_|exact dR|with_reducible refine aB ?_ ?_|((with_reducible refine Ask.mk ?_);first|exact cW|exact cJ|(intro h;simp_all[bq.cells,bu.cells,Node.cells]<;>fail)|(simp_all[bq.cells,bu.cells,Node.cells]<;>fail))|(apply aA;(·(first|exact rfl|exact bz)))|refine aK (h0) ?_|refine aK (h1) ?_|refine aK (h2) ?_|refine aK (h3) ?_|((refine aS (yg (by exact bt)) ?_ ?_);(·exact True.intro))|((refine aR (fun _=>yg (by exact bt)) ?_ ?_);(·exact True.intro))|refine aH ?_|((with_reducible refine aE ?_ ?_)<;>intro hc<;>try(exfalso;omega)))
 all_goals first|exact⟨⟨by decide+kernel,by decide+kernel⟩⟩|exact rfl
set_option maxRecDepth 4000 in
set_option maxHeartbeats 2000000 in
theorem vQ (u:bq) (hu:u.Wf) (most:Int) (hmw:eW most):Pure Tryz.prog 3 [u.av,i64 most] (fun r=>r=bl true):=by
 have c0:=yd
 have c1:=CR u hu
 have c2:=vz u hu most
 by_cases hr:cN u
 ·obtain⟨hw,_⟩:=mQ hu hr
  have hr2:cN (fJ u):=(rG (P:=fun _=>True) hr trivial fun _ _ _=>trivial).1
  have c3:=vz (fJ u) hw most
  unfold pH at c1
  rw[if_pos (dB.2 hr)] at c1
  unfold vw at c2 c3
  by_cases hm:1<=most/\most<=65536
  ·rw[xO hr hm] at c2
   rw[xO hr2 hm] at c3
   cases h1:jf u most.toNat with
   |none=>
    rw[h1] at c2
    dsimp only at c2
    rw[if_neg (by decide)] at c2
    cases h2:jf (fJ u) most.toNat with
    |none=>
     rw[h2] at c3
     dsimp only at c3
     rw[if_neg (by decide)] at c3
     generalize fJ u=v at *
     refine aD Q6 rfl ?_
     refine cz ?_
     first|exact rfl|trivial
    |some l2=>
     rw[h2] at c3
     dsimp only at c3
     rw[if_pos rfl] at c3
     generalize jU (fJ u) l2=b at *
     generalize fJ u=v at *
     refine aD Q6 rfl ?_
     refine cz ?_
     first|exact rfl|trivial
   |some l=>
    rw[h1] at c2
    dsimp only at c2
    rw[if_pos rfl] at c2
    obtain⟨f1,f2,_⟩:=sY hu hr (by omega) h1
    cases h2:jf (fJ u) most.toNat with
    |none=>
     rw[h2] at c3
     dsimp only at c3
     rw[if_neg (by decide)] at c3
     generalize jU u l=b at *
     generalize fJ u=v at *
     refine aD Q6 rfl ?_
     refine cz ?_
     first|exact rfl|trivial
    |some l2=>
     rw[h2] at c3
     dsimp only at c3
     rw[if_pos rfl] at c3
     obtain⟨g1,g2,_⟩:=sY hw hr2 (by omega) h2
     have he:=IH hu hr h1 f1 f2 h2 g1 g2
     rw[<-he] at c3
     have hin:∀e∈jU u l,yV e:=fun e h=>vx hr f1 (by omega) _ e (qi.1 h)
     have hle:=IG u l
     have c4:=yI (jU u l) (jU u l) hin (by omega) (by omega)
     rw[decide_eq_true rfl] at c4
     clear he hin
     generalize jU u l=b at *
     generalize fJ u=v at *
     refine aD Q6 rfl ?_
     refine cz ?_
     first|exact rfl|trivial
  ·rw[oZ hr hm] at c2
   rw[oZ hr2 hm] at c3
   dsimp only at c2 c3
   rw[if_neg (by decide)] at c2 c3
   generalize fJ u=v at *
   refine aD Q6 rfl ?_
   refine cz ?_
   first|exact rfl|trivial
 ·unfold pH at c1
  rw[if_neg (mt dB.1 hr)] at c1
  clear c2
  refine aD Q6 rfl ?_
  refine cz ?_
  first|exact rfl|trivial
end Go.Proofs.YtekfmjjmihomlaaGreatDoor
