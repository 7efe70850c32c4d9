import Derived.Test.YtmonponfppdgfaaGreatDoorM37
import Derived.Test.YtmonponfppdgfaaGreatDoorM39
import Derived.Test.YtmonponfppdgfaaGreatDoorM38
import Derived.Test.YtmonponfppdgfaaGreatDoorM36
section
/- A thread without what can be left out: the walk. -/
namespace Go.Proofs.YtmonponfppdgfaaGreatDoor
open Go Go.ch Go.Proofs
set_option linter.unusedSimpArgs false
set_option linter.unusedVariables false
abbrev hC (l:List Nat):List AV:=l.map fun(i:Nat)=>i64 (i:Int)
theorem wX (l:List Nat) (k:Nat):hC l++[i64 (k:Int)]=hC (l++[k]):=by simp[hC]
theorem oy {l:List Nat} {i:Nat} (h:i<l.length) (d:AV):(hC l).getD ((i:Int)).toNat d=i64 (l.getD i 0:Nat):=by
 rw[Int.toNat_natCast];exact dJ (fun(i:Nat)=>i64 (i:Int)) l i d h
noncomputable def ou:AV:= .agg [.sc (.string ⟨#[]⟩),i64 0,i64 0, .sc (.slice none 0 0)]
set_option maxRecDepth 4000 in
set_option maxHeartbeats 8000000 in
theorem A2 (u:bp) (g:bo) (hg:g.Wf) (hk:dL u g) (t:Nat) (cls:List cB) (hcl:cls.length=u.shared.length) (hcl64:cls.length≤64) (H:Hp) (nx:Nat):
 cM Tryz.prog 29 [eH g t cls] H nx (fun r H2 n2=>∃b d,r= .agg [st g.name,i64 g.locals,i64 g.cf, .sl b (gD g cls t).nodes.length]∧nx≤b∧b<n2∧bj H2 b=some (.row 46 13 d ((gD g cls t).nodes.map Node.av))∧∀y,y<nx→bj H2 y=bj H y):=by
 have hl:=hg.len
 have hw:=hk.whole
 have hk0:=hk
 have hl0:=hw.1
 have hl1:=hw.2.1
 have hil:=mP g cls t
 have hends:Ends (eG g cls t) g:=o9 _ _
 have hinx:∀j,tf (eG g cls t) j=true→0≤(g.nd j).next∧(g.nd j).next<(eG g cls t).length:=fun j hj=>by
  rw[hil];exact mV hk (fi.1 hj).1
 have hh0:dR (eG g cls t) g 0<g.nodes.length:=ny hends (P:=fun i=>i<g.nodes.length) (fun i hi _=>by have:=hinx i hi;rw[hil] at this;show(g.nd i).next.toNat<_;omega) (by omega)
 unfold gD
 have hhc:=fun b H nx d hb hbn=>xj g hg t cls (eG g cls t) hil (by omega) hends hinx b H nx d hb hbn
 simp only[hil] at hhc
 generalize hid:eG g cls t=out at *
 refine aL DO rfl ?_
 repeat' (first|((with_reducible refine aE ?_);conv=>whnf)|refine aG ?_|exact cN|with_reducible refine aD ?_ ?_|((with_reducible refine Ask.mk ?_);first|exact bw|exact br|(intro h;simp_all[bz]<;>fail)|(simp_all[bz]<;>fail))|(apply aA;(·exact bm))|refine aH ?_|((with_reducible refine aB ?_ ?_)<;>intro hc<;>(try simp only[List.length_map,ne_eq,cD] at hc)<;>try(exfalso;omega)))
 refine aN (tR u g hg hk t cls hcl hcl64 _ _) ?_
 rintro _ H1 n1 ⟨bi,di,rfl,hb1,hb2,ri,hk1⟩
 rw[hid] at ri
 have r0:bj H1 nx=some (.row 40 4 (iW true [.string ⟨#[]⟩, .int .i64 0, .int .i64 0, .slice none 0 0]) [iW true [.string ⟨#[]⟩, .int .i64 0, .int .i64 0, .slice none 0 0]]):=(hk1 nx cH).trans bk
 have hk1':∀y,y<nx→bj H1 y=bj H y:=fun y hy=>(hk1 y (Nat.lt_of_lt_of_le hy cH)).trans bu
 have hb1':nx+2≤bi:=Nat.le_trans cH hb1
 clear hk1 hb1
 repeat' (first|((with_reducible refine aE ?_);conv=>whnf)|refine aG ?_|exact cN|with_reducible refine aD ?_ ?_|((with_reducible refine Ask.mk ?_);first|exact bw|exact br|(intro h;simp_all[bz]<;>fail)|(simp_all[bz]<;>fail))|(apply aA;(·exact bm))|refine aH ?_|((with_reducible refine aB ?_ ?_)<;>intro hc<;>(try simp only[List.length_map,ne_eq,cD] at hc)<;>try(exfalso;omega)))
 refine aN (hhc bi _ _ di bk cH) ?_
 rintro _ H2 n2 ⟨mm,dm,em,F,rfl,hm1,hm2,rm,hF,hk2⟩
 have hm1':n1+3≤mm:=Nat.le_trans cH hm1
 have r02:bj H2 nx=some (.row 40 4 (iW true [.string ⟨#[]⟩, .int .i64 0, .int .i64 0, .slice none 0 0]) [iW true [.string ⟨#[]⟩, .int .i64 0, .int .i64 0, .slice none 0 0]]):=(hk2 nx cH).trans bk
 have ri2:bj H2 bi=some (.row 4 1 di (out.map bl)):=(hk2 bi cH).trans bk
 have hk2':∀y,y<nx→bj H2 y=bj H y:=fun y hy=>(hk2 y (Nat.lt_of_lt_of_le hy cH)).trans (Eq.trans bu (hk1' y hy))
 clear hk2 hk1' ri r0
 have hF0:=hF 0 (by omega)
 have e0:pz false (.int .i64 0) (oF F) (i64 0)=some (i64 (dR out g 0:Int),true):=by
  rw[HG,show c9 F 0=some (dR out g 0:Int) from hF0];rfl
 repeat' (first|((with_reducible refine aE ?_);conv=>whnf)|refine aG ?_|exact cN|with_reducible refine aD ?_ ?_|((with_reducible refine Ask.mk ?_);first|exact bw|exact br|(intro h;simp_all[bz]<;>fail)|(simp_all[bz]<;>fail))|(apply aA;(·exact bm))|(apply aF (g:=none);(·exact fun _=>e0))|refine aH ?_|((with_reducible refine aB ?_ ?_)<;>intro hc<;>(try simp only[List.length_map,ne_eq,cD] at hc)<;>try(exfalso;omega)))
 have hbm:bi≠mm:=by omega
 have ho0:([i64 (dR out g 0:Int)]:List AV)=hC (eB g out 0):=rfl
 have hml:(out.map bl).length=g.nodes.length:=by rw[List.length_map,hil]
 have hrl:((cd g (-1)).map bl).length=g.nodes.length:=by rw[List.length_map,dP]
 refine aI (fun i:Nat=>[(0,eH g t cls),(2, .pt nx 1 0 0),(3, .sl bi g.nodes.length),(4, .mp mm),(5, .sl (n2+3) (eB g out i).length),(27,i64 g.nodes.length),(28,i64 i)])
  (fun i H' n'=>i≤g.nodes.length∧n2+11≤n'∧(∃d,bj H' nx=some (.row 40 4 d [ou]))∧(∃d,bj H' bi=some (.row 4 1 d (out.map bl)))∧(∃d,bj H' mm=some (.row em 0 d (mapA (oF F))))∧(∃d,bj H' (n2+3)=some (.row 3 1 d (hC (eB g out i))))∧∀y,y<nx→bj H' y=bj H y) (fun i=>g.nodes.length - i) 0 (by rw[←List.length_map (f:=Node.av)];exact bt) ⟨Nat.zero_le _,cH,⟨_,bk⟩,⟨_,bk⟩,⟨_,bk⟩,⟨_,by rw[←ho0];exact bk⟩,fun y hy=>Eq.trans bu (hk2' y hy)⟩ ?_
 clear r02 ri2 rm hk2'
 rintro i H3 n3 ⟨hi,hn3,⟨dg,rg⟩,⟨di,ri⟩,⟨dm,rm⟩,⟨d5,r5⟩,hk3⟩
 by_cases hilt:i<g.nodes.length
 ·have er:=fun d=>l7 (l:=cd g (-1)) (k:=i) d (by rw[dP];exact hilt)
  have eo:=fun d=>gR (l:=out) (k:=i) (by rw[hil];exact hilt) d
  have hnx:=oJ g out i
  have hol:=jv (m:=i) hh0 hi
  have homl:(hC (eB g out i)).length=(eB g out i).length:=by simp[hC]
  cases hrc:gl (cd g (-1)) (i:Int) with
  |false=>
   rw[hrc] at er
   rw[if_neg (by unfold iO;rw[hrc];simp)] at hnx
   repeat' (first|((with_reducible refine aE ?_);conv=>whnf)|refine aG ?_|exact cN|with_reducible refine aD ?_ ?_|((with_reducible refine Ask.mk ?_);first|exact bw|(exact hrl)|(exact hml)|exact br|(intro h;simp_all[bz]<;>fail)|(simp_all[bz]<;>fail))|(apply aA;(·(first|exact er _|exact eo _|exact bm)))|(apply aF (g:=none);(·exact fun _=>e0))|(apply aF (g:=some _);(·exact fun _=>e0))|refine aH ?_|((with_reducible refine aB ?_ ?_)<;>intro hc<;>(try simp only[List.length_map,ne_eq,cD] at hc)<;>try(exfalso;omega)))
   exact⟨i+1,by omega,by rw[hnx];exact bt,by omega,by omega,⟨_,bk⟩,⟨_,bk⟩,⟨_,bk⟩,⟨_,by rw[hnx];exact bk⟩,fun y hy=>Eq.trans bu (hk3 y hy)⟩
  |true=>
   rw[hrc] at er
   cases hto:tf out i with
   |true=>
    rw[show out.getD i false=true from hto] at eo
    rw[if_neg (by unfold iO;rw[hto];simp)] at hnx
    repeat' (first|((with_reducible refine aE ?_);conv=>whnf)|refine aG ?_|exact cN|with_reducible refine aD ?_ ?_|((with_reducible refine Ask.mk ?_);first|exact bw|(exact hrl)|(exact hml)|exact br|(intro h;simp_all[bz]<;>fail)|(simp_all[bz]<;>fail))|(apply aA;(·(first|exact er _|exact eo _|exact bm)))|(apply aF (g:=none);(·exact fun _=>e0))|(apply aF (g:=some _);(·exact fun _=>e0))|refine aH ?_|((with_reducible refine aB ?_ ?_)<;>intro hc<;>(try simp only[List.length_map,ne_eq,cD] at hc)<;>try(exfalso;omega)))
    exact⟨i+1,by omega,by rw[hnx];exact bt,by omega,by omega,⟨_,bk⟩,⟨_,bk⟩,⟨_,bk⟩,⟨_,by rw[hnx];exact bk⟩,fun y hy=>Eq.trans bu (hk3 y hy)⟩
   |false=>
    rw[show out.getD i false=false from hto] at eo
    by_cases hih:i=dR out g 0
    ·have hihz:((i:Int)=(dR out g 0:Int)):=by omega
     rw[if_neg (by unfold iO;rw[decide_eq_false (fun h=>h hih)];simp)] at hnx
     repeat' (first|((with_reducible refine aE ?_);conv=>whnf)|refine aG ?_|exact cN|with_reducible refine aD ?_ ?_|((with_reducible refine Ask.mk ?_);first|exact bw|(exact hrl)|(exact hml)|exact br|(intro h;simp_all[bz]<;>fail)|(simp_all[bz]<;>fail))|(apply aA;(·(first|exact er _|exact eo _|exact bm)))|(apply aF (g:=none);(·exact fun _=>e0))|(apply aF (g:=some _);(·exact fun _=>e0))|refine aH ?_|((with_reducible refine aB ?_ ?_)<;>intro hc<;>(try simp only[List.length_map,ne_eq,cD] at hc)<;>try(exfalso;omega)))
     exact⟨i+1,by omega,by rw[hnx];exact bt,by omega,by omega,⟨_,bk⟩,⟨_,bk⟩,⟨_,bk⟩,⟨_,by rw[hnx];exact bk⟩,fun y hy=>Eq.trans bu (hk3 y hy)⟩
    ·rw[if_pos (by unfold iO;rw[hrc,hto,decide_eq_true hih];rfl)] at hnx
     repeat' (first|((with_reducible refine aE ?_);conv=>whnf)|refine aG ?_|exact cN|with_reducible refine aD ?_ ?_|((with_reducible refine Ask.mk ?_);first|exact bw|(exact hrl)|(exact hml)|exact br|(intro h;simp_all[bz]<;>fail)|(simp_all[bz]<;>fail))|(apply aA;(·(first|exact er _|exact eo _|exact bm)))|(apply aF (g:=none);(·exact fun _=>e0))|(apply aF (g:=some _);(·exact fun _=>e0))|refine aH ?_|((with_reducible refine aB ?_ ?_)<;>intro hc<;>(try simp only[List.length_map,ne_eq,cD] at hc)<;>try(exfalso;omega)))
     ·exact⟨i+1,by omega,by rw[hnx];exact bt,by omega,by omega,⟨_,bk⟩,⟨_,bk⟩,⟨_,bk⟩,⟨_,by rw[hnx,←wX];exact bk⟩,fun y hy=>Eq.trans bu (hk3 y hy)⟩
     ·exact hc.elim (fun h=>absurd ⟨trivial,trivial⟩ h) (fun h=>absurd (Int.ofNat.inj h) hih)
 ·have:i=g.nodes.length:=by omega
  subst this
  have hnd:=iV g out g.nodes.length
  have hlt:=nP (m:=g.nodes.length) hh0 (Nat.le_refl _)
  have hol:=jv (m:=g.nodes.length) hh0 (Nat.le_refl _)
  rw[p9] at r5 hnd hlt hol ⊢
  generalize cX g out=o at *
  have homl:(hC o).length=o.length:=by simp[hC]
  repeat' (first|((with_reducible refine aE ?_);conv=>whnf)|refine aG ?_|exact cN|with_reducible refine aD ?_ ?_|((with_reducible refine Ask.mk ?_);first|exact bw|(exact homl)|exact br)|(apply aA;(·exact bm))|refine aH ?_|((with_reducible refine aB ?_ ?_)<;>intro hc<;>(try simp only[List.length_map,ne_eq,cD] at hc)<;>try(exfalso;omega)))
  refine aI (fun k:Nat=>[(0,eH g t cls),(2, .pt nx 1 0 0),(4, .mp mm),(5, .sl (n2+3) o.length),(7, .mp (n3+1)),(57, .sl (n2+3) o.length),(58,i64 o.length),(59,i64 k)])
   (fun k H' n'=>k≤o.length∧n3+6≤n'∧(∃d,bj H' nx=some (.row 40 4 d [ou]))∧(∃d,bj H' mm=some (.row em 0 d (mapA (oF F))))∧(∃d,bj H' (n2+3)=some (.row 3 1 d (hC o)))∧(∃d,bj H' (n3+1)=some (.row 3 0 d (mapA (oF (pZ o k)))))∧∀y,y<nx→bj H' y=bj H y) (fun k=>o.length - k) 0 bt ⟨Nat.zero_le _,cH,⟨_,bk⟩,⟨_,bk⟩,⟨_,bk⟩,⟨_,bk⟩,fun y hy=>Eq.trans bu (hk3 y hy)⟩ ?_
  clear rg ri rm r5 hk3
  rintro k H4 n4 ⟨hkl,hn4,⟨dg,rg⟩,⟨dm,rm⟩,⟨d5,r5⟩,⟨d7,r7⟩,hk4⟩
  by_cases hk:k<o.length
  ·have eo:=fun d=>oy (l:=o) (i:=k) hk d
   have hnx:=rU o k
   repeat' (first|((with_reducible refine aE ?_);conv=>whnf)|refine aG ?_|exact cN|with_reducible refine aD ?_ ?_|((with_reducible refine Ask.mk ?_);first|exact bw|(exact homl)|exact br)|(apply aA;(·(first|exact eo _|exact bm)))|(apply aF (g:=none);(·exact fun _=>J6 _ _ _))|refine aH ?_|((with_reducible refine aB ?_ ?_)<;>intro hc<;>(try simp only[List.length_map,ne_eq,cD] at hc)<;>try(exfalso;omega)))
   exact⟨k+1,by omega,bt,by omega,by omega,⟨_,bk⟩,⟨_,bk⟩,⟨_,bk⟩,⟨_,by rw[hnx];exact bk⟩,fun y hy=>Eq.trans bu (hk4 y hy)⟩
  ·have:k=o.length:=by omega
   subst this
   have hpl:=fun i=>A1 hnd i
   generalize pZ o o.length=NE at *
   repeat' (first|((with_reducible refine aE ?_);conv=>whnf)|refine aG ?_|exact cN|with_reducible refine aD ?_ ?_|((with_reducible refine Ask.mk ?_);first|exact bw|(exact homl)|exact br|(intro h;simp_all[bz]<;>fail)|(simp_all[bz]<;>fail))|(apply aA;(·exact bm))|refine aH ?_|((with_reducible refine aB ?_ ?_)<;>intro hc<;>(try simp only[List.length_map,ne_eq,cD] at hc)<;>try(exfalso;omega)))
   have hndl:(g.nodes.map Node.av).length=g.nodes.length:=by simp
   refine aR (fun k:Nat=>[(0,eH g t cls),(2, .pt nx 1 0 0),(4, .mp mm),(7, .mp (n3+1)),(10, .pt (n4+5) 1 0 0),(73, .sl (n2+3) o.length),(74,i64 o.length),(75,i64 k)])
    (fun k H' n'=>k≤o.length∧n4+13≤n'∧(∃d,bj H' nx=some (.row 40 4 d [ou]))∧(∃d,bj H' mm=some (.row em 0 d (mapA (oF F))))∧(∃d,bj H' (n2+3)=some (.row 3 1 d (hC o)))∧(∃d,bj H' (n3+1)=some (.row 3 0 d (mapA (oF NE))))∧(∃d,bj H' (n4+5)=some (.row 40 4 d [.agg [st g.name,i64 g.locals,i64 g.cf, .sl (n4+12) k]]))∧(∃d,bj H' (n4+12)=some (.row 46 13 d ((o.take k).map fun i=>(cz g out o (g.nd i)).av)))∧∀y,y<nx→bj H' y=bj H y) (fun k=>o.length - k) 0
    ⟨_,_,_,Rt.wk (Wk.qM (b:=n4+5) (e:=46) (sz:=13) (by omega) (by omega) (te:=40) (tz:=4) (cs:=[st g.name,i64 g.locals,i64 g.cf, .sc (.slice none 0 0)]) (j:=3) bk (by show 3<4;omega) rfl),bt,Nat.zero_le _,cH,⟨_,bk⟩,⟨_,bk⟩,⟨_,bk⟩,⟨_,bk⟩,⟨_,bk⟩,⟨_,bk⟩,fun y hy=>Eq.trans bu (hk4 y hy)⟩ ?_
   clear rg rm r5 r7 hk4
   rintro k H5 n5 ⟨hkl,hn5,⟨dg,rg⟩,⟨dm,rm⟩,⟨d5,r5⟩,⟨d7,r7⟩,⟨dc,rc⟩,⟨dq,rq⟩,hk5⟩
   by_cases hkk:k<o.length
   ·have eo:=fun d=>oy (l:=o) (i:=k) hkk d
    have hom:o.getD k 0<g.nodes.length:=hlt _ (by simp only[List.getD,List.getElem?_eq_getElem hkk,Option.getD_some];exact List.getElem_mem hkk)
    have htk:(o.take (k+1)).map (fun i=>(cz g out o (g.nd i)).av)=(o.take k).map (fun i=>(cz g out o (g.nd i)).av)++[(cz g out o (g.nd (o.getD k 0))).av]:=by
     rw[List.take_succ_eq_append_getElem hkk,List.map_append,show o.getD k 0=o[k] by simp only[List.getD,List.getElem?_eq_getElem hkk,Option.getD_some]];rfl
    generalize o.getD k 0=i at *
    have en:=fun d=>dy (l:=g.nodes) (i:=i) hom d
    have hnk:mq u g (g.nd i):=hk0.nodes _ (by simp only[bo.nd,List.getD,List.getElem?_eq_getElem hom,Option.getD_some];exact List.getElem_mem hom)
    have hx:∀z:Int,0≤z→z<g.nodes.length→pz false (.int .i64 z) (oF F) (i64 0)=some (i64 (dR out g z.toNat:Int),true):=fun z h0 h1=>by
     have:=hF z.toNat (by omega)
     rw[Int.toNat_of_nonneg h0] at this
     rw[HG,this];rfl
    have hp:∀j:Nat,pz false (.int .i64 (j:Int)) (oF NE) (i64 0)=some (i64 (dv o j:Int),(c9 NE (j:Int)).isSome):=fun j=>by rw[HG,hpl]
    have hql:((o.take k).map fun i=>(cz g out o (g.nd i)).av).length=k:=by rw[List.length_map,List.length_take];omega
    by_cases h9:(g.nodes.getD i default).kind=9
    ·repeat' (first|((with_reducible refine aE ?_);conv=>whnf)|refine aG ?_|exact cN|with_reducible refine aD ?_ ?_|((with_reducible refine Ask.mk ?_);first|exact bw|(exact homl)|(exact hndl)|(exact hql)|(exact absurd h9 hc)|(simp only[h9])|exact br|(intro h;simp_all[bz,Node.cells]<;>fail)|(simp_all[bz,Node.cells]<;>fail))|(apply aA;(·(first|exact eo _|exact en _|exact bm)))|refine aH ?_|((with_reducible refine aB ?_ ?_)<;>intro hc<;>(try simp only[List.length_map,ne_eq,cD] at hc)<;>try(exfalso;omega)))
     all_goals first|exact hql|exact rfl|skip
     have hre:(cz g out o (g.nd i)).av=(g.nodes.getD i default).av:=by
      unfold cz;rw[if_neg (fun h=>h h9),if_neg (fun h=>by have h':(g.nodes.getD i default).kind=8:=h;omega)]
     exact⟨k+1,by omega,_,_,_,Rt.refl _ _ _,bt,by omega,by omega,⟨_,bk⟩,⟨_,bk⟩,⟨_,bk⟩,⟨_,bk⟩,⟨_,bk⟩,⟨_,by rw[htk,hre];exact bk⟩,fun y hy=>Eq.trans bu (hk5 y hy)⟩
    ·have hnn:=hnk.next.1 (by unfold eF;exact decide_eq_true (by have:=hnk.kind;have h9':¬(g.nd i).kind=9:=h9;omega))
     have e1:=hx _ hnn.1 hnn.2
     have e2:=hp (dR out g (g.nd i).next.toNat)
     by_cases h8:(g.nodes.getD i default).kind=8
     ·have hee:=hnk.jT.1 h8
      have e3:=hx _ hee.1 hee.2
      have e4:=hp (dR out g (g.nd i).jT.toNat)
      repeat' (first|((with_reducible refine aE ?_);conv=>whnf)|refine aG ?_|exact cN|with_reducible refine aD ?_ ?_|((with_reducible refine Ask.mk ?_);first|exact bw|(exact homl)|(exact hndl)|(exact absurd h8 hc)|exact br|(intro h;simp_all[bz,Node.cells]<;>fail)|(simp_all[bz,Node.cells]<;>fail))|(apply aA;(·(first|exact eo _|exact en _|exact bm)))|(apply aF (g:=none);(·exact fun _=>e1))|(apply aF (g:=none);(·exact fun _=>e2))|(apply aF (g:=none);(·exact fun _=>e3))|(apply aF (g:=none);(·exact fun _=>e4))|refine aH ?_|((with_reducible refine aB ?_ ?_)<;>intro hc<;>(try simp only[List.length_map,ne_eq,cD] at hc)<;>try(exfalso;omega)))
      all_goals first|exact hql|exact rfl|skip
      have hre:(cz g out o (g.nd i)).av=(.agg [u8 (g.nd i).kind,u8 (g.nd i).op,i64 (g.nd i).slot,i64 (g.nd i).cP,bl (g.nd i).a.dr,i64 (g.nd i).a.slot,i64 (g.nd i).a.word,bl (g.nd i).b.dr,i64 (g.nd i).b.slot,i64 (g.nd i).b.word,i64 (dv o (dR out g (g.nd i).next.toNat):Int),i64 (dv o (dR out g (g.nd i).jT.toNat):Int),i64 (g.nd i).origin]):=by
       unfold cz;rw[if_pos h9,if_pos h8];rfl
      exact⟨k+1,by omega,_,_,_,Rt.refl _ _ _,bt,by omega,by omega,⟨_,bk⟩,⟨_,bk⟩,⟨_,bk⟩,⟨_,bk⟩,⟨_,bk⟩,⟨_,by rw[htk,hre];exact bk⟩,fun y hy=>Eq.trans bu (hk5 y hy)⟩
     ·repeat' (first|((with_reducible refine aE ?_);conv=>whnf)|refine aG ?_|exact cN|with_reducible refine aD ?_ ?_|((with_reducible refine Ask.mk ?_);first|exact bw|(exact homl)|(exact hndl)|(exact absurd hc h8)|exact br|(intro h;simp_all[bz,Node.cells]<;>fail)|(simp_all[bz,Node.cells]<;>fail))|(apply aA;(·(first|exact eo _|exact en _|exact bm)))|(apply aF (g:=none);(·exact fun _=>e1))|(apply aF (g:=none);(·exact fun _=>e2))|refine aH ?_|((with_reducible refine aB ?_ ?_)<;>intro hc<;>(try simp only[List.length_map,ne_eq,cD] at hc)<;>try(exfalso;omega)))
      all_goals first|exact hql|exact rfl|skip
      have hre:(cz g out o (g.nd i)).av=(.agg [u8 (g.nd i).kind,u8 (g.nd i).op,i64 (g.nd i).slot,i64 (g.nd i).cP,bl (g.nd i).a.dr,i64 (g.nd i).a.slot,i64 (g.nd i).a.word,bl (g.nd i).b.dr,i64 (g.nd i).b.slot,i64 (g.nd i).b.word,i64 (dv o (dR out g (g.nd i).next.toNat):Int),i64 (g.nd i).jT,i64 (g.nd i).origin]):=by
       unfold cz;rw[if_pos h9,if_neg h8];rfl
      exact⟨k+1,by omega,_,_,_,Rt.refl _ _ _,bt,by omega,by omega,⟨_,bk⟩,⟨_,bk⟩,⟨_,bk⟩,⟨_,bk⟩,⟨_,bk⟩,⟨_,by rw[htk,hre];exact bk⟩,fun y hy=>Eq.trans bu (hk5 y hy)⟩
   ·have:k=o.length:=by omega
    subst this
    rw[List.take_length] at rq
    repeat' (first|((with_reducible refine aE ?_);conv=>whnf)|refine aG ?_|exact cN|with_reducible refine aD ?_ ?_|((with_reducible refine Ask.mk ?_);first|exact bw|(exact homl)|exact br|(intro h;simp_all[bz]<;>fail)|(simp_all[bz]<;>fail))|(apply aA;(·exact bm))|refine aH ?_|((with_reducible refine aB ?_ ?_)<;>intro hc<;>(try simp only[List.length_map,ne_eq,cD] at hc)<;>try(exfalso;omega)))
    exact⟨n4+12,_,by rw[List.length_map],by omega,by omega,by rw[List.map_map];exact bk,fun y hy=>Eq.trans bu (hk5 y hy)⟩
end Go.Proofs.YtmonponfppdgfaaGreatDoor
end
section
/- Once: the walk. -/
namespace Go.Proofs.YtmonponfppdgfaaGreatDoor
open Go Go.ch Go.Proofs
set_option linter.unusedSimpArgs false
set_option linter.unusedVariables false
theorem jm (g:bo):cG 0 g.av:=by simp[cG,cL,bo.cells,mN]
theorem gV (u:bp):cG 0 u.av:=by simp[cG,cL,bp.cells,gK,kq]
theorem yG (u:bp) (g:bo) (hg:g.Wf) (hk:dL u g) (t:Nat) (cls:List cB) (hcl:cls.length=u.shared.length) (hcl64:cls.length≤64):Pure Tryz.prog 29 [eH g t cls] (fun r=>r=(gD g cls t).av):=by
 refine cT ((A2 u g hg hk t cls hcl hcl64 [] 0).mono ?_) (jm _)
 rintro r H2 n2 ⟨b,d,rfl,_,_,hb,_⟩
 rw[show ch.dk H2 6 (.agg [st g.name,i64 g.locals,i64 g.cf, .sl b (gD g cls t).nodes.length])= .agg ([st g.name,i64 g.locals,i64 g.cf, .sl b (gD g cls t).nodes.length].map (ch.dk H2 5)) from rfl]
 simp only[List.map_cons,List.map_nil]
 rw[dB 5 (by simp[cG]),dB 5 (by simp[cG]),dB 5 (by simp[cG]),dH hb (by simp),ca _ (mN _)]
 rfl
theorem nn {H:Hp} {k:Nat} {cs:List AV}:ch.dk H (k+1) (.agg cs)= .agg (cs.map (ch.dk H k)):=by simp only[dk]
noncomputable def iS (u:bp) (t:Nat):List bo:=(List.range t).map fun t=>gD (u.gr t) (cu u) t
theorem p6 (u:bp) (t:Nat):iS u (t+1)=iS u t++[gD (u.gr t) (cu u) t]:=by
 rw[iS,List.range_succ,List.map_append];rfl
theorem iT (u:bp) (t:Nat):(iS u t).length=t:=by simp[iS]
noncomputable def jb (u v:bp):AV:=if lD u=true then .dI [v.av,i64 0] else .dI [(⟨[],[],[]⟩:bp).av,i64 60]
theorem BR (u:bp) (hu:u.Wf) (hr:¬c8 u):Pure Tryz.prog 9 [u.av] (fun r=>r= .dI [.agg [.sc (.slice none 0 0), .sc (.slice none 0 0), .sc (.slice none 0 0)],i64 60]):=by
 have hc:=nB u hu
 have h60:=kj hr
 generalize gO u=c3 at *
 obtain⟨c1,c2,c3⟩:=c3
 simp only at h60
 subst h60
 refine aJ KQ rfl ?_
 repeat' (first|((with_reducible refine aE ?_);conv=>whnf)|refine aG ?_|exact cN|with_reducible refine aD ?_ ?_|((with_reducible refine Ask.mk ?_);first|exact bw|exact br|(intro h;simp_all[bp.cells]<;>fail)|(simp_all[bp.cells]<;>fail))|(apply aA;(·exact bm))|refine aK (hc) ?_|refine aH ?_|((with_reducible refine aB ?_ ?_)<;>intro hc<;>(try simp only[List.length_map,ne_eq,cD] at hc)<;>try(exfalso;omega)))
 exact rfl
set_option maxRecDepth 4000 in
set_option maxHeartbeats 4000000 in
theorem mr (u:bp) (hu:u.Wf) (hr:c8 u):Pure Tryz.prog 9 [u.av] (fun r=>r= .dI [(dF u).av,i64 0]):=by
 have hc:=nB u hu
 rw[kN.2 hr] at hc
 have hsh:=pP u.shared hu.gL
 have hlk:=pP u.bx hu.gw
 have hfew:=hr.CD
 refine cT ?_ (by rw[cG,cL,cL,cL];exact⟨gV _,by simp[cG],trivial⟩)
 refine aL KQ rfl ?_
 repeat' (first|((with_reducible refine aE ?_);conv=>whnf)|refine aG ?_|exact cN|with_reducible refine aD ?_ ?_|((with_reducible refine Ask.mk ?_);first|exact bw|exact br|(intro h;simp_all[bp.cells]<;>fail)|(simp_all[bp.cells]<;>fail))|(apply aA;(·exact bm))|refine aK (hc) ?_|refine aK (hsh) ?_|refine aK (hlk) ?_|refine aH ?_|((with_reducible refine aB ?_ ?_)<;>intro hc<;>(try simp only[List.length_map,ne_eq,cD] at hc)<;>try(exfalso;omega)))
 have hg0:iS u 0=[]:=rfl
 refine aR (fun t:Nat=>[(1, .pt 0 1 0 0),(2, .pt 1 1 0 0),(7, .pt 20 1 0 0),(30,i64 u.bq.length),(31,i64 t)])
  (fun t H n=>t≤u.bq.length∧27≤n∧(∃d,bj H 0=some (.row 25 3 d [u.av]))∧(∃d,bj H 1=some (.row 25 3 d [iW true [.slice none 0 0, .slice none 0 0, .slice none 0 0]]))∧(∃d,bj H 20=some (.row 25 3 d [.agg [dM u.shared,dM u.bx, .sl 26 t]]))∧(∃d,bj H 26=some (.row 40 4 d ((iS u t).map bo.av)))) (fun t=>u.bq.length - t) 0
  ⟨_,_,_,Rt.wk (Wk.qM (b:=20) (e:=40) (sz:=4) (by simp only[List.length_cons,List.length_nil];omega) (by omega) (te:=25) (tz:=3) (cs:=[dM u.shared,dM u.bx, .sc (.slice none 0 0)]) (j:=2) bk (by show 2<3;omega) rfl),by rw[←List.length_map (f:=bo.av)];exact bt,Nat.zero_le _,cH,⟨_,bk⟩,⟨_,bk⟩,⟨_,bk⟩,⟨_,bk⟩⟩ ?_
 rintro t H n ⟨ht,hn,⟨d0,r0⟩,⟨d1,r1⟩,⟨d20,r20⟩,⟨dg,rg⟩⟩
 have hgl:((iS u t).map bo.av).length=t:=by rw[List.length_map,iT]
 by_cases htl:t<u.bq.length
 ·have ha:=qa u hu hr t htl
  have ho:=yG u (u.gr t) (hu.bq _ (cC default htl)) (hr.gr htl) t (cu u) (jK u) (by rw[jK];omega)
  have hnx:(iS u (t+1)).map bo.av=(iS u t).map bo.av++[(gD (u.gr t) (cu u) t).av]:=by rw[p6,List.map_append];rfl
  repeat' (first|((with_reducible refine aE ?_);conv=>whnf)|refine aG ?_|exact cN|with_reducible refine aD ?_ ?_|((with_reducible refine Ask.mk ?_);first|exact bw|(exact hgl)|exact br|(intro h;simp_all[bp.cells]<;>fail)|(simp_all[bp.cells]<;>fail))|(apply aA;(·exact bm))|refine aK (ha) ?_|refine aK (ho) ?_|refine aH ?_|((with_reducible refine aB ?_ ?_)<;>intro hc<;>(try simp only[List.length_map,ne_eq,cD] at hc)<;>try(exfalso;omega)))
  exact⟨t+1,by omega,_,_,_,Rt.refl _ _ _,bt,by omega,by omega,⟨_,bk⟩,⟨_,bk⟩,⟨_,bk⟩,⟨_,by rw[hnx];exact bk⟩⟩
 ·have:t=u.bq.length:=by omega
  subst this
  repeat' (first|((with_reducible refine aE ?_);conv=>whnf)|refine aG ?_|exact cN|with_reducible refine aD ?_ ?_|((with_reducible refine Ask.mk ?_);first|exact bw|(exact hgl)|exact br|(intro h;simp_all[bp.cells]<;>fail)|(simp_all[bp.cells]<;>fail))|(apply aA;(·exact bm))|refine aH ?_|((with_reducible refine aB ?_ ?_)<;>intro hc<;>(try simp only[List.length_map,ne_eq,cD] at hc)<;>try(exfalso;omega)))
  refine⟨lb.trans ?_⟩
  rw[oe 5 (by simp[cG])]
  refine congrArg (fun z=>AV.dI [z,i64 0]) ?_
  rw[nn]
  simp only[List.map_cons,List.map_nil]
  rw[dB 4 (by rw[cG];exact gK _),dB 4 (by rw[cG];exact gK _),dH (e:=40) (sz:=4) (d:=dg) (es:=(iS u u.bq.length).map bo.av) bk hgl,ca _ (kq _)]
  rfl
theorem rS {P:Program} {f:FuncId} {args:List AV} {n:Int} (h:Pure P f args (fun r=>r= .dI [.agg [.sc (.slice none 0 0), .sc (.slice none 0 0), .sc (.slice none 0 0)],i64 n])):Pure P f args (fun r=>r= .dI [(⟨[],[],[]⟩:bp).av,i64 n]):=by
 refine mT (u:= .dI [.agg [.sc (.slice none 0 0), .sc (.slice none 0 0), .sc (.slice none 0 0)],i64 n]) (h.mono fun r hr=> .inl hr) (by rw[cG,cL,cL,cL];exact⟨gV _,by simp[cG],trivial⟩) fun c=> ?_
 refine ch.dZ.dI (.cons (ch.dZ.agg (.cons ?_ (.cons ?_ (.cons ?_ .nil)))) (.cons (fun _ h=>h) .nil))
 ·exact ch.dZ.lx c c 3 .any
 ·exact ch.dZ.lx c c 3 .any
 ·exact ch.dZ.lx c c 4 .any
theorem zS (u:bp) (hu:u.Wf):Pure Tryz.prog 9 [u.av] (fun r=>r=jb u (dF u)):=by
 unfold jb
 by_cases hr:c8 u
 ·rw[if_pos (cV.2 hr)];exact mr u hu hr
 ·rw[if_neg (mt cV.1 hr)];exact rS (BR u hu hr)
theorem zX (u:bp) (hu:u.Wf) (hr:¬c8 u):Pure Tryz.prog 15 [u.av] (fun r=>r= .dI [(⟨[],[],[]⟩:bp).av,i64 60]):=by
 have ho:=zS u hu
 unfold jb at ho
 rw[if_neg (mt cV.1 hr)] at ho
 refine aJ AN rfl ?_
 repeat' (first|((with_reducible refine aE ?_);conv=>whnf)|refine aG ?_|exact cN|with_reducible refine aD ?_ ?_|((with_reducible refine Ask.mk ?_);first|exact bw|exact br|(intro h;simp_all[bp.cells]<;>fail)|(simp_all[bp.cells]<;>fail))|(apply aA;(·exact bm))|refine aK (ho) ?_|refine aH ?_|((with_reducible refine aB ?_ ?_)<;>intro hc<;>(try simp only[List.length_map,ne_eq,cD] at hc)<;>try(exfalso;omega)))
 refine ax ?_
 repeat' (first|((with_reducible refine aE ?_);conv=>whnf)|refine aG ?_|exact cN|with_reducible refine aD ?_ ?_|((with_reducible refine Ask.mk ?_);first|exact bw|exact br|(intro h;simp_all[bp.cells]<;>fail)|(simp_all[bp.cells]<;>fail))|(apply aA;(·exact bm))|refine aH ?_|((with_reducible refine aB ?_ ?_)<;>intro hc<;>(try simp only[List.length_map,ne_eq,cD] at hc)<;>try(exfalso;omega)))
 exact rfl
set_option maxRecDepth 4000 in
set_option maxHeartbeats 4000000 in
theorem pK (u:bp) (hu:u.Wf) (hr:c8 u):Pure Tryz.prog 15 [u.av] (fun r=>r= .dI [(kK u).av,i64 0]):=by
 have ho:=mr u hu hr
 have hfit:=fun v=>gV v
 refine aJ AN rfl ?_
 repeat' (first|((with_reducible refine aE ?_);conv=>whnf)|refine aG ?_|exact cN|with_reducible refine aD ?_ ?_|((with_reducible refine Ask.mk ?_);first|exact bw|exact br|(intro h;simp_all[bp.cells]<;>fail)|(simp_all[bp.cells]<;>fail))|(apply aA;(·exact bm))|refine aK (ho) ?_|refine aH ?_|((with_reducible refine aB ?_ ?_)<;>intro hc<;>(try simp only[List.length_map,ne_eq,cD] at hc)<;>try(exfalso;omega)))
 refine aI (fun v:bp=>[(2, .pt 1 1 0 0),(4, .pt 7 1 0 0),(5,i64 0)])
  (fun v H n=>10≤n∧c8 v∧v.Wf∧fO (fW v) v=kK u∧(∃d,bj H 1=some (.row 25 3 d [iW true [.slice none 0 0, .slice none 0 0, .slice none 0 0]]))∧(∃d,bj H 7=some (.row 25 3 d [v.av]))) (fun v=>fW v) (dF u) bt ⟨cH,fj hr,lB hu hr,(pD hr).symm,⟨_,bk⟩,⟨_,bk⟩⟩ ?_
 rintro v H n ⟨hn,hvr,hvw,hsw,⟨d1,r1⟩,⟨d8,r8⟩⟩
 have ho2:=mr v hvw hvr
 have hs:=uE (dF v) v (lB hvw hvr) hvw
 by_cases e:dF v=v
 ·rw[decide_eq_true e] at hs
  rw[nU hvr e] at hsw
  subst hsw
  repeat' (first|((with_reducible refine aE ?_);conv=>whnf)|refine aG ?_|exact cN|with_reducible refine aD ?_ ?_|((with_reducible refine Ask.mk ?_);first|exact bw|exact br|(intro h;simp_all[bp.cells]<;>fail)|(simp_all[bp.cells]<;>fail))|(apply aA;(·exact bm))|refine aK (ho2) ?_|refine aK (hs) ?_|refine aH ?_|((with_reducible refine aB ?_ ?_)<;>intro hc<;>(try simp only[List.length_map,ne_eq,cD] at hc)<;>try(exfalso;omega)))
  exact congrArg (fun z=>AV.dI [AV.agg z,i64 0]) (ca _ (vR 0 _))
 ·rw[decide_eq_false e] at hs
  obtain⟨h1,h2⟩:=wz hvr e
  repeat' (first|((with_reducible refine aE ?_);conv=>whnf)|refine aG ?_|exact cN|with_reducible refine aD ?_ ?_|((with_reducible refine Ask.mk ?_);first|exact bw|exact br|(intro h;simp_all[bp.cells]<;>fail)|(simp_all[bp.cells]<;>fail))|(apply aA;(·exact bm))|refine aK (ho2) ?_|refine aK (hs) ?_|refine aH ?_|((with_reducible refine aB ?_ ?_)<;>intro hc<;>(try simp only[List.length_map,ne_eq,cD] at hc)<;>try(exfalso;omega)))
  exact⟨dF v,h2,bt,by omega,fj hvr,lB hvw hvr,h1.symm.trans hsw,⟨_,bk⟩,⟨_,bk⟩⟩
theorem xN (u:bp) (hu:u.Wf):Pure Tryz.prog 15 [u.av] (fun r=>r=jb u (kK u)):=by
 unfold jb
 by_cases hr:c8 u
 ·rw[if_pos (cV.2 hr)];exact pK u hu hr
 ·rw[if_neg (mt cV.1 hr)];exact zX u hu hr
end Go.Proofs.YtmonponfppdgfaaGreatDoor
end
section
/- What the laws ask first: the walk. -/
namespace Go.Proofs.YtmonponfppdgfaaGreatDoor
open Go Go.ch Go.Proofs
set_option linter.unusedSimpArgs false
set_option linter.unusedVariables false
instance L9 (n:Int):Decidable (jE n):=inferInstanceAs (Decidable (_∧_))
def ND:Node:=⟨1,0,0,0,⟨false,0,1⟩,default,1,0,0⟩
def MZ:Node:=⟨1,0,0,0,⟨false,0,2⟩,default,2,0,1⟩
def M1:Node:=⟨7,0,0,0,⟨true,0,0⟩,default,3,0,2⟩
def M3:Node:=⟨9,0,0,0,default,default,0,0,3⟩
def m9:bo:=⟨⟨(List.toArray [97])⟩,0,1,[ND,MZ,M1,M3]⟩
def qC:bo:=⟨⟨(List.toArray [97])⟩,0,1,[{ MZ with next:=1 },{ M1 with next:=2 },M3]⟩
def sB:bp:=⟨[],[],[m9]⟩
def GV:bp:=⟨[],[],[qC]⟩
theorem kb:c8 sB:=⟨by decide+kernel,fun g hg=>by
 simp only[sB,List.mem_cons,List.not_mem_nil,or_false] at hg
 subst hg
 exact jo.1 (by decide+kernel)⟩
theorem tj:c8 GV:=⟨by decide+kernel,fun g hg=>by
 simp only[GV,List.mem_cons,List.not_mem_nil,or_false] at hg
 subst hg
 exact jo.1 (by decide+kernel)⟩
theorem ta {g:bo} (h:∀i,i<g.nodes.length→fc g (-1) (i:Int)):cd g (-1)=List.replicate g.nodes.length true:=by
 apply List.ext_getElem (by rw[dP,List.length_replicate])
 intro i h1 h2
 have hi:i<g.nodes.length:=by rw[←dP g (-1)];exact h1
 have e2:(cd g (-1))[i]=(cd g (-1)).getD i false:=by simp[List.getD,h1]
 rw[e2,(nR g (-1) hi).2 (h i hi)];simp
theorem k8:cd m9 (-1)=[true,true,true,true]:=by
 have c0:fc m9 (-1) 0:= .zero
 have c1:fc m9 (-1) 1:= .step c0 (by decide) (by decide)
 have c2:fc m9 (-1) 2:= .step c1 (by decide) (by decide)
 have c3:fc m9 (-1) 3:= .step c2 (by decide) (by decide)
 exact ta (g:=m9) fun i hi=>match i,hi with
  |0,_=>c0
  |1,_=>c1
  |2,_=>c2
  |3,_=>c3
theorem mU:cd qC (-1)=[true,true,true]:=by
 have c0:fc qC (-1) 0:= .zero
 have c1:fc qC (-1) 1:= .step c0 (by decide) (by decide)
 have c2:fc qC (-1) 2:= .step c1 (by decide) (by decide)
 exact ta (g:=qC) fun i hi=>match i,hi with
  |0,_=>c0
  |1,_=>c1
  |2,_=>c2
theorem lp:fq m9=[[false],[false],[true],[false]]:=by
 have hw:Whole m9:=(kb.bq m9 (by simp[sB])).whole
 refine(iw.fin hw (T:=[[false],[false],[true],[false]]) ⟨⟨rfl,by decide+kernel⟩,fun i k h=> ?_⟩ (fun i k hi hk=>(by decide+kernel:∀i,i<m9.nodes.length→∀k,k<m9.cf.toNat→eO m9 eE fN [[false],[false],[true],[false]] i k=true→dY [[false],[false],[true],[false]] i k=true) i hi k hk)).symm
 match i,k,h with
 |2,0,_=>exact .iY (by decide+kernel)
 |0,0,h=>exact absurd h (by decide)
 |1,0,h=>exact absurd h (by decide)
 |3,0,h=>exact absurd h (by decide)
 |0,k+1,h=>exact absurd h (by simp[dY])
 |1,k+1,h=>exact absurd h (by simp[dY])
 |2,k+1,h=>exact absurd h (by simp[dY])
 |3,k+1,h=>exact absurd h (by simp[dY])
 |i+4,k,h=>exact absurd h (by simp[dY])
theorem rL:fq qC=[[false],[true],[false]]:=by
 have hw:Whole qC:=(tj.bq qC (by simp[GV])).whole
 refine(iw.fin hw (T:=[[false],[true],[false]]) ⟨⟨rfl,by decide+kernel⟩,fun i k h=> ?_⟩ (fun i k hi hk=>(by decide+kernel:∀i,i<qC.nodes.length→∀k,k<qC.cf.toNat→eO qC eE fN [[false],[true],[false]] i k=true→dY [[false],[true],[false]] i k=true) i hi k hk)).symm
 match i,k,h with
 |1,0,_=>exact .iY (by decide+kernel)
 |0,0,h=>exact absurd h (by decide)
 |2,0,h=>exact absurd h (by decide)
 |0,k+1,h=>exact absurd h (by simp[dY])
 |1,k+1,h=>exact absurd h (by simp[dY])
 |2,k+1,h=>exact absurd h (by simp[dY])
 |i+3,k,h=>exact absurd h (by simp[dY])
theorem AH {l:List Bool} {g:bo} (h:∀i,tf l i=false):cx l g=List.replicate l.length false:=by
 apply List.ext_getElem (by rw[fM,List.length_replicate])
 intro i h1 h2
 have e:(cx l g)[i]=tf (cx l g) i:=by simp[tf,List.getD,h1]
 rw[e]
 cases hb:tf (cx l g) i with
 |false=>simp
 |true=>have:=(fi.1 hb).1;rw[h i] at this;cases this
theorem GL:jy m9 [] 0=[true,false,false,false]:=by
 have e0:dC m9 [] 0 0=true:=by unfold dC;rw[k8,lp];rfl
 have e1:dC m9 [] 0 1=false:=by unfold dC;rw[k8,lp];rfl
 have e2:dC m9 [] 0 2=false:=by unfold dC;rw[k8,lp];rfl
 have e3:dC m9 [] 0 3=false:=by unfold dC;rw[k8,lp];rfl
 show[dC m9 [] 0 0,dC m9 [] 0 1,dC m9 [] 0 2,dC m9 [] 0 3]=_
 rw[e0,e1,e2,e3]
theorem vo:eG m9 [] 0=[true,false,false,false]:=by
 unfold eG
 rw[GL]
 have hn:¬zW [true,false,false,false] m9 0:=by
  rintro⟨p,h1,h2,h3⟩
  by_cases e:p=1
  ·subst e;exact absurd h2 (by decide)
  ·exact absurd (h3 1 (by omega)) (by decide)
 have key:∀i,tf (cx [true,false,false,false] m9) i=tf [true,false,false,false] i:=fun i=>by
  rw[Bool.eq_iff_iff,fi]
  refine⟨fun h=>h.1,fun h=>⟨h, ?_⟩⟩
  match i,h with
  |0,_=>exact hn
  |1,h=>exact absurd h (by decide)
  |2,h=>exact absurd h (by decide)
  |3,h=>exact absurd h (by decide)
  |i+4,h=>exact absurd h (by simp[tf])
 exact js false (by rw[fM]) fun j _=>key j
theorem F4:gD m9 [] 0=qC:=by
 have ho:cX m9 [true,false,false,false]=[1,2,3]:=by unfold cX;rw[k8];decide+kernel
 unfold gD
 rw[vo,ho]
 decide+kernel
theorem GM:jy qC [] 0=[false,false,false]:=by
 have e0:dC qC [] 0 0=false:=by unfold dC;rw[mU,rL];rfl
 have e1:dC qC [] 0 1=false:=by unfold dC;rw[mU,rL];rfl
 have e2:dC qC [] 0 2=false:=by unfold dC;rw[mU,rL];rfl
 show[dC qC [] 0 0,dC qC [] 0 1,dC qC [] 0 2]=_
 rw[e0,e1,e2]
theorem F5:gD qC [] 0=qC:=by
 have hi:eG qC [] 0=[false,false,false]:=by
  unfold eG
  rw[GM]
  refine AH fun i=> ?_
  match i with
  |0=>rfl
  |1=>rfl
  |2=>rfl
  |i+3=>simp[tf]
 have ho:cX qC [false,false,false]=[0,1,2]:=by unfold cX;rw[mU];decide+kernel
 unfold gD
 rw[hi,ho]
 decide+kernel
theorem F1:dF sB=GV:=by
 show({ sB with bq:=[gD m9 [] 0] }:bp)=GV
 rw[F4];rfl
theorem F3:dF GV=GV:=by
 show({ GV with bq:=[gD qC [] 0] }:bp)=GV
 rw[F5];rfl
theorem GP:kK sB=GV:=by
 rw[pD kb,F1]
 exact nU tj F3
theorem GW:sB.Wf:=by
 refine⟨fun _ h=>by simp[sB] at h,by simp[sB],fun _ h=>by simp[sB] at h,by simp[sB],fun g hg=> ?_,by simp[sB]⟩
 simp only[sB,List.mem_cons,List.not_mem_nil,or_false] at hg
 subst hg
 refine⟨by decide+kernel,by decide+kernel,by decide+kernel,fun n hn=> ?_,by decide+kernel⟩
 simp only[m9,List.mem_cons,List.not_mem_nil,or_false] at hn
 rcases hn with rfl|rfl|rfl|rfl<;>exact⟨by decide+kernel,by decide+kernel,by decide+kernel,by decide+kernel,⟨by decide+kernel,by decide+kernel⟩,⟨by decide+kernel,by decide+kernel⟩,by decide+kernel,by decide+kernel,by decide+kernel⟩
theorem xT (l m:List Bool) (hl:l.length≤4096) (hm:m.length≤4096):Pure Tryz.prog 11 [fp l,fp m] (fun r=>r=bl (decide (l=m))):=by
 refine aJ DG rfl ?_
 unfold fp
 repeat' (first|((with_reducible refine aE ?_);conv=>whnf)|refine aG ?_|exact aC|with_reducible refine aD ?_ ?_|(apply aA;(·exact bm))|refine aH ?_|((with_reducible refine aB ?_ ?_)<;>intro hc<;>(try simp only[List.length_map,ne_eq,cD] at hc)<;>try(exfalso;omega)))
 ·refine cg (Eq.symm ?_)
  exact decide_eq_false fun e=>hc (by rw[e])
 ·have hlm:l.length=m.length:=by omega
  refine aI (fun i:Nat=>[(0,fp l),(1,fp m),(5,i64 i)])
   (fun i H n=>i≤l.length∧∀j,j<i→l.getD j false=m.getD j false) (fun i=>l.length - i) 0 bt ⟨Nat.zero_le _,fun _ h=>by omega⟩ ?_
  unfold fp
  rintro i H n ⟨hi,hall⟩
  by_cases hil:i<l.length
  ·have e1:=fun d=>gR (l:=l) hil d
   have e2:=fun d=>gR (l:=m) (k:=i) (by omega) d
   repeat' (first|((with_reducible refine aE ?_);conv=>whnf)|refine aG ?_|exact aC|with_reducible refine aD ?_ ?_|(apply aA;(·(first|exact e1 _|exact e2 _|exact bm)))|refine aH ?_|((with_reducible refine aB ?_ ?_)<;>intro hc<;>(try simp only[List.length_map,ne_eq,cD] at hc)<;>try(exfalso;omega)))
   ·refine cg (Eq.symm ?_)
    refine decide_eq_false fun e=> ?_
    rw[e] at hc
    simp at hc
   ·refine⟨i+1,by omega,bt,by omega,fun j hj=> ?_⟩
    by_cases hji:j=i
    ·subst hji;simpa using hc
    ·exact hall j (by omega)
  ·have:i=l.length:=by omega
   subst this
   repeat' (first|((with_reducible refine aE ?_);conv=>whnf)|refine aG ?_|exact aC|with_reducible refine aD ?_ ?_|(apply aA;(·exact bm))|refine aH ?_|((with_reducible refine aB ?_ ?_)<;>intro hc<;>(try simp only[List.length_map,ne_eq,cD] at hc)<;>try(exfalso;omega)))
   refine cg (Eq.symm ?_)
   exact decide_eq_true (js false hlm hall)
theorem yh:Pure Tryz.prog 34 [] (fun r=>r=sB.av):=by
 have h:Pure Tryz.prog 34 [] (fun r=>r= .agg [.sc (.slice none 0 0), .sc (.slice none 0 0),fG [m9]]):=by
  refine cT ?_ (by rw[cG,cL,cL,cL,cL];exact⟨by simp[cG],by simp[cG],by rw[cG];exact kq _,trivial⟩)
  refine aL DT rfl ?_
  repeat' (first|((with_reducible refine aE ?_);conv=>whnf)|refine aG ?_|exact aC|with_reducible refine aD ?_ ?_|(apply aA;(·exact bm))|refine aH ?_|((with_reducible refine aB ?_ ?_)<;>intro hc<;>(try simp only[List.length_map,ne_eq,cD] at hc)<;>try(exfalso;omega)))
  exact⟨by kernel_rfl⟩
 refine mT (u:= .agg [.sc (.slice none 0 0), .sc (.slice none 0 0),fG [m9]]) (h.mono fun r hr=> .inl hr) (gV _) fun c=> ?_
 refine ch.dZ.agg (.cons ?_ (.cons ?_ (.cons (fun _ h=>h) .nil)))
 ·exact ch.dZ.lx c c 3 .any
 ·exact ch.dZ.lx c c 3 .any
theorem xS (l m:List Bool) (hl:l.length≤4096) (hm:m.length≤4096) {b:Nat} {H:Hp} {nx:Nat} {e:TypeId} {d:AV} (hb:bj H b=some (.row e 1 d (m.map bl))):kB Tryz.prog 11 [fp l, .sl b m.length] H nx (bl (decide (l=m))):=by
 refine Pure.view (args2:=[fp l,fp m]) (xT l m hl hm) ?_ (by simp[cL,cG,fp,cJ]) trivial ⟨rfl,fun _ _=>rfl⟩
 rw[List.map_cons,List.map_cons,List.map_nil,dB 6 (by simp[cG,fp,cJ]),dH hb (by simp),ca _ (jU _ _)]
 rfl
theorem vF {b:Nat} {H:Hp} {nx:Nat} {e:TypeId} {d:AV} (hb:bj H b=some (.row e 1 d [bl true,bl false,bl false,bl false])):kB Tryz.prog 11 [fp [true,false,false,false], .sl b 4] H nx (bl true):=
 xS [true,false,false,false] [true,false,false,false] (by decide) (by decide) hb
set_option maxRecDepth 4000 in
set_option maxHeartbeats 4000000 in
theorem vC:Pure Tryz.prog 13 [] (fun r=>r=bl true):=by
 have hcl:cu sB=[]:=rfl
 have h1:Pure Tryz.prog 7 [sB.av,i64 0] (fun r=>r= .dI [fp [true,false,false,false],i64 0]):=by
  have:=zP sB GW 0
  unfold xu at this
  rw[if_pos (cV.2 kb),if_neg (by decide),hcl,show sB.gr (0:Int).toNat=m9 from rfl,show(0:Int).toNat=0 from rfl,vo] at this
  exact this
 have h2:Pure Tryz.prog 15 [sB.av] (fun r=>r= .dI [GV.av,i64 0]):=by
  have:=pK sB GW kb
  rw[GP] at this
  exact this
 have h3:Pure Tryz.prog 17 [sB.av,i64 0] (fun r=>r= .dI [.im 1 .any ([[false],[false],[true],[false]].map fp),i64 0]):=by
  have:=zQ sB GW 0
  unfold GQ at this
  rw[if_pos (cV.2 kb),if_neg (by decide),show sB.gr (0:Int).toNat=m9 from rfl,lp] at this
  exact this
 have h0:=yh
 refine aJ DI rfl ?_
 repeat' (first|((with_reducible refine aE ?_);conv=>whnf)|refine aG ?_|exact cN|with_reducible refine aD ?_ ?_|((with_reducible refine Ask.mk ?_);first|exact bw|exact br|(intro h;simp_all[bp.cells,bo.cells,Node.cells]<;>fail)|(simp_all[bp.cells,bo.cells,Node.cells]<;>fail))|(apply aA;(·(first|exact rfl|exact bm)))|refine aK (h0) ?_|refine aK (h1) ?_|refine aK (h2) ?_|refine aK (h3) ?_|((refine aT (vF (by exact bk)) ?_ ?_);(·exact True.intro))|((refine aS (fun _=>vF (by exact bk)) ?_ ?_);(·exact True.intro))|refine aH ?_|((with_reducible refine aB ?_ ?_)<;>intro hc<;>(try simp only[List.length_map,ne_eq,cD] at hc)<;>try(exfalso;omega)))
 all_goals first|exact⟨⟨by decide+kernel,by decide+kernel⟩⟩|exact rfl
end Go.Proofs.YtmonponfppdgfaaGreatDoor
end
section
/- The document's Live and Waits: the walk. -/
namespace Go.Proofs.YtmonponfppdgfaaGreatDoor
open Go Go.ch Go.Proofs
set_option linter.unusedSimpArgs false
set_option linter.unusedVariables false
@[simp] theorem JM (n:Nat) (v:cB):cL n v.cells:=by simp[cB.cells,cL,cG]
end Go.Proofs.YtmonponfppdgfaaGreatDoor
end
