import Derived.Test.YtmonponfppdgfaaGreatDoorM30
import Derived.Test.YtmonponfppdgfaaGreatDoorM34
section
/- What can be left out: the walk. -/
namespace Go.Proofs.YtmonponfppdgfaaGreatDoor
open Go Go.ch Go.Proofs
set_option linter.unusedSimpArgs false
set_option linter.unusedVariables false
theorem MX {p:Prop} (h:Go p):p:=h
theorem nZ.cE {b:Nat} {ids:List Nat} {T:hZ} {H H':Hp} (h:nZ b ids T H) (hk:∀x∈b::ids,bj H' x=bj H x):nZ b ids T H':=ug.cE h hk
def cW (l:List Bool) (m:Nat):List Bool:=l++List.replicate (m - l.length) false
theorem ph {l:List Bool} {m:Nat} (h:l.length<m) (v:Bool):((cW l m).map bl).set ((l.length:Nat):Int).toNat (bl v)=(cW (l++[v]) m).map bl:=by
 rw[Int.toNat_natCast,←List.map_set,cW,List.set_append,if_neg (by omega),Nat.sub_self,show m - l.length=(m - (l++[v]).length)+1 by simp;omega,List.replicate_succ,cW]
 simp
theorem kJ {l:List Bool} {m:Nat} (h:l.length<m):cW (l++[false]) m=cW l m:=by
 rw[cW,cW,show m - l.length=(m - (l++[false]).length)+1 by simp;omega,List.replicate_succ];simp
theorem iq {l:List Bool} {m:Nat} (h:l.length≤m):(cW l m).length=m:=by simp[cW];omega
theorem wy {l:List Bool} {m:Nat} (h:l.length<m) (d:AV):((cW l m).map bl).getD ((l.length:Nat):Int).toNat d=bl false:=by
 rw[gR (by rw[iq (by omega)];exact h),cW,List.getD,List.getElem?_append_right (Nat.le_refl _),Nat.sub_self,List.getElem?_replicate,if_pos (by omega)];rfl
theorem pj (g:bo) (cls:List cB) (t i:Nat):dW g cls t (i+1)=dW g cls t i++[dC g cls t i]:=by
 rw[dW,List.range_succ,List.map_append];rfl
theorem eL (g:bo) (cls:List cB) (t i:Nat):(dW g cls t i).length=i:=by simp[dW]
theorem mG {g:bo} {cls:List cB} {t i m:Nat} (h:i<m) (v:Bool):((cW (dW g cls t i) m).map bl).set ((i:Nat):Int).toNat (bl v)=(cW (dW g cls t i++[v]) m).map bl:=by
 have:=ph (l:=dW g cls t i) (m:=m) (by rw[eL];exact h) v
 rw[eL] at this;exact this
theorem GK {g:bo} {cls:List cB} {t i m:Nat} (h:i<m) (d:AV):((cW (dW g cls t i) m).map bl).getD ((i:Nat):Int).toNat d=bl false:=by
 have:=wy (l:=dW g cls t i) (m:=m) (by rw[eL];exact h) d
 rw[eL] at this;exact this
theorem CL {b:Nat} {ids:List Nat} {T:hZ} {H H9:Hp} {m k:Nat} (h:nZ b ids T H) (hm:T.length=m) (h9:∀x∈b::ids,bj H9 x=bj H x) (nd:Node):[AV.sl b m,nd.av,i64 k].map (ch.dk H9 6)=[.im 1 .any (T.map fp),nd.av,i64 k]:=by
 rw[List.map_cons,List.map_cons,List.map_cons,List.map_nil,←hm,oQ (h.cE h9),dB 6 (by simp[cG]),dB 6 (by simp[cG])]
theorem CE (T:hZ) (nd:Node) (k:Nat):cL 0 [.im 1 .any (T.map fp),nd.av,i64 k]:=by
 have:cL 0 (T.map fp):=zB T
 simp only[cL,cG]
 exact⟨this,vQ _ _,trivial,trivial⟩
set_option maxRecDepth 4000 in
set_option maxHeartbeats 8000000 in
theorem BD (u:bp) (g:bo) (hg:g.Wf) (hk:dL u g) (t:Nat) (cls:List cB) (hcl:cls.length=u.shared.length) (hcl64:cls.length≤64) (H:Hp) (nx:Nat) (hr:∀(b:Nat) (H':Hp) (n':Nat) (d:AV),bj H' b=some (.row 4 1 d ((jy g cls t).map bl))→b<n'→cM Tryz.prog 45 [eH g t cls, .sl b g.nodes.length] H' n' (fun r H2 n2=>∃b2 d2,r= .sl b2 g.nodes.length∧n'≤b2∧b2<n2∧bj H2 b2=some (.row 4 1 d2 ((eG g cls t).map bl))∧∀y,y<n'→bj H2 y=bj H' y)):
 cM Tryz.prog 23 [eH g t cls] H nx (fun r H2 n2=>∃b2 d2,r= .sl b2 g.nodes.length∧nx≤b2∧b2<n2∧bj H2 b2=some (.row 4 1 d2 ((eG g cls t).map bl))∧∀y,y<nx→bj H2 y=bj H y):=by
 have hl:=hg.len
 have hw:=hk.whole
 have hl0:=hw.1
 have hl1:=hw.2.1
 refine aL DK rfl ?_
 repeat' (first|((with_reducible refine aE ?_);conv=>whnf)|refine aG ?_|exact cN|with_reducible refine aD ?_ ?_|((with_reducible refine Ask.mk ?_);first|exact bw|exact br|(intro h;simp_all[bz]<;>fail)|(simp_all[bz]<;>fail))|(apply aA;(·exact bm))|refine aH ?_|((with_reducible refine aB ?_ ?_)<;>intro hc<;>(try simp only[List.length_map,ne_eq,cD] at hc)<;>try(exfalso;omega)))
 refine aN (tU u g hg hk t cls _ _) ?_
 rintro _ H1 n1 ⟨b1,rfl,hgr1⟩
 repeat' (first|((with_reducible refine aE ?_);conv=>whnf)|refine aG ?_|exact aC|with_reducible refine aD ?_ ?_|(apply aA;(·exact bm))|refine aH ?_|((with_reducible refine aB ?_ ?_)<;>intro hc<;>(try simp only[List.length_map,ne_eq,cD] at hc)<;>try(exfalso;omega)))
 refine aN (yj u g hg hk t cls hcl64 _ _) ?_
 rintro _ H2 n2 ⟨b2,rfl,hgr2⟩
 obtain⟨ids1,hT1,hid1⟩:=hgr1.at_
 obtain⟨ids2,hT2,hid2⟩:=hgr2.at_
 have hle1:=hgr1.le
 have hle2:=hgr2.le
 have hT1':nZ b1 ids1 (fq g) H2:=hT1.cE fun x hx=>(hgr2.cE x (Nat.lt_of_lt_of_le (hid1 x hx).2 cH)).trans bu
 have hk2:∀y,y<nx→bj H2 y=bj H y:=fun y hy=>(hgr2.cE y (Nat.lt_of_lt_of_le (Nat.lt_of_lt_of_le (Nat.lt_of_lt_of_le hy cH) hle1) cH)).trans (Eq.trans bu ((hgr1.cE y (Nat.lt_of_lt_of_le hy cH)).trans bu))
 have hi1:∀x∈b1::ids1,nx≤x∧x<n2:=fun x hx=>⟨Nat.le_trans cH (hid1 x hx).1,Nat.lt_of_lt_of_le (Nat.lt_of_lt_of_le (hid1 x hx).2 cH) hle2⟩
 have hi2:∀x∈b2::ids2,nx≤x∧x<n2:=fun x hx=>⟨Nat.le_trans (Nat.le_trans (Nat.le_trans cH hle1) cH) (hid2 x hx).1,(hid2 x hx).2⟩
 have hnn:nx≤n2:=Nat.le_trans (Nat.le_trans (Nat.le_trans cH hle1) cH) hle2
 clear hgr1 hgr2 hT1 hid1 hid2
 repeat' (first|((with_reducible refine aE ?_);conv=>whnf)|refine aG ?_|exact cN|with_reducible refine aD ?_ ?_|((with_reducible refine Ask.mk ?_);first|exact bw|exact br|(intro h;simp_all[bz]<;>fail)|(simp_all[bz]<;>fail))|(apply aA;(·exact bm))|refine aH ?_|((with_reducible refine aB ?_ ?_)<;>intro hc<;>(try simp only[List.length_map,ne_eq,cD] at hc)<;>try(exfalso;omega)))
 simp only[List.length_map,Int.toNat_natCast]
 have hsh1:Shape (fq g) g.nodes.length g.cf.toNat:=iU _ _ _ _
 have hsh2:Shape (jz g cls t) g.nodes.length cls.length:=iU _ _ _ _
 have hslots:=hk.cf
 have hlocals:=hk.locals
 have hrw0:cW (dW g cls t 0) g.nodes.length=List.replicate g.nodes.length false:=by simp[cW,dW]
 refine aI (fun i:Nat=>[(0,eH g t cls),(3, .sl b1 g.nodes.length),(4, .sl b2 g.nodes.length),(5, .sl (n2+8) g.nodes.length),(23,eU g.nodes),(24,i64 g.nodes.length),(25,i64 i)])
  (fun i H' n'=>i≤g.nodes.length∧n2+17≤n'∧nZ b1 ids1 (fq g) H'∧nZ b2 ids2 (jz g cls t) H'∧(∃d,bj H' (n2+8)=some (.row 4 1 d ((cW (dW g cls t i) g.nodes.length).map bl)))∧∀y,y<nx→bj H' y=bj H y) (fun i=>g.nodes.length - i) 0 bt ⟨Nat.zero_le _,cH,hT1'.cE fun x hx=> ?_,hT2.cE fun x hx=> ?_, ?_,fun y hy=>Eq.trans bu (hk2 y hy)⟩ ?_
 ·have:=hi1 x hx;exact bu
 ·have:=hi2 x hx;exact bu
 ·apply Exists.intro
  rw[hrw0,List.map_replicate]
  exact bk
 clear hT1' hT2 hk2
 rintro i H3 n3 ⟨hi,hn3,hT1,hT2,⟨d8,r8⟩,hk3⟩
 by_cases hil:i<g.nodes.length
 ·have en:=fun d=>dy hil d
  have er:=fun d=>l7 (l:=cd g (-1)) (k:=i) d (by rw[dP];exact hil)
  have hrl:((cd g (-1)).map bl).length=g.nodes.length:=by rw[List.length_map,dP]
  have hol:((cW (dW g cls t i) g.nodes.length).map bl).length=g.nodes.length:=by rw[List.length_map,iq (by rw[eL];exact hi)]
  have eo:=fun d=>GK (g:=g) (cls:=cls) (t:=t) hil d
  have hno:=hk.node hil
  have hfol:=(hw.2.2 i hil).2.2
  have hK1:∀{H':Hp},(∀x,x<n2→bj H' x=bj H3 x)→nZ b1 ids1 (fq g) H':=fun h=>hT1.cE fun x hx=>h x (hi1 x hx).2
  have hK2:∀{H':Hp},(∀x,x<n2→bj H' x=bj H3 x)→nZ b2 ids2 (jz g cls t) H':=fun h=>hT2.cE fun x hx=>h x (hi2 x hx).2
  have hnxt:=pj g cls t i
  cases hrc:gl (cd g (-1)) (i:Int) with
  |false=>
   rw[hrc] at er
   have hsb:dC g cls t i=false:=by unfold dC;rw[hrc];rfl
   repeat' (first|((with_reducible refine aE ?_);conv=>whnf)|refine aG ?_|exact cN|with_reducible refine aD ?_ ?_|((with_reducible refine Ask.mk ?_);first|exact bw|(exact hrl)|exact br|(intro h;simp_all[Node.cells,bz]<;>fail)|(simp_all[Node.cells,bz]<;>fail))|(apply aA;(·(first|exact en _|exact er _|exact bm)))|refine aH ?_|((with_reducible refine aB ?_ ?_)<;>intro hc<;>(try simp only[List.length_map,ne_eq,cD] at hc)<;>try(exfalso;omega)))
   exact⟨i+1,by omega,bt,by omega,by omega,hK1 fun x hx=>bu,hK2 fun x hx=>bu,⟨d8,by rw[hnxt,hsb,kJ (by rw[eL];exact hil)];exact bk⟩,fun y hy=>Eq.trans bu (hk3 y hy)⟩
  |true=>
   rw[hrc] at er
   by_cases h1:(g.nd i).kind=1
   ·have hsl:=hno.slot.1 (by unfold gH;exact decide_eq_true (by omega))
    obtain⟨ks,hks⟩:∃ks:Nat,(g.nd i).slot=ks:=⟨(g.nd i).slot.toNat,by omega⟩
    have hsb:dC g cls t i=(!kC (fq g) (g.nd i) ks||(decide ((g.nd i).op=0)&&(g.nd i).a.dr&&decide ((g.nd i).a.slot=ks))):=by
     unfold dC
     simp only[hrc,h1,hks,if_true,Bool.true_and,Int.toNat_natCast]
    repeat' (first|((with_reducible refine aE ?_);conv=>whnf)|refine aG ?_|exact cN|with_reducible refine aD ?_ ?_|((with_reducible refine Ask.mk ?_);first|exact bw|(exact hrl)|(exact hol)|(intro h1 h2;rw[h1,h2];rfl)|exact br|(intro h;simp_all[Node.cells,bz]<;>fail)|(simp_all[Node.cells,bz]<;>fail))|(apply aA;(·(first|exact en _|exact er _|exact eo _|exact bm)))|((refine aT (fY (hK1 fun x hx=>bu) hsh1 (g.nd i) hfol ks (by omega) _) ?_ ?_);(·exact True.intro))|((refine aS (fun _=>fY (hK1 fun x hx=>bu) hsh1 (g.nd i) hfol ks (by omega) _) ?_ ?_);(·exact True.intro))|(simp only[h1])|(simp only[hks])|refine aH ?_|((with_reducible refine aB ?_ ?_)<;>intro hc<;>(try simp only[List.length_map,ne_eq,cD] at hc)<;>try(exfalso;omega)))
    refine⟨i+1,by omega,bt,by omega,cH,hK1 fun x hx=> ?_,hK2 fun x hx=> ?_, ?_,fun y hy=>Eq.trans bu (hk3 y hy)⟩
    ·exact bu
    ·exact bu
    ·apply Exists.intro
     refine Eq.trans bk ?_
     rw[mG hil,hnxt,hsb]
     refine congrArg (fun v=>some (eP.row _ 1 _ ((cW (dW g cls t i++[v]) g.nodes.length).map bl))) ?_
     cases kC (fq g) (g.nd i) ks<;>cases(g.nd i).a.dr<;>by_cases h5:(g.nd i).op=0<;>simp[h5]
   ·by_cases h2:(g.nd i).kind=2
    ·have hsl:=hno.slot.1 (by unfold gH;exact decide_eq_true (by omega))
     have hth:=hno.cP.1 (by unfold fX;exact decide_eq_true (by omega))
     rw[if_neg (by omega)] at hth
     obtain⟨ks,hks⟩:∃ks:Nat,(g.nd i).slot=ks:=⟨(g.nd i).slot.toNat,by omega⟩
     obtain⟨kt,hkt⟩:∃kt:Nat,(g.nd i).cP=kt:=⟨(g.nd i).cP.toNat,by omega⟩
     have ec:∀d,(cls.map cB.av).getD ((kt:Int)).toNat d=(cls.getD kt default).av:=fun d=>by rw[Int.toNat_natCast];exact dJ cB.av cls kt d (by omega)
     have ec2:∀d,(cls.map cB.av).getD ((g.nodes.getD i default).cP).toNat d=(cls.getD kt default).av:=fun d=>by rw[show(g.nodes.getD i default).cP=kt from hkt];exact ec d
     have hcml:(cls.map cB.av).length=cls.length:=by simp
     have hsb:dC g cls t i=(decide ((cls.getD kt default).kind≠3)&& !kC (fq g) (g.nd i) ks):=by
      unfold dC
      dsimp only
      rw[hrc,Bool.true_and,if_neg h1,if_pos h2,hks,hkt,Int.toNat_natCast,Int.toNat_natCast]
     repeat' (first|((with_reducible refine aE ?_);conv=>whnf)|refine aG ?_|exact cN|with_reducible refine aD ?_ ?_|((with_reducible refine Ask.mk ?_);first|exact bw|(exact hrl)|(exact hol)|(intro h1 h2;rw[h1,h2];rfl)|(rw[hcml];omega)|exact br|(intro h;simp_all[Node.cells,bz,cB.cells]<;>fail)|(simp_all[Node.cells,bz,cB.cells]<;>fail))|(apply aA;(·(first|exact en _|exact er _|exact eo _|exact ec _|exact ec2 _|exact bm)))|(simp only[h2])|(simp only[hks])|(simp only[hkt])|refine aH ?_|((with_reducible refine aB ?_ ?_)<;>intro hc<;>(try simp only[List.length_map,ne_eq,cD] at hc)<;>try(exfalso;omega)))
     refine ak (b1::ids1) (fun _=>pN hsh1 (g.nd i) hfol ks (by omega)) (fun H9 h9=> ?_) (CE _ _ _) trivial ?_
     ·exact CL hT1 hsh1.len (fun x hx=>(h9 x hx).trans (by have:=hi1 x hx;exact bu)) (g.nd i)
     refine Eq.mpr (yD (b1::ids1) _) (MX ?_)
     have hn8:n2+8∉b1::ids1:=fun h=>by have:=hi1 _ h;omega
     repeat' (first|((with_reducible refine aE ?_);conv=>whnf)|refine aG ?_|exact cN|with_reducible refine aD ?_ ?_|((with_reducible refine Ask.mk ?_);first|exact bw|(exact hol)|exact br|(intro h;simp_all[Node.cells,bz,cB.cells]<;>fail)|(simp_all[Node.cells,bz,cB.cells]<;>fail))|(apply aA;(·(first|exact eo _|exact bm)))|refine aH ?_|((with_reducible refine aB ?_ ?_)<;>intro hc<;>(try simp only[List.length_map,ne_eq,cD] at hc)<;>try(exfalso;omega)))
     refine⟨i+1,by omega,bt,by omega,cH,hK1 fun x hx=> ?_,hK2 fun x hx=> ?_, ?_,fun y hy=>Eq.trans bu (hk3 y hy)⟩
     ·exact bu
     ·exact bu
     ·apply Exists.intro
      refine Eq.trans bk ?_
      rw[mG hil,hnxt,hsb]
      refine congrArg (fun v=>some (eP.row _ 1 _ ((cW (dW g cls t i++[v]) g.nodes.length).map bl))) ?_
      cases kC (fq g) (g.nd i) ks<;>by_cases h5:(cls.getD kt default).kind=3<;>simp[h5]
    ·by_cases h3:(g.nd i).kind=3
     ·have hth:=hno.cP.1 (by unfold fX;exact decide_eq_true (by omega))
      rw[if_neg (by omega)] at hth
      obtain⟨kt,hkt⟩:∃kt:Nat,(g.nd i).cP=kt:=⟨(g.nd i).cP.toNat,by omega⟩
      have hkc:kt<cls.length:=by omega
      have how:=rX g t cls kt hkc
      have hsb:dC g cls t i=(nQ cls t kt&& !kC (jz g cls t) (g.nd i) kt):=by
       unfold dC
       dsimp only
       rw[hrc,Bool.true_and,if_neg h1,if_neg h2,if_pos h3,hkt,Int.toNat_natCast]
      repeat' (first|((with_reducible refine aE ?_);conv=>whnf)|refine aG ?_|exact cN|with_reducible refine aD ?_ ?_|((with_reducible refine Ask.mk ?_);first|exact bw|(exact hrl)|(exact hol)|(intro h1 h2;rw[h1,h2];rfl)|exact br|(intro h;simp_all[Node.cells,bz]<;>fail)|(simp_all[Node.cells,bz]<;>fail))|(apply aA;(·(first|exact en _|exact er _|exact eo _|exact bm)))|refine aK (how) ?_|((refine aT (fY (hK2 fun x hx=>bu) hsh2 (g.nd i) hfol kt hkc _) ?_ ?_);(·exact True.intro))|((refine aS (fun _=>fY (hK2 fun x hx=>bu) hsh2 (g.nd i) hfol kt hkc _) ?_ ?_);(·exact True.intro))|(simp only[h3])|(simp only[hkt])|refine aH ?_|((with_reducible refine aB ?_ ?_)<;>intro hc<;>(try simp only[List.length_map,ne_eq,cD] at hc)<;>try(exfalso;omega)))
      refine⟨i+1,by omega,bt,by omega,cH,hK1 fun x hx=> ?_,hK2 fun x hx=> ?_, ?_,fun y hy=>Eq.trans bu (hk3 y hy)⟩
      ·exact bu
      ·exact bu
      ·apply Exists.intro
       refine Eq.trans bk ?_
       rw[mG hil,hnxt,hsb]
       refine congrArg (fun v=>some (eP.row _ 1 _ ((cW (dW g cls t i++[v]) g.nodes.length).map bl))) ?_
       cases kC (jz g cls t) (g.nd i) kt<;>cases nQ cls t kt<;>simp
     ·by_cases h8:(g.nd i).kind=8
      ·have hsb:dC g cls t i=decide ((g.nd i).next=(g.nd i).jT):=by
        unfold dC
        dsimp only
        rw[hrc,Bool.true_and,if_neg h1,if_neg h2,if_neg h3,if_pos h8]
       repeat' (first|((with_reducible refine aE ?_);conv=>whnf)|refine aG ?_|exact cN|with_reducible refine aD ?_ ?_|((with_reducible refine Ask.mk ?_);first|exact bw|(exact hrl)|(exact hol)|exact br|(intro h;simp_all[Node.cells,bz]<;>fail)|(simp_all[Node.cells,bz]<;>fail))|(apply aA;(·(first|exact en _|exact er _|exact eo _|exact bm)))|(simp only[h8])|refine aH ?_|((with_reducible refine aB ?_ ?_)<;>intro hc<;>(try simp only[List.length_map,ne_eq,cD] at hc)<;>try(exfalso;omega)))
       refine⟨i+1,by omega,bt,by omega,cH,hK1 fun x hx=> ?_,hK2 fun x hx=> ?_, ?_,fun y hy=>Eq.trans bu (hk3 y hy)⟩
       ·exact bu
       ·exact bu
       ·apply Exists.intro
        refine Eq.trans bk ?_
        rw[mG hil,hnxt,hsb]
      ·have hsb:dC g cls t i=false:=by
        unfold dC
        dsimp only
        rw[hrc,Bool.true_and,if_neg h1,if_neg h2,if_neg h3,if_neg h8]
       repeat' (first|((with_reducible refine aE ?_);conv=>whnf)|refine aG ?_|exact cN|with_reducible refine aD ?_ ?_|((with_reducible refine Ask.mk ?_);first|exact bw|(exact hrl)|exact br|(intro h;simp_all[Node.cells,bz]<;>fail)|(simp_all[Node.cells,bz]<;>fail))|(apply aA;(·(first|exact en _|exact er _|exact bm)))|(simp only[h1])|(simp only[h2])|(simp only[h3])|(simp only[h8])|refine aH ?_|((with_reducible refine aB ?_ ?_)<;>intro hc<;>(try simp only[List.length_map,ne_eq,cD] at hc)<;>try(exfalso;omega)))
       exact⟨i+1,by omega,bt,by omega,cH,hK1 fun x hx=>bu,hK2 fun x hx=>bu,⟨d8,by rw[hnxt,hsb,kJ (by rw[eL];exact hil)];exact bk⟩,fun y hy=>Eq.trans bu (hk3 y hy)⟩
 ·have:i=g.nodes.length:=by omega
  subst this
  have efull:cW (dW g cls t g.nodes.length) g.nodes.length=jy g cls t:=by
   rw[cW,eL,Nat.sub_self,List.replicate_zero,List.append_nil];rfl
  rw[efull] at r8
  repeat' (first|((with_reducible refine aE ?_);conv=>whnf)|refine aG ?_|exact aC|with_reducible refine aD ?_ ?_|(apply aA;(·exact bm))|refine aH ?_|((with_reducible refine aB ?_ ?_)<;>intro hc<;>(try simp only[List.length_map,ne_eq,cD] at hc)<;>try(exfalso;omega)))
  refine aN (hr (n2+8) _ _ d8 bk cH) ?_
  rintro _ H4 n4 ⟨b3,d3,rfl,hb3,hbn,r3,hk4⟩
  repeat' (first|((with_reducible refine aE ?_);conv=>whnf)|refine aG ?_|exact aC|with_reducible refine aD ?_ ?_|(apply aA;(·exact bm))|refine aH ?_|((with_reducible refine aB ?_ ?_)<;>intro hc<;>(try simp only[List.length_map,ne_eq,cD] at hc)<;>try(exfalso;omega)))
  exact⟨⟨b3,d3,rfl,Nat.le_trans cH hb3,Nat.lt_of_lt_of_le hbn cH,bk,fun y hy=>Eq.trans bu ((hk4 y (Nat.lt_of_lt_of_le hy cH)).trans (Eq.trans bu (hk3 y hy)))⟩⟩
end Go.Proofs.YtmonponfppdgfaaGreatDoor
end
section
/- What is live: the document's walk. -/
namespace Go.Proofs.YtmonponfppdgfaaGreatDoor
open Go Go.ch Go.Proofs
set_option linter.unusedSimpArgs false
set_option linter.unusedVariables false
set_option maxRecDepth 4000 in
set_option maxHeartbeats 1000000 in
theorem y8 (n:Node):Pure Tryz.prog 68 [n.av] (fun r=>r=bl (rh n)):=by
 refine aJ EP rfl ?_
 repeat' (first|((with_reducible refine aE ?_);conv=>whnf)|refine aG ?_|exact cN|with_reducible refine aD ?_ ?_|((with_reducible refine Ask.mk ?_);first|exact bw|exact br|(intro h;simp_all[Node.cells]<;>fail)|(simp_all[Node.cells]<;>fail))|(apply aA;(·exact bm))|refine aH ?_|((with_reducible refine aB ?_ ?_)<;>intro hc<;>(try simp only[List.length_map,ne_eq,cD] at hc)<;>try(exfalso;omega)))
 all_goals refine cg ?_
 all_goals unfold rh
 all_goals (by_cases a:n.kind=1<;>by_cases b:n.kind=2<;>by_cases c:n.kind=4<;>simp_all)
set_option maxRecDepth 4000 in
set_option maxHeartbeats 4000000 in
theorem we (n:Node) (s:Nat):Pure Tryz.prog 67 [n.av,i64 s] (fun r=>r=bl (eE n s)):=by
 refine aJ EO rfl ?_
 repeat' (first|((with_reducible refine aE ?_);conv=>whnf)|refine aG ?_|exact cN|with_reducible refine aD ?_ ?_|((with_reducible refine Ask.mk ?_);first|exact bw|exact br|(intro h;simp_all[Node.cells]<;>fail)|(simp_all[Node.cells]<;>fail))|(apply aA;(·exact bm))|((with_reducible refine aQ (fF _) ?_ ?_);(·exact cO))|((with_reducible refine aM (fun _=>fF _) ?_ ?_);(·exact cO))|((with_reducible refine aO (fF _) ?_ ?_);(·exact cO))|((with_reducible refine aP (fun _=>fF _) ?_ ?_);(·exact cO))|refine aH ?_|((with_reducible refine aB ?_ ?_)<;>intro hc<;>(try simp only[List.length_map,ne_eq,cD] at hc)<;>try(exfalso;omega)))
 all_goals refine cg ?_
 all_goals unfold eE
 all_goals first
  |(rw[hc];cases n.a.dr<;>cases decide (n.a.slot=(s:Int))<;>cases du n.op<;>cases n.b.dr<;>cases decide (n.b.slot=(s:Int))<;>rfl)
  |(rw[decide_eq_false (show ¬(n.kind=1∨n.kind=3∨n.kind=4∨n.kind=7∨n.kind=8) by omega),decide_eq_false (show ¬n.kind=1 by omega)];rfl)
def fw (T:hZ) (n:Node) (k q:Nat):Bool:=(n.dK.take q).any fun j=>dY T j.toNat k
theorem ki {T:hZ} {n:Node} {k q:Nat} (h:q<n.dK.length):fw T n k (q+1)=(fw T n k q||dY T (n.dK.getD q 0).toNat k):=by
 unfold fw
 rw[List.take_succ_eq_append_getElem h,List.any_append,show n.dK.getD q 0=n.dK[q] by simp[List.getD,h],List.any_cons,List.any_nil,Bool.or_false]
theorem l6 (T:hZ) (n:Node) (k:Nat):fw T n k n.dK.length=kC T n k:=by
 unfold fw kC;rw[List.take_length]
set_option maxRecDepth 8000 in
set_option maxHeartbeats 16000000 in
theorem y4 (g:bo) (hg:g.Wf) (hw:Whole g) (N:Nat) (hN:N≤4160) (hs:g.cf=(N:Int)):Pure Tryz.prog 38 [g.av] (fun r=>r= .im 1 .any ((fq g).map fp)):=by
 have hl:=hg.len
 have hl0:=hw.1
 have hl1:=hw.2.1
 have fT:∀T:hZ,cL 0 (T.map fp):=fun T=>(cJ _ _).2 fun _ _=>by simp[fp,cG,cJ]
 refine cT ?_ (by simp only[cG];exact fT _)
 have hlv:fq g=nb g eE fN N:=by unfold fq;rw[hs,Int.toNat_natCast]
 rw[hlv]
 refine aL DX rfl ?_
 have hnm:(g.nodes.map Node.av).length=g.nodes.length:=by simp
 have hgc:g.cells=[st g.name,i64 g.locals,i64 (N:Int),eU g.nodes]:=by unfold bo.cells;rw[hs]
 unfold bo.av
 rw[hgc]
 repeat' (first|((with_reducible refine aE ?_);conv=>whnf)|refine aG ?_|exact cN|with_reducible refine aD ?_ ?_|((with_reducible refine Ask.mk ?_);first|exact bw|(exact hnm)|exact br)|(apply aA;(·exact bm))|refine aH ?_|((with_reducible refine aB ?_ ?_)<;>intro hc<;>(try simp only[List.length_map,ne_eq,cD] at hc)<;>try(exfalso;omega)))
 simp only[List.length_map,Int.toNat_natCast]
 refine aI (fun ids:List Nat=>[(1, .pt 0 1 0 0),(3, .sl 5 g.nodes.length),(4,i64 ids.length)])
  (fun ids H' n'=>ids.length≤g.nodes.length∧8≤n'∧zV 5 ids g.nodes.length N H' n'∧∃d,bj H' 0=some (.row 40 4 d [.agg [st g.name,i64 g.locals,i64 (N:Int),eU g.nodes]])) (fun ids=>g.nodes.length - ids.length) [] bt ⟨Nat.zero_le _,cH,⟨⟨_,bk⟩,fun x h=>by simp at h,fun x h=>by simp at h,List.nodup_nil⟩,⟨_,bk⟩⟩ ?_
 rintro ids H1 n1 ⟨hi,hn1,hp,d0,r0⟩
 by_cases hil:ids.length<g.nodes.length
 ·obtain⟨d7,r7⟩:=hp.row
  have e1:=fun d=>qP (m:=g.nodes.length) (n:=N) hil d
  have e2:=mS (m:=g.nodes.length) (n:=N) hi
  repeat' (first|((with_reducible refine aE ?_);conv=>whnf)|refine aG ?_|exact cN|with_reducible refine aD ?_ ?_|((with_reducible refine Ask.mk ?_);first|exact bw|(exact e2)|exact br)|(apply aA;(·(first|exact e1 _|exact bm)))|refine aH ?_|((with_reducible refine aB ?_ ?_)<;>intro hc<;>(try simp only[List.length_map,ne_eq,cD] at hc)<;>try(exfalso;omega)))
  have hlt:=hp.lt
  refine⟨ids++[n1+8],by simp;omega,bt,by simp;omega,cH,⟨⟨_,by rw[←qQ hil];exact bk⟩,fun x hx=> ?_,fun x hx=> ?_, ?_⟩,⟨_,bk⟩⟩
  ·rcases List.mem_append.1 hx with hx|hx
   ·obtain⟨d,h1⟩:=hp.each x hx
    have:=hlt x hx
    exact⟨d,Eq.trans bu h1⟩
   ·simp only[List.mem_cons,List.not_mem_nil,or_false] at hx
    subst hx
    exact⟨_,bk⟩
  ·rcases List.mem_append.1 hx with hx|hx
   ·have:=hlt x hx
    exact⟨this.1,Nat.lt_of_lt_of_le this.2 cH⟩
   ·simp only[List.mem_cons,List.not_mem_nil,or_false] at hx
    subst hx
    exact⟨by omega,cH⟩
  ·refine List.nodup_append.2 ⟨hp.nodup,by simp,fun x hx y hy=> ?_⟩
   simp only[List.mem_cons,List.not_mem_nil,or_false] at hy
   have:=(hlt x hx).2
   omega
 ·have hle:ids.length=g.nodes.length:=by omega
  have hfin:=hp.fin hle
  have hlt:=hp.lt
  have hgr:=iw.start g eE fN N
  obtain⟨d7,r7⟩:=hp.row
  have e2:=mS (m:=g.nodes.length) (n:=N) hi
  repeat' (first|((with_reducible refine aE ?_);conv=>whnf)|refine aG ?_|exact cN|with_reducible refine aD ?_ ?_|((with_reducible refine Ask.mk ?_);first|exact bw|(exact e2)|exact br)|(apply aA;(·exact bm))|refine aH ?_|((with_reducible refine aB ?_ ?_)<;>intro hc<;>(try simp only[List.length_map,ne_eq,cD] at hc)<;>try(exfalso;omega)))
  clear r7 e2
  have hids:∀x∈5::ids,5≤x∧x<n1:=fun x hx=>by
   rcases List.mem_cons.1 hx with rfl|hx
   ·omega
   ·have:=hlt x hx;omega
  clear hp hlt
  refine aI (fun s:hZ×Bool=>[(1, .pt 0 1 0 0),(3, .sl 5 g.nodes.length),(5,bl s.2)])
   (fun s H' n'=>n1≤n'∧nZ 5 ids s.1 H'∧(∃d,bj H' 0=some (.row 40 4 d [.agg [st g.name,i64 g.locals,i64 (N:Int),eU g.nodes]]))∧iw g eE fN N s.1∧(s.2=false→∀i k,i<g.nodes.length→k<N→eO g eE fN s.1 i k=true→dY s.1 i k=true))
   (fun s=>e8 s.1+if s.2=true then 1 else 0) (ke g.nodes.length N,true) bt ⟨cH,hfin.cE fun x hx=> ?_,⟨_,bk⟩,hgr,fun h=>by cases h⟩ ?_
  ·have:=hids x hx;exact bu
  clear hfin hgr r0
  rintro⟨T,again⟩ H2 n2 ⟨hn2,hT,⟨d0,r0⟩,hgr,hcl⟩
  dsimp only at hT hgr hcl ⊢
  cases again with
  |false=>
   have hfin:=hgr.fin hw (hcl rfl)
   repeat' (first|((with_reducible refine aE ?_);conv=>whnf)|refine aG ?_|exact aC|with_reducible refine aD ?_ ?_|(apply aA;(·exact bm))|refine aH ?_|((with_reducible refine aB ?_ ?_)<;>intro hc<;>(try simp only[List.length_map,ne_eq,cD] at hc)<;>try(exfalso;omega)))
   refine⟨?_⟩
   rw[←hfin,←hgr.shape.len]
   exact oQ (hT.cE fun x hx=>bu) 4
  |true=>
   have hTl:=hgr.shape.len
   have hql:(gW ids (gX T)).length=g.nodes.length:=by rw[hT.len,dN,hTl]
   obtain⟨d7,r7⟩:=hT.row
   repeat' (first|((with_reducible refine aE ?_);conv=>whnf)|refine aG ?_|exact cN|with_reducible refine aD ?_ ?_|((with_reducible refine Ask.mk ?_);first|exact bw|(exact hql)|(exact hnm)|exact br)|(apply aA;(·exact bm))|refine aH ?_|((with_reducible refine aB ?_ ?_)<;>intro hc<;>(try simp only[List.length_map,ne_eq,cD] at hc)<;>try(exfalso;omega)))
   simp only[List.length_map]
   refine aI (fun s:hZ×Bool×Nat=>[(1, .pt 0 1 0 0),(3, .sl 5 g.nodes.length),(5,bl s.2.1),(6,i64 ((s.2.2:Int) - 1))])
    (fun s H' n'=>n1≤n'∧s.2.2≤g.nodes.length∧nZ 5 ids s.1 H'∧(∃d,bj H' 0=some (.row 40 4 d [.agg [st g.name,i64 g.locals,i64 (N:Int),eU g.nodes]]))∧iw g eE fN N s.1∧(e8 s.1+if s.2.1=true then 1 else 0)≤e8 T∧(s.2.1=false→∀i k,s.2.2≤i→i<g.nodes.length→k<N→eO g eE fN s.1 i k=true→dY s.1 i k=true))
    (fun s=>s.2.2) (T,false,g.nodes.length) bt ⟨cH,Nat.le_refl _,hT.cE fun x hx=> ?_,⟨_,bk⟩,hgr,by simp,fun _ i k h1 h2=>absurd h1 (by dsimp only;omega)⟩ ?_
   ·exact bu
   clear hT r0 hgr hcl r7 hql
   rintro⟨T2,ag,j⟩ H3 n3 ⟨hn3,hj,hT,⟨d0,r0⟩,hgr,hfa,hcl⟩
   dsimp only at hj hT hgr hfa hcl ⊢
   have hT2l:=hgr.shape.len
   cases j with
   |zero=>
    repeat' (first|((with_reducible refine aE ?_);conv=>whnf)|refine aG ?_|exact aC|with_reducible refine aD ?_ ?_|(apply aA;(·exact bm))|refine aH ?_|((with_reducible refine aB ?_ ?_)<;>intro hc<;>(try simp only[List.length_map,ne_eq,cD] at hc)<;>try(exfalso;omega)))
    exact⟨(T2,ag),by dsimp only;simp only[if_true];omega,bt,cH,hT.cE fun x hx=>bu,⟨_,bk⟩,hgr,fun h i k h1 h2=>hcl h i k (Nat.zero_le _) h1 h2⟩
   |succ i=>
    have hi:i<g.nodes.length:=by omega
    have ei:((i+1:Nat):Int) - 1=(i:Int):=by omega
    have en:=fun d=>dy hi d
    have hfo:=fu (g.nodes.getD i default)
    rw[ei]
    repeat' (first|((with_reducible refine aE ?_);conv=>whnf)|refine aG ?_|exact cN|with_reducible refine aD ?_ ?_|((with_reducible refine Ask.mk ?_);first|exact bw|(exact hnm)|exact br|(intro h;simp_all[Node.cells]<;>fail)|(simp_all[Node.cells]<;>fail))|(apply aA;(·(first|exact en _|exact bm)))|refine aK (hfo) ?_|refine aH ?_|((with_reducible refine aB ?_ ?_)<;>intro hc<;>(try simp only[List.length_map,ne_eq,cD] at hc)<;>try(exfalso;omega)))
    have hnd:g.nodes.getD i default=g.nd i:=rfl
    rw[hnd] at *
    clear hfo
    refine aI (fun s:hZ×Bool×Nat=>[(1, .pt 0 1 0 0),(3, .sl 5 g.nodes.length),(5,bl s.2.1),(6,i64 (i:Int)),(7, .pt (n3+7) 1 0 0),(8,dO (g.nd i).dK),(9,i64 s.2.2)])
     (fun s H' n'=>n3+8≤n'∧s.2.2≤N∧(∃d,bj H' (n3+7)=some (.row 46 13 d [(g.nd i).av]))∧nZ 5 ids s.1 H'∧(∃d,bj H' 0=some (.row 40 4 d [.agg [st g.name,i64 g.locals,i64 (N:Int),eU g.nodes]]))∧iw g eE fN N s.1∧(e8 s.1+if s.2.1=true then 1 else 0)≤e8 T∧(s.2.1=false→∀i' k,i≤i'→i'<g.nodes.length→k<N→(i'=i→k<s.2.2)→eO g eE fN s.1 i' k=true→dY s.1 i' k=true))
     (fun s=>N - s.2.2) (T2,ag,0) bt ⟨cH,Nat.zero_le _,⟨_,bk⟩,hT.cE fun x hx=> ?_,⟨_,bk⟩,hgr,hfa,fun h i' k h1 h2 h3 h4=>hcl h i' k (Classical.byContradiction fun hx=>Nat.not_lt_zero _ (h4 (by omega))) h2 h3⟩ ?_
    ·have:=hids x hx;exact bu
    clear hT r0 hgr hfa hcl hT2l
    rintro⟨T3,ag2,k⟩ H4 n4 ⟨hn4,hk,⟨dn,rn⟩,hT,⟨d0,r0⟩,hgr,hfa,hcl⟩
    dsimp only at hk hT hgr hfa hcl ⊢
    have hT3l:=hgr.shape.len
    by_cases hkN:k<N
    ·have hrp:=we (g.nd i) k
     have hsp:=y8 (g.nd i)
     repeat' (first|((with_reducible refine aE ?_);conv=>whnf)|refine aG ?_|exact cN|with_reducible refine aD ?_ ?_|((with_reducible refine Ask.mk ?_);first|exact bw|exact br|(intro h;simp_all[Node.cells]<;>fail)|(simp_all[Node.cells]<;>fail))|(apply aA;(·exact bm))|refine aK (hrp) ?_|refine aH ?_|((with_reducible refine aB ?_ ?_)<;>intro hc<;>(try simp only[List.length_map,ne_eq,cD] at hc)<;>try(exfalso;omega)))
     refine aI (fun σ:Nat×Bool=>[(1, .pt 0 1 0 0),(3, .sl 5 g.nodes.length),(5,bl ag2),(6,i64 (i:Int)),(7, .pt (n3+7) 1 0 0),(8,dO (g.nd i).dK),(9,i64 k),(10,bl σ.2),(11,i64 σ.1)])
      (fun σ H' n'=>n4≤n'∧σ.1≤(g.nd i).dK.length∧σ.2=(eE (g.nd i) k||(fw T3 (g.nd i) k σ.1&&fN (g.nd i) k))∧(∃d,bj H' (n3+7)=some (.row 46 13 d [(g.nd i).av]))∧nZ 5 ids T3 H'∧(∃d,bj H' 0=some (.row 40 4 d [.agg [st g.name,i64 g.locals,i64 (N:Int),eU g.nodes]])))
      (fun σ=>(g.nd i).dK.length - σ.1) (0,eE (g.nd i) k) bt ⟨cH,Nat.zero_le _,by simp[fw],⟨_,bk⟩,hT.cE fun x hx=> ?_,⟨_,bk⟩⟩ ?_
     ·exact bu
     clear hT rn r0
     rintro⟨q,is⟩ H5 n5 ⟨hn5,hq,his,⟨dn,rn⟩,hT,⟨d0,r0⟩⟩
     dsimp only at hq his ⊢
     have hfm:((g.nd i).dK.map i64).length=(g.nd i).dK.length:=by simp
     have hfl:=mO (g.nd i)
     unfold dO
     have hql:(gW ids (gX T3)).length=g.nodes.length:=by rw[hT.len,dN,hT3l]
     obtain⟨d7,r7⟩:=hT.row
     by_cases hql2:q<(g.nd i).dK.length
     ·have eq0:=fun d=>eS (l:=(g.nd i).dK) hql2 d
      obtain⟨y0,y1⟩:=(hw.2.2 i hi).2.2 _ (cC (0:Int) hql2)
      have han:=ki (T:=T3) (k:=k) hql2
      generalize (g.nd i).dK.getD q 0=y at *
      have hyS:y.toNat<(gX T3).length:=by rw[dN,hT3l];exact y1
      have hyT:y.toNat<T3.length:=by rw[hT3l];exact y1
      have hrow:=hgr.shape.row y.toNat y1
      obtain⟨di,ri⟩:=hT.qs y.toNat hyS
      have e1:=fun d=>hT.get hyS d
      rw[ft hyT] at ri e1
      rw[List.length_map,hrow] at e1
      have hrl:((T3.getD y.toNat []).map bl).length=N:=by rw[List.length_map,hrow]
      have e2:=fun d=>gR (l:=T3.getD y.toNat []) (k:=k) (by rw[hrow];exact hkN) d
      rw[show(T3.getD y.toNat []).getD k false=dY T3 y.toNat k from rfl] at e2
      have hxi:=hids (ids.getD y.toNat 0) (List.mem_cons_of_mem _ (ee (by rw[hle];exact y1)))
      have hne:=hT.ne hyS
      cases is with
      |true=>
       repeat' (first|((with_reducible refine aE ?_);conv=>whnf)|refine aG ?_|exact cN|with_reducible refine aD ?_ ?_|((with_reducible refine Ask.mk ?_);first|exact bw|(exact hfm)|exact br)|(apply aA;(·(first|exact eq0 _|exact bm)))|refine aH ?_|((with_reducible refine aB ?_ ?_)<;>intro hc<;>(try simp only[List.length_map,ne_eq,cD] at hc)<;>try(exfalso;omega)))
       exact⟨(q+1,true),by dsimp only;omega,bt,cH,by dsimp only;omega,by dsimp only;rw[han];revert his;cases eE (g.nd i) k<;>cases fw T3 (g.nd i) k q<;>cases fN (g.nd i) k<;>simp,⟨_,bk⟩,hT.cE fun x hx=>bu,⟨_,bk⟩⟩
      |false=>
       cases hv:dY T3 y.toNat k with
       |false=>
        rw[hv] at e2
        repeat' (first|((with_reducible refine aE ?_);conv=>whnf)|refine aG ?_|exact cN|with_reducible refine aD ?_ ?_|((with_reducible refine Ask.mk ?_);first|exact bw|(exact hfm)|(exact hql)|(exact hrl)|exact br)|(apply aA;(·(first|exact eq0 _|exact e1 _|exact e2 _|exact bm)))|refine aH ?_|((with_reducible refine aB ?_ ?_)<;>intro hc<;>(try simp only[List.length_map,ne_eq,cD] at hc)<;>try(exfalso;omega)))
        exact⟨(q+1,false),by dsimp only;omega,bt,cH,by dsimp only;omega,by dsimp only;rw[han,hv,Bool.or_false];exact his,⟨_,bk⟩,hT.cE fun x hx=>bu,⟨_,bk⟩⟩
       |true=>
        rw[hv] at e2
        have hval:(eE (g.nd i) k||(fw T3 (g.nd i) k (q+1)&&fN (g.nd i) k))=(!rh (g.nd i)||decide ((g.nd i).slot≠(k:Int))):=by
         rw[han,hv,Bool.or_true,Bool.true_and]
         have:eE (g.nd i) k=false:=by revert his;cases eE (g.nd i) k<;>simp
         rw[this,Bool.false_or];rfl
        cases hst:rh (g.nd i) with
        |false=>
         rw[hst] at hsp hval
         repeat' (first|((with_reducible refine aE ?_);conv=>whnf)|refine aG ?_|exact cN|with_reducible refine aD ?_ ?_|((with_reducible refine Ask.mk ?_);first|exact bw|(exact hfm)|(exact hql)|(exact hrl)|exact br|(intro h;simp_all[Node.cells]<;>fail)|(simp_all[Node.cells]<;>fail))|(apply aA;(·(first|exact eq0 _|exact e1 _|exact e2 _|exact bm)))|refine aK (hsp) ?_|refine aH ?_|((with_reducible refine aB ?_ ?_)<;>intro hc<;>(try simp only[List.length_map,ne_eq,cD] at hc)<;>try(exfalso;omega)))
         exact⟨(q+1,true),by dsimp only;omega,bt,cH,by dsimp only;omega,by dsimp only;rw[hval];rfl,⟨_,bk⟩,hT.cE fun x hx=>bu,⟨_,bk⟩⟩
        |true=>
         rw[hst] at hsp hval
         repeat' (first|((with_reducible refine aE ?_);conv=>whnf)|refine aG ?_|exact cN|with_reducible refine aD ?_ ?_|((with_reducible refine Ask.mk ?_);first|exact bw|(exact hfm)|(exact hql)|(exact hrl)|exact br|(intro h;simp_all[Node.cells]<;>fail)|(simp_all[Node.cells]<;>fail))|(apply aA;(·(first|exact eq0 _|exact e1 _|exact e2 _|exact bm)))|refine aK (hsp) ?_|refine aH ?_|((with_reducible refine aB ?_ ?_)<;>intro hc<;>(try simp only[List.length_map,ne_eq,cD] at hc)<;>try(exfalso;omega)))
         exact⟨(q+1, !decide ((g.nd i).slot=(k:Int))),by dsimp only;omega,bt,cH,by dsimp only;omega,by dsimp only;rw[hval];simp,⟨_,bk⟩,hT.cE fun x hx=>bu,⟨_,bk⟩⟩
     ·have:q=(g.nd i).dK.length:=by omega
      subst this
      rw[l6,Bool.and_comm] at his
      have his2:is=eO g eE fN T3 i k:=his
      have hiS:i<(gX T3).length:=by rw[dN,hT3l];exact hi
      have hiT:i<T3.length:=by rw[hT3l];exact hi
      have hrow:=hgr.shape.row i hi
      obtain⟨di,ri⟩:=hT.qs i hiS
      have e1:∀d,(gW ids (gX T3)).getD (i:Int).toNat d= .sl (ids.getD i 0) N:=fun d=>by
       have:=hT.get hiS d
       rw[ft hiT,List.length_map,hrow] at this
       rw[Int.toNat_natCast];exact this
      rw[ft hiT] at ri
      have hrl:((T3.getD i []).map bl).length=N:=by rw[List.length_map,hrow]
      have e2:=fun d=>gR (l:=T3.getD i []) (k:=k) (by rw[hrow];exact hkN) d
      rw[show(T3.getD i []).getD k false=dY T3 i k from rfl] at e2
      have hxi:=hids (ids.getD i 0) (List.mem_cons_of_mem _ (ee (by rw[hle];exact hi)))
      have hne:=hT.ne hiS
      have hmore:∀T4 ag3,(ag3=false→T4=T3∧ag2=false∧(eO g eE fN T3 i k=true→dY T3 i k=true))→ag3=false→∀i' k',i≤i'→i'<g.nodes.length→k'<N→(i'=i→k'<k+1)→eO g eE fN T4 i' k'=true→dY T4 i' k'=true:=fun T4 ag3 h1 h2 i' k' a1 a2 a3 a4 a5=>by
       obtain⟨rfl,b1,b2⟩:=h1 h2
       by_cases e:i'=i∧k'=k
       ·obtain⟨rfl,rfl⟩:=e;exact b2 a5
       ·exact hcl b1 i' k' a1 a2 a3 (fun e2=>by
         have:=a4 e2
         have:¬k'=k:=fun e3=>e ⟨e2,e3⟩
         omega) a5
      cases is with
      |false=>
       repeat' (first|((with_reducible refine aE ?_);conv=>whnf)|refine aG ?_|exact cN|with_reducible refine aD ?_ ?_|((with_reducible refine Ask.mk ?_);first|exact bw|(exact hfm)|exact br)|(apply aA;(·exact bm))|refine aH ?_|((with_reducible refine aB ?_ ?_)<;>intro hc<;>(try simp only[List.length_map,ne_eq,cD] at hc)<;>try(exfalso;omega)))
       exact⟨(T3,ag2,k+1),by dsimp only;omega,bt,cH,by dsimp only;omega,⟨_,bk⟩,hT.cE fun x hx=>bu,⟨_,bk⟩,hgr,hfa,hmore T3 ag2 (fun h=>⟨rfl,h,fun hc=>by rw[←his2] at hc;cases hc⟩)⟩
      |true=>
       cases hv:dY T3 i k with
       |true=>
        rw[hv] at e2
        repeat' (first|((with_reducible refine aE ?_);conv=>whnf)|refine aG ?_|exact cN|with_reducible refine aD ?_ ?_|((with_reducible refine Ask.mk ?_);first|exact bw|(exact hfm)|(exact hql)|(exact hrl)|exact br)|(apply aA;(·(first|exact e1 _|exact e2 _|exact bm)))|refine aH ?_|((with_reducible refine aB ?_ ?_)<;>intro hc<;>(try simp only[List.length_map,ne_eq,cD] at hc)<;>try(exfalso;omega)))
        exact⟨(T3,ag2,k+1),by dsimp only;omega,bt,cH,by dsimp only;omega,⟨_,bk⟩,hT.cE fun x hx=>bu,⟨_,bk⟩,hgr,hfa,hmore T3 ag2 (fun h=>⟨rfl,h,fun _=>hv⟩)⟩
       |false=>
        rw[hv] at e2
        have hfs:=kp hgr.shape hi hkN hv
        repeat' (first|((with_reducible refine aE ?_);conv=>whnf)|refine aG ?_|exact cN|with_reducible refine aD ?_ ?_|((with_reducible refine Ask.mk ?_);first|exact bw|(exact hfm)|(exact hql)|(exact hrl)|exact br)|(apply aA;(·(first|exact e1 _|exact e2 _|exact bm)))|refine aH ?_|((with_reducible refine aB ?_ ?_)<;>intro hc<;>(try simp only[List.length_map,ne_eq,cD] at hc)<;>try(exfalso;omega)))
        refine⟨(ka T3 i k,true,k+1),by dsimp only;omega,bt,cH,by dsimp only;omega,⟨_,bk⟩,hT.set hiT k ?_ ⟨_,bk⟩ (fun x hx hxn=> ?_),⟨_,bk⟩,hgr.step hi hkN his2.symm, ?_,fun h=>by cases h⟩
        ·exact bu
        ·exact bu
        ·dsimp only
         simp only[if_true]
         omega
    ·have:k=N:=by omega
     subst this
     repeat' (first|((with_reducible refine aE ?_);conv=>whnf)|refine aG ?_|exact aC|with_reducible refine aD ?_ ?_|(apply aA;(·exact bm))|refine aH ?_|((with_reducible refine aB ?_ ?_)<;>intro hc<;>(try simp only[List.length_map,ne_eq,cD] at hc)<;>try(exfalso;omega)))
     exact⟨(T3,ag2,i),by dsimp only;omega,bt,by omega,by dsimp only;omega,hT.cE fun x hx=>bu,⟨_,bk⟩,hgr,hfa,fun h i' k' a1 a2 a3 a5=>hcl h i' k' a1 a2 a3 (fun _=>a3) a5⟩
end Go.Proofs.YtmonponfppdgfaaGreatDoor
end
