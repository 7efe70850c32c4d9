import Derived.Test.YtekfmjjmihomlaaGreatDoorM31
import Derived.Test.YtekfmjjmihomlaaGreatDoorM26
namespace Go.Proofs.YtekfmjjmihomlaaGreatDoor
open Go Go.cw Go.Proofs
set_option linter.unusedSimpArgs false
set_option linter.unusedVariables false
theorem rN {p:Prop} (h:Go p):p:=h
theorem vJ.keep {b:Nat} {ids:List Nat} {T:jw} {H H':Hp} (h:vJ b ids T H) (hk:∀x∈b::ids,bo H' x=bo H x):vJ b ids T H':=yR.keep h hk
def eL (l:List Bool) (m:Nat):List Bool:=l++List.replicate (m - l.length) false
theorem B8 {l:List Bool} {m:Nat} (h:l.length<m) (v:Bool):((eL l m).map bl).set ((l.length:Nat):Int).toNat (bl v)=(eL (l++[v]) m).map bl:=by
 rw[Int.toNat_natCast,<-List.map_set,eL,List.set_append,if_neg (by omega),Nat.sub_self,show m - l.length=(m - (l++[v]).length)+1 by simp;omega,List.replicate_succ,eL]
 simp
theorem oS {l:List Bool} {m:Nat} (h:l.length<m):eL (l++[false]) m=eL l m:=by
 rw[eL,eL,show m - l.length=(m - (l++[false]).length)+1 by simp;omega,List.replicate_succ];simp
theorem sG {l:List Bool} {m:Nat} (h:l.length<=m):(eL l m).length=m:=by simp[eL];omega
theorem B7 {l:List Bool} {m:Nat} (h:l.length<m) (d:AV):((eL l m).map bl).getD ((l.length:Nat):Int).toNat d=bl false:=by
 rw[oI (by rw[sG (by omega)];exact h),eL,List.getD,List.getElem?_append_right (Nat.le_refl _),Nat.sub_self,List.getElem?_replicate,if_pos (by omega)];rfl
theorem B9 (g:bu) (cls:List cY) (t i:Nat):fI g cls t (i+1)=fI g cls t i++[eF g cls t i]:=by
 rw[fI,List.range_succ,List.map_append];rfl
theorem gO (g:bu) (cls:List cY) (t i:Nat):(fI g cls t i).length=i:=by simp[fI]
theorem qU {g:bu} {cls:List cY} {t i m:Nat} (h:i<m) (v:Bool):((eL (fI g cls t i) m).map bl).set ((i:Nat):Int).toNat (bl v)=(eL (fI g cls t i++[v]) m).map bl:=by
 have:=B8 (l:=fI g cls t i) (m:=m) (by rw[gO];exact h) v
 rw[gO] at this;exact this
theorem QF {g:bu} {cls:List cY} {t i m:Nat} (h:i<m) (d:AV):((eL (fI g cls t i) m).map bl).getD ((i:Nat):Int).toNat d=bl false:=by
 have:=B7 (l:=fI g cls t i) (m:=m) (by rw[gO];exact h) d
 rw[gO] at this;exact this
theorem MI {b:Nat} {ids:List Nat} {T:jw} {H H9:Hp} {m k:Nat} (h:vJ b ids T H) (hm:T.length=m) (h9:∀x∈b::ids,bo H9 x=bo H x) (nd:Node):[AV.sl b m,nd.av,i64 k].map (cw.dj H9 6)=[.im 1 .any (T.map ju),nd.av,i64 k]:=by
 rw[List.map_cons,List.map_cons,List.map_cons,List.map_nil,<-hm,yL (h.keep h9),dG 6 (by simp[cF]),dG 6 (by simp[cF])]
theorem MA (T:jw) (nd:Node) (k:Nat):cT 0 [.im 1 .any (T.map ju),nd.av,i64 k]:=by
 have:cT 0 (T.map ju):=GD T
 simp only[cT,cF]
 exact⟨this,yy _ _,trivial,trivial⟩
set_option maxRecDepth 4000 in
set_option maxHeartbeats 8000000 in
theorem KG (u:bq) (g:bu) (hg:g.Wf) (hk:eJ u g) (t:Nat) (cls:List cY) (hcl:cls.length=u.shared.length) (hcl64:cls.length<=64) (H:Hp) (nx:Nat) (hr:∀(b:Nat) (H':Hp) (n':Nat) (d:AV),bo H' b=some (.row 4 1 d ((lS g cls t).map bl))->b<n'->cQ Tryz.prog 54 [ej g t cls, .sl b g.nodes.length] H' n' (fun r H2 n2=>∃b2 d2,r= .sl b2 g.nodes.length/\n'<=b2/\b2<n2/\bo H2 b2=some (.row 4 1 d2 ((fG g cls t).map bl))/\∀y,y<n'->bo H2 y=bo H' y)):
 cQ Tryz.prog 23 [ej g t cls] H nx (fun r H2 n2=>∃b2 d2,r= .sl b2 g.nodes.length/\nx<=b2/\b2<n2/\bo H2 b2=some (.row 4 1 d2 ((fG g cls t).map bl))/\∀y,y<nx->bo H2 y=bo H y):=by
 have hl:=hg.len
 have hw:=hk.whole
 have hl0:=hw.1
 have hl1:=hw.2.1
 refine aJ NR rfl ?_
 repeat' (first|refine aQ ?_|exact dR|with_reducible refine aB ?_ ?_|((with_reducible refine Ask.mk ?_);first|exact cW|exact cJ|(intro h;simp_all[cD]<;>fail)|(simp_all[cD]<;>fail))|(apply aA;(·exact bz))|refine aH ?_|((with_reducible refine aE ?_ ?_)<;>intro hc<;>try(exfalso;omega)))
 refine aG (wa u g hg hk t cls _ _) ?_
 rintro _ H1 n1 ⟨b1,rfl,hgr1⟩
 repeat' (first|refine aQ ?_|exact aC|with_reducible refine aB ?_ ?_|(apply aA;(·exact bz))|refine aH ?_|((with_reducible refine aE ?_ ?_)<;>intro hc<;>try(exfalso;omega)))
 refine aG (FM u g hg hk t cls hcl64 _ _) ?_
 rintro _ H2 n2 ⟨b2,rfl,hgr2⟩
 obtain⟨ids1,hT1,hid1⟩:=hgr1.at_
 obtain⟨ids2,hT2,hid2⟩:=hgr2.at_
 have hle1:=hgr1.le
 have hle2:=hgr2.le
 have hT1':vJ b1 ids1 (iO g) H2:=hT1.keep fun x hx=>(hgr2.keep x (Nat.lt_of_lt_of_le (hid1 x hx).2 cU)).trans bx
 have hk2:∀y,y<nx->bo H2 y=bo H y:=fun y hy=>(hgr2.keep y (Nat.lt_of_lt_of_le (Nat.lt_of_lt_of_le (Nat.lt_of_lt_of_le hy cU) hle1) cU)).trans (Eq.trans bx ((hgr1.keep y (Nat.lt_of_lt_of_le hy cU)).trans bx))
 have hi1:∀x∈b1::ids1,nx<=x/\x<n2:=fun x hx=>⟨Nat.le_trans cU (hid1 x hx).1,Nat.lt_of_lt_of_le (Nat.lt_of_lt_of_le (hid1 x hx).2 cU) hle2⟩
 have hi2:∀x∈b2::ids2,nx<=x/\x<n2:=fun x hx=>⟨Nat.le_trans (Nat.le_trans (Nat.le_trans cU hle1) cU) (hid2 x hx).1,(hid2 x hx).2⟩
 have hnn:nx<=n2:=Nat.le_trans (Nat.le_trans (Nat.le_trans cU hle1) cU) hle2
 clear hgr1 hgr2 hT1 hid1 hid2
 repeat' (first|refine aQ ?_|exact dR|with_reducible refine aB ?_ ?_|((with_reducible refine Ask.mk ?_);first|exact cW|exact cJ|(intro h;simp_all[cD]<;>fail)|(simp_all[cD]<;>fail))|(apply aA;(·exact bz))|refine aH ?_|((with_reducible refine aE ?_ ?_)<;>intro hc<;>try(exfalso;omega)))
 simp only[List.length_map,Int.toNat_natCast]
 have hsh1:Shape (iO g) g.nodes.length g.bw.toNat:=mE _ _ _ _
 have hsh2:Shape (oU g cls t) g.nodes.length cls.length:=mE _ _ _ _
 have hslots:=hk.bw
 have hlocals:=hk.locals
 have hrw0:eL (fI g cls t 0) g.nodes.length=List.replicate g.nodes.length false:=by simp[eL,fI]
 refine aI (fun i:Nat=>[(0,ej g t cls),(3, .sl b1 g.nodes.length),(4, .sl b2 g.nodes.length),(5, .sl (n2+8) g.nodes.length),(23,gE g.nodes),(24,i64 g.nodes.length),(25,i64 i)])
  (fun i H' n'=>i<=g.nodes.length/\n2+17<=n'/\vJ b1 ids1 (iO g) H'/\vJ b2 ids2 (oU g cls t) H'/\(∃d,bo H' (n2+8)=some (.row 4 1 d ((eL (fI g cls t i) g.nodes.length).map bl)))/\∀y,y<nx->bo H' y=bo H y) (fun i=>g.nodes.length - i) 0 cG ⟨Nat.zero_le _,cU,hT1'.keep fun x hx=> ?_,hT2.keep fun x hx=> ?_, ?_,fun y hy=>Eq.trans bx (hk2 y hy)⟩ ?_
 ·have:=hi1 x hx;exact bx
 ·have:=hi2 x hx;exact bx
 ·apply Exists.intro
  rw[hrw0,List.map_replicate]
  exact bt
 clear hT1' hT2 hk2
 rintro i H3 n3 ⟨hi,hn3,hT1,hT2,⟨d8,r8⟩,hk3⟩
 by_cases hil:i<g.nodes.length
 ·have en:=fun d=>gh hil d
  have er:=fun d=>tM (l:=dW g (-1)) (k:=i) d (by rw[fy];exact hil)
  have hrl:((dW g (-1)).map bl).length=g.nodes.length:=by rw[List.length_map,fy]
  have hol:((eL (fI g cls t i) g.nodes.length).map bl).length=g.nodes.length:=by rw[List.length_map,sG (by rw[gO];exact hi)]
  have eo:=fun d=>QF (g:=g) (cls:=cls) (t:=t) hil d
  have hno:=hk.node hil
  have hfol:=(hw.2.2 i hil).2.2
  have hK1:∀{H':Hp},(∀x,x<n2->bo H' x=bo H3 x)->vJ b1 ids1 (iO g) H':=fun h=>hT1.keep fun x hx=>h x (hi1 x hx).2
  have hK2:∀{H':Hp},(∀x,x<n2->bo H' x=bo H3 x)->vJ b2 ids2 (oU g cls t) H':=fun h=>hT2.keep fun x hx=>h x (hi2 x hx).2
  have hnxt:=B9 g cls t i
  cases hrc:ji (dW g (-1)) (i:Int) with
  |false=>
   rw[hrc] at er
   have hsb:eF g cls t i=false:=by unfold eF;rw[hrc];rfl
   repeat' (first|refine aQ ?_|exact dR|with_reducible refine aB ?_ ?_|((with_reducible refine Ask.mk ?_);first|exact cW|(exact hrl)|exact cJ|(intro h;simp_all[Node.cells,cD]<;>fail)|(simp_all[Node.cells,cD]<;>fail))|(apply aA;(·(first|exact en _|exact er _|exact bz)))|refine aH ?_|((with_reducible refine aE ?_ ?_)<;>intro hc<;>try(exfalso;omega)))
   exact⟨i+1,by omega,cG,by omega,by omega,hK1 fun x hx=>bx,hK2 fun x hx=>bx,⟨d8,by rw[hnxt,hsb,oS (by rw[gO];exact hil)];exact bt⟩,fun y hy=>Eq.trans bx (hk3 y hy)⟩
  |true=>
   rw[hrc] at er
   by_cases h1:(g.nd i).kind=1
   ·have hsl:=hno.slot.1 (by unfold gQ;exact decide_eq_true (by omega))
    obtain⟨ks,hks⟩:∃ks:Nat,(g.nd i).slot=ks:=⟨(g.nd i).slot.toNat,by omega⟩
    have hsb:eF g cls t i=(!mb (iO g) (g.nd i) ks||(decide ((g.nd i).op=0)&&(g.nd i).a.ee&&decide ((g.nd i).a.slot=ks))):=by
     unfold eF
     simp only[hrc,h1,hks,if_true,Bool.true_and,Int.toNat_natCast]
    repeat' (first|refine aQ ?_|exact dR|with_reducible refine aB ?_ ?_|((with_reducible refine Ask.mk ?_);first|exact cW|(exact hrl)|(exact hol)|(intro h1 h2;rw[h1,h2];rfl)|exact cJ|(intro h;simp_all[Node.cells,cD]<;>fail)|(simp_all[Node.cells,cD]<;>fail))|(apply aA;(·(first|exact en _|exact er _|exact eo _|exact bz)))|((refine aS (fm (hK1 fun x hx=>bx) hsh1 (g.nd i) hfol ks (by omega) _) ?_ ?_);(·exact True.intro))|((refine aR (fun _=>fm (hK1 fun x hx=>bx) hsh1 (g.nd i) hfol ks (by omega) _) ?_ ?_);(·exact True.intro))|(simp only[h1])|(simp only[hks])|refine aH ?_|((with_reducible refine aE ?_ ?_)<;>intro hc<;>try(exfalso;omega)))
    refine⟨i+1,by omega,cG,by omega,cU,hK1 fun x hx=> ?_,hK2 fun x hx=> ?_, ?_,fun y hy=>Eq.trans bx (hk3 y hy)⟩
    ·exact bx
    ·exact bx
    ·apply Exists.intro
     refine Eq.trans bt ?_
     rw[qU hil,hnxt,hsb]
     refine congrArg (fun v=>some (fA.row _ 1 _ ((eL (fI g cls t i++[v]) g.nodes.length).map bl))) ?_
     cases mb (iO g) (g.nd i) ks<;>cases(g.nd i).a.ee<;>by_cases h5:(g.nd i).op=0<;>simp[h5]
   ·by_cases h2:(g.nd i).kind=2
    ·have hsl:=hno.slot.1 (by unfold gQ;exact decide_eq_true (by omega))
     have hth:=hno.cB.1 (by unfold fD;exact decide_eq_true (by omega))
     rw[if_neg (by omega)] at hth
     obtain⟨ks,hks⟩:∃ks:Nat,(g.nd i).slot=ks:=⟨(g.nd i).slot.toNat,by omega⟩
     obtain⟨kt,hkt⟩:∃kt:Nat,(g.nd i).cB=kt:=⟨(g.nd i).cB.toNat,by omega⟩
     have ec:∀d,(cls.map cY.av).getD ((kt:Int)).toNat d=(cls.getD kt default).av:=fun d=>by rw[Int.toNat_natCast];exact dN cY.av cls kt d (by omega)
     have ec2:∀d,(cls.map cY.av).getD ((g.nodes.getD i default).cB).toNat d=(cls.getD kt default).av:=fun d=>by rw[show(g.nodes.getD i default).cB=kt from hkt];exact ec d
     have hcml:(cls.map cY.av).length=cls.length:=by simp
     have hsb:eF g cls t i=(decide ((cls.getD kt default).kind≠3)&& !mb (iO g) (g.nd i) ks):=by
      unfold eF
      dsimp only
      rw[hrc,Bool.true_and,if_neg h1,if_pos h2,hks,hkt,Int.toNat_natCast,Int.toNat_natCast]
     repeat' (first|refine aQ ?_|exact dR|with_reducible refine aB ?_ ?_|((with_reducible refine Ask.mk ?_);first|exact cW|(exact hrl)|(exact hol)|(intro h1 h2;rw[h1,h2];rfl)|(rw[hcml];omega)|exact cJ|(intro h;simp_all[Node.cells,cD,cY.cells]<;>fail)|(simp_all[Node.cells,cD,cY.cells]<;>fail))|(apply aA;(·(first|exact en _|exact er _|exact eo _|exact ec _|exact ec2 _|exact bz)))|(simp only[h2])|(simp only[hks])|(simp only[hkt])|refine aH ?_|((with_reducible refine aE ?_ ?_)<;>intro hc<;>try(exfalso;omega)))
     refine bB (b1::ids1) (fun _=>rX hsh1 (g.nd i) hfol ks (by omega)) (fun H9 h9=> ?_) (MA _ _ _) trivial ?_
     ·exact MI hT1 hsh1.len (fun x hx=>(h9 x hx).trans (by have:=hi1 x hx;exact bx)) (g.nd i)
     refine Eq.mpr (rB (b1::ids1) _) (rN ?_)
     have hn8:n2+8∉b1::ids1:=fun h=>by have:=hi1 _ h;omega
     repeat' (first|refine aQ ?_|exact dR|with_reducible refine aB ?_ ?_|((with_reducible refine Ask.mk ?_);first|exact cW|(exact hol)|exact cJ|(intro h;simp_all[Node.cells,cD,cY.cells]<;>fail)|(simp_all[Node.cells,cD,cY.cells]<;>fail))|(apply aA;(·(first|exact eo _|exact bz)))|refine aH ?_|((with_reducible refine aE ?_ ?_)<;>intro hc<;>try(exfalso;omega)))
     refine⟨i+1,by omega,cG,by omega,cU,hK1 fun x hx=> ?_,hK2 fun x hx=> ?_, ?_,fun y hy=>Eq.trans bx (hk3 y hy)⟩
     ·exact bx
     ·exact bx
     ·apply Exists.intro
      refine Eq.trans bt ?_
      rw[qU hil,hnxt,hsb]
      refine congrArg (fun v=>some (fA.row _ 1 _ ((eL (fI g cls t i++[v]) g.nodes.length).map bl))) ?_
      cases mb (iO g) (g.nd i) ks<;>by_cases h5:(cls.getD kt default).kind=3<;>simp[h5]
    ·by_cases h3:(g.nd i).kind=3
     ·have hth:=hno.cB.1 (by unfold fD;exact decide_eq_true (by omega))
      rw[if_neg (by omega)] at hth
      obtain⟨kt,hkt⟩:∃kt:Nat,(g.nd i).cB=kt:=⟨(g.nd i).cB.toNat,by omega⟩
      have hkc:kt<cls.length:=by omega
      have how:=ua g t cls kt hkc
      have hsb:eF g cls t i=(jr cls t kt&& !mb (oU g cls t) (g.nd i) kt):=by
       unfold eF
       dsimp only
       rw[hrc,Bool.true_and,if_neg h1,if_neg h2,if_pos h3,hkt,Int.toNat_natCast]
      repeat' (first|refine aQ ?_|exact dR|with_reducible refine aB ?_ ?_|((with_reducible refine Ask.mk ?_);first|exact cW|(exact hrl)|(exact hol)|(intro h1 h2;rw[h1,h2];rfl)|exact cJ|(intro h;simp_all[Node.cells,cD]<;>fail)|(simp_all[Node.cells,cD]<;>fail))|(apply aA;(·(first|exact en _|exact er _|exact eo _|exact bz)))|refine aK (how) ?_|((refine aS (fm (hK2 fun x hx=>bx) hsh2 (g.nd i) hfol kt hkc _) ?_ ?_);(·exact True.intro))|((refine aR (fun _=>fm (hK2 fun x hx=>bx) hsh2 (g.nd i) hfol kt hkc _) ?_ ?_);(·exact True.intro))|(simp only[h3])|(simp only[hkt])|refine aH ?_|((with_reducible refine aE ?_ ?_)<;>intro hc<;>try(exfalso;omega)))
      refine⟨i+1,by omega,cG,by omega,cU,hK1 fun x hx=> ?_,hK2 fun x hx=> ?_, ?_,fun y hy=>Eq.trans bx (hk3 y hy)⟩
      ·exact bx
      ·exact bx
      ·apply Exists.intro
       refine Eq.trans bt ?_
       rw[qU hil,hnxt,hsb]
       refine congrArg (fun v=>some (fA.row _ 1 _ ((eL (fI g cls t i++[v]) g.nodes.length).map bl))) ?_
       cases mb (oU g cls t) (g.nd i) kt<;>cases jr cls t kt<;>simp
     ·by_cases h8:(g.nd i).kind=8
      ·have hsb:eF g cls t i=decide ((g.nd i).next=(g.nd i).iu):=by
        unfold eF
        dsimp only
        rw[hrc,Bool.true_and,if_neg h1,if_neg h2,if_neg h3,if_pos h8]
       repeat' (first|refine aQ ?_|exact dR|with_reducible refine aB ?_ ?_|((with_reducible refine Ask.mk ?_);first|exact cW|(exact hrl)|(exact hol)|exact cJ|(intro h;simp_all[Node.cells,cD]<;>fail)|(simp_all[Node.cells,cD]<;>fail))|(apply aA;(·(first|exact en _|exact er _|exact eo _|exact bz)))|(simp only[h8])|refine aH ?_|((with_reducible refine aE ?_ ?_)<;>intro hc<;>try(exfalso;omega)))
       refine⟨i+1,by omega,cG,by omega,cU,hK1 fun x hx=> ?_,hK2 fun x hx=> ?_, ?_,fun y hy=>Eq.trans bx (hk3 y hy)⟩
       ·exact bx
       ·exact bx
       ·apply Exists.intro
        refine Eq.trans bt ?_
        rw[qU hil,hnxt,hsb]
      ·have hsb:eF g cls t i=false:=by
        unfold eF
        dsimp only
        rw[hrc,Bool.true_and,if_neg h1,if_neg h2,if_neg h3,if_neg h8]
       repeat' (first|refine aQ ?_|exact dR|with_reducible refine aB ?_ ?_|((with_reducible refine Ask.mk ?_);first|exact cW|(exact hrl)|exact cJ|(intro h;simp_all[Node.cells,cD]<;>fail)|(simp_all[Node.cells,cD]<;>fail))|(apply aA;(·(first|exact en _|exact er _|exact bz)))|(simp only[h1])|(simp only[h2])|(simp only[h3])|(simp only[h8])|refine aH ?_|((with_reducible refine aE ?_ ?_)<;>intro hc<;>try(exfalso;omega)))
       exact⟨i+1,by omega,cG,by omega,cU,hK1 fun x hx=>bx,hK2 fun x hx=>bx,⟨d8,by rw[hnxt,hsb,oS (by rw[gO];exact hil)];exact bt⟩,fun y hy=>Eq.trans bx (hk3 y hy)⟩
 ·have:i=g.nodes.length:=by omega
  subst this
  have efull:eL (fI g cls t g.nodes.length) g.nodes.length=lS g cls t:=by
   rw[eL,gO,Nat.sub_self,List.replicate_zero,List.append_nil];rfl
  rw[efull] at r8
  repeat' (first|refine aQ ?_|exact aC|with_reducible refine aB ?_ ?_|(apply aA;(·exact bz))|refine aH ?_|((with_reducible refine aE ?_ ?_)<;>intro hc<;>try(exfalso;omega)))
  refine aG (hr (n2+8) _ _ d8 bt cU) ?_
  rintro _ H4 n4 ⟨b3,d3,rfl,hb3,hbn,r3,hk4⟩
  repeat' (first|refine aQ ?_|exact aC|with_reducible refine aB ?_ ?_|(apply aA;(·exact bz))|refine aH ?_|((with_reducible refine aE ?_ ?_)<;>intro hc<;>try(exfalso;omega)))
  exact⟨⟨b3,d3,rfl,Nat.le_trans cU hb3,Nat.lt_of_lt_of_le hbn cU,bt,fun y hy=>Eq.trans bx ((hk4 y (Nat.lt_of_lt_of_le hy cU)).trans (Eq.trans bx (hk3 y hy)))⟩⟩
section
theorem yj (l:List Bool) (hl:0<l.length) (hl2:l.length<=4096) (b:Nat) (H:Hp) (nx:Nat) (e:TypeId) (d:AV) (hb:bo H b=some (.row e 1 d (l.map bl))) (hbn:b<nx):
 cQ Tryz.prog 94 [.sl b l.length] H nx (fun r H2 n2=>∃d2,r= .sl (nx+3) l.length/\nx+3<n2/\bo H2 (nx+3)=some (.row 4 1 d2 (l.map bl))/\∀y,y<nx->bo H2 y=bo H y):=by
 refine aJ O2 rfl ?_
 have hml:(l.map bl).length=l.length:=by simp
 repeat' (first|refine aQ ?_|exact dR|with_reducible refine aB ?_ ?_|((with_reducible refine Ask.mk ?_);first|exact cW|(exact hml)|exact cJ)|(apply aA;(·exact bz))|refine aH ?_|((with_reducible refine aE ?_ ?_)<;>intro hc<;>try(exfalso;omega)))
 exact⟨⟨_,by simp,cU,bt,kB⟩⟩
open Classical in
noncomputable def fH (l:List Bool) (g:bu) (i:Nat):List Bool:=(List.range l.length).map fun j=>if j<i then tf l j&& !decide (RD l g j) else tf l j
theorem pD (l:List Bool) (g:bu) (i:Nat):(fH l g i).length=l.length:=by simp[fH]
theorem BW (l:List Bool) (g:bu):fH l g 0=l:=by
 apply List.ext_getElem
 ·simp[fH]
 ·intro j h1 h2;simp[fH,tf,List.getD,h2]
theorem EZ (l:List Bool) (g:bu):fH l g l.length=fN l g:=by
 apply List.ext_getElem
 ·simp[fH,fN]
 ·intro j h1 h2
  have:j<l.length:=by rw[pD] at h1;exact h1
  simp[fH,fN,this]
open Classical in
theorem nJ {l:List Bool} {g:bu} {i:Nat} (h:tf l i=true->¬RD l g i):fH l g (i+1)=fH l g i:=by
 apply List.ext_getElem
 ·simp[fH]
 ·intro j h1 h2
  simp only[fH,List.getElem_map,List.getElem_range]
  by_cases hj:j=i
  ·subst hj
   rw[if_pos (by omega),if_neg (by omega)]
   cases ht:tf l j with
   |false=>rfl
   |true=>rw[decide_eq_false (h ht)];rfl
  ·by_cases h3:j<i
   ·rw[if_pos (by omega),if_pos h3]
   ·rw[if_neg (by omega),if_neg h3]
open Classical in
theorem E0 {l:List Bool} {g:bu} {i:Nat} (hi:i<l.length) (h:RD l g i):fH l g (i+1)=(fH l g i).set i false:=by
 apply List.ext_getElem
 ·simp[fH]
 ·intro j h1 h2
  rw[List.getElem_set]
  simp only[fH,List.getElem_map,List.getElem_range]
  by_cases hj:i=j
  ·subst hj
   rw[if_pos (by omega),if_pos rfl,decide_eq_true h];simp
  ·rw[if_neg hj]
   by_cases h3:j<i
   ·rw[if_pos (by omega),if_pos h3]
   ·rw[if_neg (by omega),if_neg h3]
structure KY (l:List Bool) (g:bu) (i k:Nat):Prop where
 v8:∀q,q<=k->tf l (iter g i q)=true
 not:∀q,1<=q->q<=k->iter g i q≠i
theorem wm {l:List Bool} {g:bu} {i k:Nat} (h:KY l g i k) (hend:l.length<=k\/tf l (iter g i (k+1))=false):¬RD l g i:=by
 intro hr
 obtain⟨p,h1,h2,h3,h4⟩:=J7 hr
 rcases hend with he|he
 ·exact h.not p h1 (by omega) h3
 ·by_cases hp:p<=k
  ·exact h.not p h1 hp h3
  ·by_cases hp2:p=k+1
   ·subst hp2
    rw[h3] at he
    have:=h.v8 0 (Nat.zero_le _)
    rw[show iter g i 0=i from rfl,he] at this;cases this
   ·rw[h4 (k+1) (by omega)] at he;cases he
set_option maxRecDepth 4000 in
set_option maxHeartbeats 8000000 in
theorem E1 (g:bu) (hg:g.Wf) (hw:Whole g) (t:Nat) (cls:List cY) (l:List Bool) (hlm:l.length=g.nodes.length) (hnx:∀j,tf l j=true->0<=(g.nd j).next/\(g.nd j).next<g.nodes.length) (b:Nat) (H:Hp) (nx:Nat) (d:AV) (hb:bo H b=some (.row 4 1 d (l.map bl))) (hbn:b<nx):
 cQ Tryz.prog 54 [ej g t cls, .sl b g.nodes.length] H nx (fun r H2 n2=>∃b2 d2,r= .sl b2 g.nodes.length/\nx<=b2/\b2<n2/\bo H2 b2=some (.row 4 1 d2 ((fN l g).map bl))/\∀y,y<nx->bo H2 y=bo H y):=by
 have hl:=hg.len
 have hl0:=hw.1
 have hl1:=hw.2.1
 rw[<-hlm] at hl hl0 hl1 hnx ⊢
 refine aJ OG rfl ?_
 have hml:(l.map bl).length=l.length:=by simp
 repeat' (first|refine aQ ?_|exact aC|with_reducible refine aB ?_ ?_|(apply aA;(·exact bz))|refine aH ?_|((with_reducible refine aE ?_ ?_)<;>intro hc<;>try(exfalso;omega)))
 refine aG (yj l (by omega) hl1 b _ _ 4 d bt cU) ?_
 rintro _ H1 n1 ⟨d1,rfl,hn1,r5,hk1⟩
 have hb1:bo H1 b=some (.row 4 1 d (l.map bl)):=(hk1 b cU).trans bt
 have hk2:∀y,y<nx->bo H1 y=bo H y:=fun y hy=>(hk1 y (Nat.lt_of_lt_of_le hy cU)).trans bx
 clear hk1
 repeat' (first|refine aQ ?_|exact dR|with_reducible refine aB ?_ ?_|((with_reducible refine Ask.mk ?_);first|exact cW|(exact hml)|exact cJ)|(apply aA;(·exact bz))|refine aH ?_|((with_reducible refine aE ?_ ?_)<;>intro hc<;>try(exfalso;omega)))
 have hz:fH l g 0=l:=BW l g
 refine aI (fun i:Nat=>[(0,ej g t cls),(1, .sl b l.length),(5, .sl (nx+5) l.length),(12,i64 l.length),(13,i64 i)])
  (fun i H' n'=>i<=l.length/\n1<=n'/\(∃d,bo H' b=some (.row 4 1 d (l.map bl)))/\(∃d,bo H' (nx+5)=some (.row 4 1 d ((fH l g i).map bl)))/\∀y,y<nx->bo H' y=bo H y) (fun i=>l.length - i) 0 cG ⟨Nat.zero_le _,cU,⟨_,bt⟩,⟨_,by rw[hz];exact bt⟩,fun y hy=>Eq.trans bx (hk2 y hy)⟩ ?_
 clear r5 hb1 hk2 hb
 rintro i H2 n2 ⟨hi,hn2,⟨db,rb⟩,⟨d5,r5⟩,hk2⟩
 by_cases hil:i<l.length
 ·have el:=fun d=>oI (l:=l) (k:=i) hil d
  have hrl:((fH l g i).map bl).length=l.length:=by rw[List.length_map,pD]
  cases hti:tf l i with
  |false=>
   have hkp:=nJ (l:=l) (g:=g) (i:=i) (fun h=>by rw[hti] at h;cases h)
   rw[show l.getD i false=false from hti] at el
   repeat' (first|refine aQ ?_|exact dR|with_reducible refine aB ?_ ?_|((with_reducible refine Ask.mk ?_);first|exact cW|(exact hml)|exact cJ)|(apply aA;(·(first|exact el _|exact bz)))|refine aH ?_|((with_reducible refine aE ?_ ?_)<;>intro hc<;>try(exfalso;omega)))
   exact⟨i+1,by omega,cG,by omega,by omega,⟨_,bt⟩,⟨_,by rw[hkp];exact bt⟩,fun y hy=>Eq.trans bx (hk2 y hy)⟩
  |true=>
   rw[show l.getD i false=true from hti] at el
   have en:=fun d=>gh (l:=g.nodes) (i:=i) (by rw[<-hlm];exact hil) d
   have hnl:(g.nodes.map Node.av).length=l.length:=by rw[List.length_map,hlm]
   repeat' (first|refine aQ ?_|exact dR|with_reducible refine aB ?_ ?_|((with_reducible refine Ask.mk ?_);first|exact cW|(exact hml)|(rw[hnl];omega)|exact cJ|(intro h;simp_all[cD,Node.cells]<;>fail)|(simp_all[cD,Node.cells]<;>fail))|(apply aA;(·(first|exact el _|exact en _|exact bz)))|refine aH ?_|((with_reducible refine aE ?_ ?_)<;>intro hc<;>try(exfalso;omega)))
   refine aI (fun k:Nat=>[(0,ej g t cls),(1, .sl b l.length),(5, .sl (nx+5) l.length),(6,i64 i),(7,i64 (g.nd (iter g i k)).next),(8,i64 k),(12,i64 l.length),(13,i64 i)])
    (fun k H' n'=>k<=l.length/\n2<=n'/\KY l g i k/\(∃d,bo H' b=some (.row 4 1 d (l.map bl)))/\(∃d,bo H' (nx+5)=some (.row 4 1 d ((fH l g i).map bl)))/\∀y,y<nx->bo H' y=bo H y) (fun k=>l.length - k) 0 cG ⟨Nat.zero_le _,cU,⟨fun q hq=>by rw[show q=0 by omega];exact hti,fun q h1 h2=>by omega⟩,⟨_,bt⟩,⟨_,bt⟩,fun y hy=>Eq.trans bx (hk2 y hy)⟩ ?_
   clear rb r5 hk2
   rintro k H3 n3 ⟨hk,hn3,hra,⟨db,rb⟩,⟨d5,r5⟩,hk3⟩
   obtain⟨x0,x1⟩:=hnx _ (hra.v8 k (Nat.le_refl _))
   have hx1:(g.nd (iter g i k)).next.toNat<l.length:=by omega
   have ex:∀d,(l.map bl).getD ((g.nd (iter g i k)).next).toNat d=bl (tf l (iter g i (k+1))):=fun d=>dN bl l _ d hx1
   have em:∀d,(g.nodes.map Node.av).getD ((g.nd (iter g i k)).next).toNat d=(g.nd (iter g i (k+1))).av:=fun d=>dN Node.av g.nodes _ d (by rw[<-hlm];exact hx1)
   by_cases hkl:k<l.length
   ·have hkd:decide ((k:Int)<(l.length:Int))=true:=decide_eq_true (by omega)
    cases htk:tf l (iter g i (k+1)) with
    |false=>
     rw[htk] at ex
     have hkp:=nJ (l:=l) (g:=g) (i:=i) (fun _=>wm hra (.inr htk))
     repeat' (first|refine aQ ?_|exact dR|with_reducible refine aB ?_ ?_|((with_reducible refine Ask.mk ?_);first|exact cW|(exact hml)|exact cJ|(intro h;simp_all[cD,Node.cells]<;>fail)|(simp_all[cD,Node.cells]<;>fail))|(apply aA;(·(first|exact ex _|exact bz)))|(simp only[hkd])|refine aH ?_|((with_reducible refine aE ?_ ?_)<;>intro hc<;>try(exfalso;omega)))
     exact⟨i+1,by omega,cG,by omega,by omega,⟨_,bt⟩,⟨_,by rw[hkp];exact bt⟩,fun y hy=>Eq.trans bx (hk3 y hy)⟩
    |true=>
     rw[htk] at ex
     by_cases hxi:(g.nd (iter g i k)).next=(i:Int)
     ·have hret:RD l g i:=⟨k+1,by omega,by show(g.nd (iter g i k)).next.toNat=i;omega,fun q hq=>hra.v8 q (by omega)⟩
      have hst:=E0 hil hret
      have hsl:((fH l g i).map bl).set ((i:Nat):Int).toNat (bl false)=(fH l g (i+1)).map bl:=by rw[Int.toNat_natCast,hst,tL]
      have eo:=fun d=>oI (l:=fH l g i) (k:=i) (by rw[pD];exact hil) d
      repeat' (first|refine aQ ?_|exact dR|with_reducible refine aB ?_ ?_|((with_reducible refine Ask.mk ?_);first|exact cW|(exact hml)|(exact hrl)|exact cJ|(intro h;simp_all[cD,Node.cells]<;>fail)|(simp_all[cD,Node.cells]<;>fail))|(apply aA;(·(first|exact ex _|exact el _|exact eo _|exact bz)))|(simp only[hkd])|(simp only[hxi])|refine aH ?_|((with_reducible refine aE ?_ ?_)<;>intro hc<;>try(exfalso;omega)))
      exact⟨i+1,by omega,cG,by omega,by omega,⟨_,bt⟩,⟨_,by rw[<-hsl];exact bt⟩,fun y hy=>Eq.trans bx (hk3 y hy)⟩
     ·repeat' (first|refine aQ ?_|exact dR|with_reducible refine aB ?_ ?_|((with_reducible refine Ask.mk ?_);first|exact cW|(exact hml)|(rw[hnl];omega)|exact cJ|(intro h;simp_all[cD,Node.cells]<;>fail)|(simp_all[cD,Node.cells]<;>fail))|(apply aA;(·(first|exact ex _|exact em _|exact bz)))|(simp only[hkd])|refine aH ?_|((with_reducible refine aE ?_ ?_)<;>intro hc<;>try(exfalso;omega)))
      refine⟨k+1,by omega,cG,by omega,by omega,⟨fun q hq=> ?_,fun q h1 h2=> ?_⟩,⟨_,bt⟩,⟨_,bt⟩,fun y hy=>Eq.trans bx (hk3 y hy)⟩
      ·by_cases e:q=k+1
       ·rw[e];exact htk
       ·exact hra.v8 q (by omega)
      ·by_cases e:q=k+1
       ·rw[e];intro h
        apply hxi
        have h:(g.nd (iter g i k)).next.toNat=i:=h
        omega
       ·exact hra.not q h1 (by omega)
   ·have hkp:=nJ (l:=l) (g:=g) (i:=i) (fun _=>wm hra (.inl (by omega)))
    repeat' (first|refine aQ ?_|exact dR|with_reducible refine aB ?_ ?_|((with_reducible refine Ask.mk ?_);first|exact cW|(exact hml)|exact cJ|(intro h;simp_all[cD,Node.cells]<;>fail)|(simp_all[cD,Node.cells]<;>fail))|(apply aA;(·(first|exact ex _|exact bz)))|refine aH ?_|((with_reducible refine aE ?_ ?_)<;>intro hc<;>try(exfalso;omega)))
    exact⟨i+1,by omega,cG,by omega,by omega,⟨_,bt⟩,⟨_,by rw[hkp];exact bt⟩,fun y hy=>Eq.trans bx (hk3 y hy)⟩
 ·have:i=l.length:=by omega
  subst this
  rw[EZ] at r5
  repeat' (first|refine aQ ?_|exact aC|with_reducible refine aB ?_ ?_|(apply aA;(·exact bz))|refine aH ?_|((with_reducible refine aE ?_ ?_)<;>intro hc<;>try(exfalso;omega)))
  exact⟨⟨nx+5,d5,rfl,by omega,cU,bt,fun y hy=>Eq.trans bx (hk2 y hy)⟩⟩
theorem wy {u:bq} {g:bu} (hk:eJ u g) {cls:List cY} {t j:Nat} (h:tf (lS g cls t) j=true):0<=(g.nd j).next/\(g.nd j).next<g.nodes.length:=by
 have hj:j<g.nodes.length:=by have:=uy h;rw[oB] at this;exact this
 have hs:eF g cls t j=true:=by simpa[tf,lS,fI,List.getD,hj] using h
 have hno:=hk.node hj
 have hkk:(g.nd j).kind=1\/(g.nd j).kind=2\/(g.nd j).kind=3\/(g.nd j).kind=8:=by
  unfold eF at hs
  dsimp only at hs
  rw[Bool.and_eq_true] at hs
  obtain⟨_,hs⟩:=hs
  split at hs
  ·omega
  ·split at hs
   ·omega
   ·split at hs
    ·omega
    ·split at hs
     ·omega
     ·cases hs
 exact hno.next.1 (by unfold fK;exact decide_eq_true (by omega))
theorem wY (u:bq) (g:bu) (hg:g.Wf) (hk:eJ u g) (t:Nat) (cls:List cY) (hcl:cls.length=u.shared.length) (hcl64:cls.length<=64) (H:Hp) (nx:Nat):
 cQ Tryz.prog 23 [ej g t cls] H nx (fun r H2 n2=>∃b2 d2,r= .sl b2 g.nodes.length/\nx<=b2/\b2<n2/\bo H2 b2=some (.row 4 1 d2 ((fG g cls t).map bl))/\∀y,y<nx->bo H2 y=bo H y):=
 KG u g hg hk t cls hcl hcl64 H nx fun b H' n' d hb hbn=>E1 g hg hk.whole t cls (lS g cls t) (oB g cls t) (fun j hj=>wy hk hj) b H' n' d hb hbn
end
noncomputable def D5 (u:bq) (t:Int) (l:List Bool):AV:=if nI u=true then(if t<0\/(u.br.length:Int)<=t then .df [.im 1 .any [],i64 2] else .df [ju l,i64 0]) else .df [.im 1 .any [],i64 60]
theorem jY (u:bq):(cP u).length=u.shared.length:=by simp[cP]
theorem HF (u:bq) (hu:u.Wf) (t:Int):Pure Tryz.prog 8 [u.av,i64 t] (fun r=>r=D5 u t (fG (u.gr t.toNat) (cP u) t.toNat)):=by
 unfold D5
 by_cases hr:cN u
 ·rw[if_pos (dB.2 hr)]
  by_cases ht:t<0\/(u.br.length:Int)<=t
  ·rw[if_pos ht]
   have ha:=rW u hu hr t ht
   refine sg ?_
   refine aD VX rfl ?_
   repeat' (first|refine aQ ?_|exact dR|with_reducible refine aB ?_ ?_|((with_reducible refine Ask.mk ?_);first|exact cW|exact cJ|(intro h;simp_all[bq.cells]<;>fail)|(simp_all[bq.cells]<;>fail))|(apply aA;(·exact bz))|refine aK (ha) ?_|refine aH ?_|((with_reducible refine aE ?_ ?_)<;>intro hc<;>try(exfalso;omega)))
   exact rfl
  ·rw[if_neg ht]
   obtain⟨k,rfl⟩:∃k:Nat,t=k:=⟨t.toNat,by omega⟩
   rw[Int.toNat_natCast]
   have hk:k<u.br.length:=by omega
   have ha:=tI u hu hr k hk
   have hgo:=hr.gr hk
   have hfew:=hr.yu
   have hcl:=jY u
   refine dO ?_ (by rw[cF,cT,cT,cT];exact⟨by simp[ju,cF,cI],by simp[cF],trivial⟩)
   refine aJ VX rfl ?_
   repeat' (first|refine aQ ?_|exact dR|with_reducible refine aB ?_ ?_|((with_reducible refine Ask.mk ?_);first|exact cW|exact cJ|(intro h;simp_all[bq.cells]<;>fail)|(simp_all[bq.cells]<;>fail))|(apply aA;(·exact bz))|refine aK (ha) ?_|refine aH ?_|((with_reducible refine aE ?_ ?_)<;>intro hc<;>try(exfalso;omega)))
   refine aG (wY u (u.gr k) (hu.br _ (cR default hk)) hgo k (cP u) hcl (by omega) _ _) ?_
   rintro _ H2 n2 ⟨b,d,rfl,hb1,hb2,hb,_⟩
   repeat' (first|refine aQ ?_|exact aC|with_reducible refine aB ?_ ?_|(apply aA;(·exact bz))|refine aH ?_|((with_reducible refine aE ?_ ?_)<;>intro hc<;>try(exfalso;omega)))
   refine⟨pd.trans ?_⟩
   rw[tu 5 (by simp[cF])]
   refine congrArg (fun z=>AV.df [z,i64 0]) ((dv (e:=4) (sz:=1) (d:=d) (es:=(fG (u.gr k) (cP u) k).map bl) bt (by rw[List.length_map,qq])).trans ?_)
   rw[cu _ (n9 _ _)]
   rfl
 ·rw[if_neg (mt dB.1 hr)]
  have ha:=vm u hu hr t
  refine sg ?_
  refine aD VX rfl ?_
  repeat' (first|refine aQ ?_|exact dR|with_reducible refine aB ?_ ?_|((with_reducible refine Ask.mk ?_);first|exact cW|exact cJ|(intro h;simp_all[bq.cells]<;>fail)|(simp_all[bq.cells]<;>fail))|(apply aA;(·exact bz))|refine aK (ha) ?_|refine aH ?_|((with_reducible refine aE ?_ ?_)<;>intro hc<;>try(exfalso;omega)))
  exact rfl
abbrev qA (E:List (Int×Int)):List AV:=lu (fun n:Int=>Value.int .i64 n) i64 E
theorem R4 (E:List (Int×Int)) (t:Int):qB false (.int .i64 t) (qA E) (i64 0)=some (i64 ((cm E t).getD 0),(cm E t).isSome):=(uU oq i64 t E (i64 0)).trans (by cases cm E t<;>rfl)
theorem V6 (E:List (Int×Int)) (t v:Int):sO false (.int .i64 t) (qA E) (i64 v)=some (qA (gA E t v)):=uV oq i64 t v E
theorem XK (E:List (Int×Bool)) (t:Int):PE false (.int .i64 t) (mR E)=some (mR (kz E t)):=VY oq bl t E
structure oE (out:List Bool) (g:bu) (E:List (Int×Bool)) (F:List (Int×Int)):Prop where
 nodup:(E.map Prod.fst).Nodup
 keys:∀k∈E.map Prod.fst,0<=k/\k<out.length
 yes:∀k,cm E k≠some false
 is:∀(i:Nat),i<out.length->cm E i=none->cm F i=some (eR out g i:Int)
 no:∀(i:Nat),i<out.length->cm E i≠none->cm F i=none
 DC:∀k,cm F k≠none->0<=k/\k<out.length
theorem BS {κ β:Type} [DecidableEq κ]:∀(E:List (κ×β)) (k:κ) (v:β),k∉E.map Prod.fst->gA E k v=E++[(k,v)]
 |[],k,v,_=>rfl
 |(a,b)::E,k,v,h=>by
  simp only[List.map_cons,List.mem_cons,not_or] at h
  rw[gA,if_neg h.1,BS E k v h.2];rfl
def jo (i:Nat):List (Int×Bool):=(List.range i).map fun(j:Nat)=>((j:Int),true)
theorem ry (i:Nat):(jo i).map Prod.fst=(List.range i).map fun(j:Nat)=>(j:Int):=by simp[jo,Function.comp_def]
theorem pB (i:Nat) (k:Int):k∈(jo i).map Prod.fst↔0<=k/\k<i:=by
 rw[ry,List.mem_map]
 constructor
 ·rintro⟨j,hj,rfl⟩;have:=List.mem_range.1 hj;omega
 ·intro h;exact⟨k.toNat,List.mem_range.2 (by omega),by omega⟩
theorem BN (i:Nat):gA (jo i) (i:Int) true=jo (i+1):=by
 rw[BS _ _ _ (fun h=>by have:=(pB i i).1 h;omega),jo,jo,List.range_succ,List.map_append];rfl
theorem A8 {κ β:Type} [DecidableEq κ]:∀{E:List (κ×β)} {k:κ} {v:β},cm E k=some v->(k,v)∈E
 |(a,b)::E,k,v,h=>by
  rw[cm] at h
  split at h
  ·rename_i e;cases h;rw[e];simp
  ·exact List.mem_cons_of_mem _ (A8 h)
theorem oE.start (out:List Bool) (g:bu):oE out g (jo out.length) []:=by
 refine⟨?_,fun k hk=>(pB _ _).1 hk,fun k h=> ?_,fun i hi h=> ?_,fun i hi h=>rfl,fun k h=>absurd rfl h⟩
 ·rw[ry]
  exact List.pairwise_map.2 ((List.pairwise_lt_range (n:=out.length)).imp fun h e=>by omega)
 ·have:=A8 h
  unfold jo at this
  simp at this
 ·exact absurd ((pB _ _).2 ⟨by omega,by omega⟩) ((jB _ _).1 h)
theorem oE.settle {out:List Bool} {g:bu} {E:List (Int×Bool)} {F:List (Int×Int)} (h:oE out g E F) {i:Nat} (hi:i<out.length) (ho:cm E (i:Int)≠none):oE out g (kz E (i:Int)) (gA F (i:Int) (eR out g i:Int))/\(kz E (i:Int)).length+1=E.length:=by
 have hd:=ze E (i:Int) h.nodup
 refine⟨⟨hd.2,fun k hk=>h.keys k ((hd.1 k).1 hk).2,fun k hk=> ?_,fun j hj hl=> ?_,fun j hj hl=> ?_,fun k hk=> ?_⟩, ?_⟩
 ·rw[px _ _ _ h.nodup] at hk
  split at hk
  ·cases hk
  ·exact h.yes k hk
 ·rw[gb]
  by_cases e:(j:Int)=(i:Int)
  ·rw[if_pos e,show j=i by omega]
  ·rw[if_neg e]
   rw[px _ _ _ h.nodup,if_neg e] at hl
   exact h.is j hj hl
 ·rw[px _ _ _ h.nodup] at hl
  by_cases e:(j:Int)=(i:Int)
  ·rw[if_pos e] at hl;exact absurd rfl hl
  ·rw[if_neg e] at hl
   rw[gb,if_neg e]
   exact h.no j hj hl
 ·rw[gb] at hk
  split at hk
  ·rename_i e;rw[e];omega
  ·exact h.DC k hk
 ·have:=GJ E (i:Int)
  cases hl:cm E (i:Int) with
  |none=>exact absurd hl ho
  |some v=>rw[hl] at this;simpa using this
theorem oE.turns {out:List Bool} {g:bu} {E:List (Int×Bool)} {F:List (Int×Int)} (h:oE out g E F) (he:Ends out g) (hne:E≠[]):¬∀(j:Nat),j<out.length->cm E (j:Int)≠none->tf out j=true/\cm E (iD g j:Int)≠none:=by
 intro hall
 obtain⟨p,hp⟩:=List.exists_mem_of_ne_nil _ hne
 have hpk:p.1∈E.map Prod.fst:=List.mem_map_of_mem hp
 have hk:=h.keys _ hpk
 obtain⟨i,hi⟩:∃i:Nat,p.1=i:=⟨p.1.toNat,by omega⟩
 obtain⟨k,h1,h2,h3⟩:=he i
 have hop:∀q,q<=k->cm E (iter g i q:Int)≠none/\iter g i q<out.length:=by
  intro q
  induction q with
  |zero=>
   intro _
   refine⟨?_, ?_⟩
   ·show cm E (i:Int)≠none
    rw[<-hi];exact fun e=>(jB _ _).1 e hpk
   ·show i<out.length
    omega
  |succ q ih=>
   intro hq
   obtain⟨a1,a2⟩:=ih (by omega)
   have hx:cm E (iter g i (q+1):Int)≠none:=(hall _ a2 a1).2
   refine⟨hx, ?_⟩
   have:(iter g i (q+1):Int)∈E.map Prod.fst:=Classical.byContradiction fun e=>hx ((jB _ _).2 e)
   have:=h.keys _ this
   omega
 have:=(hall _ (hop k (Nat.le_refl _)).2 (hop k (Nat.le_refl _)).1).1
 rw[h2] at this;cases this
set_option maxRecDepth 4000 in
set_option maxHeartbeats 8000000 in
theorem DT (g:bu) (hg:g.Wf) (t:Nat) (cls:List cY) (out:List Bool) (hm:out.length=g.nodes.length) (hm4:out.length<=4096) (he:Ends out g) (hnx:∀j,tf out j=true->0<=(g.nd j).next/\(g.nd j).next<out.length) (b:Nat) (H:Hp) (nx:Nat) (d:AV) (hb:bo H b=some (.row 4 1 d (out.map bl))) (hbn:b<nx):
 cQ Tryz.prog 62 [ej g t cls, .sl b out.length] H nx (fun r H2 n2=>∃mm d2 em F,r= .mp mm/\nx<=mm/\mm<n2/\bo H2 mm=some (.row em 0 d2 (mapA (qA F)))/\(∀i:Nat,i<out.length->cm F (i:Int)=some (eR out g i:Int))/\∀y,y<nx->bo H2 y=bo H y):=by
 refine aJ OM rfl ?_
 have hml:(out.map bl).length=out.length:=by simp
 have hnl:(g.nodes.map Node.av).length=out.length:=by rw[List.length_map,hm]
 repeat' (first|refine aQ ?_|exact dR|with_reducible refine aB ?_ ?_|((with_reducible refine Ask.mk ?_);first|exact cW|(exact hml)|exact cJ)|(apply aA;(·exact bz))|refine aH ?_|((with_reducible refine aE ?_ ?_)<;>intro hc<;>try(exfalso;omega)))
 refine aI (fun i:Nat=>[(0,ej g t cls),(1, .sl b out.length),(5, .mp (nx+1)),(13,i64 out.length),(14,i64 i)])
  (fun i H' n'=>i<=out.length/\nx+6<=n'/\(∃d,bo H' b=some (.row 4 1 d (out.map bl)))/\(∃d,bo H' (nx+1)=some (.row 3 0 d (mapA (mR (jo i)))))/\∀y,y<nx->bo H' y=bo H y) (fun i=>out.length - i) 0 cG ⟨Nat.zero_le _,cU,⟨_,bt⟩,⟨_,bt⟩,fun y hy=>bx⟩ ?_
 clear hb
 rintro i H1 n1 ⟨hi,hn1,⟨db,rb⟩,⟨d1,r1⟩,hk1⟩
 by_cases hil:i<out.length
 ·have hnxt:=BN i
  repeat' (first|refine aQ ?_|exact dR|with_reducible refine aB ?_ ?_|((with_reducible refine Ask.mk ?_);first|exact cW|(exact hml)|exact cJ)|(apply aA;(·exact bz))|(apply aF (g:=none);(·exact fun _=>nH _ _ _))|refine aH ?_|((with_reducible refine aE ?_ ?_)<;>intro hc<;>try(exfalso;omega)))
  exact⟨i+1,by omega,cG,by omega,by omega,⟨_,bt⟩,⟨_,by rw[<-hnxt];exact bt⟩,fun y hy=>Eq.trans bx (hk1 y hy)⟩
 ·have:i=out.length:=by omega
  subst this
  repeat' (first|refine aQ ?_|exact aC|with_reducible refine aB ?_ ?_|(apply aA;(·exact bz))|refine aH ?_|((with_reducible refine aE ?_ ?_)<;>intro hc<;>try(exfalso;omega)))
  refine aI (fun s:List (Int×Bool)×List (Int×Int)=>[(0,ej g t cls),(1, .sl b out.length),(5, .mp (nx+1)),(7, .mp (n1+1))])
   (fun s H' n'=>n1+3<=n'/\(∃d,bo H' b=some (.row 4 1 d (out.map bl)))/\(∃d,bo H' (nx+1)=some (.row 3 0 d (mapA (mR s.1))))/\(∃d,bo H' (n1+1)=some (.row 3 0 d (mapA (qA s.2))))/\oE out g s.1 s.2/\∀y,y<nx->bo H' y=bo H y) (fun s=>s.1.length) (jo out.length,[]) cG ⟨cU,⟨_,bt⟩,⟨_,bt⟩,⟨_,bt⟩,oE.start out g,fun y hy=>Eq.trans bx (hk1 y hy)⟩ ?_
  clear rb r1 hk1
  rintro⟨E,F⟩ H2 n2 ⟨hn2,⟨db,rb⟩,⟨d1,r1⟩,⟨d2,r2⟩,hop,hk2⟩
  dsimp only at r1 r2 hop ⊢
  have hEl:(mR E).length=E.length:=by simp[lu]
  by_cases hE:E=[]
  ·subst hE
   repeat' (first|refine aQ ?_|exact aC|with_reducible refine aB ?_ ?_|(apply aA;(·exact bz))|refine aH ?_|((with_reducible refine aE ?_ ?_)<;>intro hc<;>try(exfalso;omega)))
   exact⟨⟨n1+1,d2,_,F,rfl,by omega,cU,bt,fun i hi=>hop.is i hi rfl,fun y hy=>Eq.trans bx (hk2 y hy)⟩⟩
  ·have hE0:0<E.length:=List.length_pos_iff.2 hE
   repeat' (first|refine aQ ?_|exact dR|with_reducible refine aB ?_ ?_|((with_reducible refine Ask.mk ?_);first|exact cW|(exact hml)|(rw[hEl];omega)|exact cJ)|(apply aA;(·exact bz))|(simp only[hEl])|refine aH ?_|((with_reducible refine aE ?_ ?_)<;>intro hc<;>try(exfalso;omega)))
   refine aI (fun s:(List (Int×Bool)×List (Int×Int))×Nat=>[(0,ej g t cls),(1, .sl b out.length),(5, .mp (nx+1)),(7, .mp (n1+1)),(25,i64 out.length),(26,i64 s.2)])
    (fun s H' n'=>s.2<=out.length/\n2<=n'/\(∃d,bo H' b=some (.row 4 1 d (out.map bl)))/\(∃d,bo H' (nx+1)=some (.row 3 0 d (mapA (mR s.1.1))))/\(∃d,bo H' (n1+1)=some (.row 3 0 d (mapA (qA s.1.2))))/\oE out g s.1.1 s.1.2/\s.1.1.length<=E.length/\(s.1.1.length=E.length->s.1=(E,F)/\∀(j:Nat),j<s.2->cm E (j:Int)≠none->tf out j=true/\cm E (iD g j:Int)≠none)/\∀y,y<nx->bo H' y=bo H y) (fun s=>out.length - s.2) ((E,F),0) cG ⟨Nat.zero_le _,cU,⟨_,bt⟩,⟨_,bt⟩,⟨_,bt⟩,hop,Nat.le_refl _,fun _=>⟨rfl,fun j hj=>absurd hj (Nat.not_lt_zero _)⟩,fun y hy=>Eq.trans bx (hk2 y hy)⟩ ?_
   clear rb r1 r2 hk2
   rintro⟨⟨E2,F2⟩,i⟩ H3 n3 ⟨hi,hn3,⟨db,rb⟩,⟨d1,r1⟩,⟨d2,r2⟩,hop2,hle,hsame,hk3⟩
   dsimp only at hi r1 r2 hop2 hle hsame ⊢
   by_cases hil:i<out.length
   ·have eg:=oC E2 (i:Int)
    have el:=fun d=>oI (l:=out) (k:=i) hil d
    cases hlk:cm E2 (i:Int) with
    |none=>
     rw[hlk] at eg
     repeat' (first|refine aQ ?_|exact dR|with_reducible refine aB ?_ ?_|((with_reducible refine Ask.mk ?_);first|exact cW|(exact hml)|exact cJ)|(apply aA;(·exact bz))|(apply aF (g:=none);(·exact fun _=>eg))|refine aH ?_|((with_reducible refine aE ?_ ?_)<;>intro hc<;>try(exfalso;omega)))
     refine⟨((E2,F2),i+1),by dsimp only;omega,cG,by dsimp only;omega,by omega,⟨_,bt⟩,⟨_,bt⟩,⟨_,bt⟩,hop2,hle,fun h=>⟨(hsame h).1,fun j hj ho=> ?_⟩,fun y hy=>Eq.trans bx (hk3 y hy)⟩
     by_cases e:j=i
     ·subst e
      have:=(hsame h).1
      cases this
      exact absurd hlk ho
     ·exact(hsame h).2 j (by dsimp only at hj;omega) ho
    |some v=>
     have hv:v=true:=by
      cases v with
      |true=>rfl
      |false=>exact absurd hlk (hop2.yes _)
     subst hv
     have hon:cm E2 (i:Int)≠none:=by rw[hlk];exact fun e=>by cases e
     obtain⟨hst,hsl⟩:=hop2.settle hil hon
     rw[hlk] at eg
     cases hto:tf out i with
     |false=>
      rw[show out.getD i false=false from hto] at el
      have hh:eR out g i=i:=jA hto
      rw[hh] at hst
      repeat' (first|refine aQ ?_|exact dR|with_reducible refine aB ?_ ?_|((with_reducible refine Ask.mk ?_);first|exact cW|(exact hml)|exact cJ)|(apply aA;(·(first|exact el _|exact bz)))|(apply aF (g:=none);(·exact fun _=>eg))|(apply aF (g:=none);(·exact fun _=>V6 _ _ _))|(apply aF (g:=none);(·exact fun _=>XK _ _))|refine aH ?_|((with_reducible refine aE ?_ ?_)<;>intro hc<;>try(exfalso;omega)))
      exact⟨((kz E2 (i:Int),gA F2 (i:Int) (i:Int)),i+1),by dsimp only;omega,cG,by dsimp only;omega,by omega,⟨_,bt⟩,⟨_,bt⟩,⟨_,bt⟩,hst,by dsimp only;omega,fun h=>by dsimp only at h;omega,fun y hy=>Eq.trans bx (hk3 y hy)⟩
     |true=>
      rw[show out.getD i false=true from hto] at el
      obtain⟨x0,x1⟩:=hnx i hto
      have hxn:(g.nd i).next=(iD g i:Int):=(Int.toNat_of_nonneg x0).symm
      have hxl:iD g i<out.length:=by show(g.nd i).next.toNat<out.length;omega
      have en:=fun d=>gh (l:=g.nodes) (i:=i) (by rw[<-hm];exact hil) d
      have eg2:=R4 F2 (g.nd i).next
      rw[hxn] at eg2
      have hho:=xi he hto
      cases hlf:cm F2 (iD g i:Int) with
      |none=>
       rw[hlf] at eg2
       rw[<-hxn] at eg2
       repeat' (first|refine aQ ?_|exact dR|with_reducible refine aB ?_ ?_|((with_reducible refine Ask.mk ?_);first|exact cW|(exact hml)|(rw[hnl];omega)|exact cJ|(intro h;simp_all[cD,Node.cells]<;>fail)|(simp_all[cD,Node.cells]<;>fail))|(apply aA;(·(first|exact el _|exact en _|exact bz)))|(apply aF (g:=none);(·exact fun _=>eg))|(apply aF (g:=none);(·exact fun _=>eg2))|refine aH ?_|((with_reducible refine aE ?_ ?_)<;>intro hc<;>try(exfalso;omega)))
       refine⟨((E2,F2),i+1),by dsimp only;omega,cG,by dsimp only;omega,by omega,⟨_,bt⟩,⟨_,bt⟩,⟨_,bt⟩,hop2,hle,fun h=>⟨(hsame h).1,fun j hj ho=> ?_⟩,fun y hy=>Eq.trans bx (hk3 y hy)⟩
       by_cases e:j=i
       ·subst e
        have:=(hsame h).1
        cases this
        refine⟨hto,fun h2=> ?_⟩
        rw[hop2.is _ hxl h2] at hlf
        cases hlf
       ·exact(hsame h).2 j (by dsimp only at hj;omega) ho
      |some hv=>
       have hhv:hv=(eR out g (iD g i):Int):=by
        cases h2:cm E2 (iD g i:Int) with
        |none=>rw[hop2.is _ hxl h2] at hlf;cases hlf;rfl
        |some w=>rw[hop2.no _ hxl (by rw[h2];exact fun e=>by cases e)] at hlf;cases hlf
       rw[hlf] at eg2
       rw[<-hxn] at eg2
       subst hhv
       rw[<-hho] at eg2
       repeat' (first|refine aQ ?_|exact dR|with_reducible refine aB ?_ ?_|((with_reducible refine Ask.mk ?_);first|exact cW|(exact hml)|(rw[hnl];omega)|exact cJ|(intro h;simp_all[cD,Node.cells]<;>fail)|(simp_all[cD,Node.cells]<;>fail))|(apply aA;(·(first|exact el _|exact en _|exact bz)))|(apply aF (g:=none);(·exact fun _=>eg))|(apply aF (g:=none);(·exact fun _=>eg2))|(apply aF (g:=none);(·exact fun _=>V6 _ _ _))|(apply aF (g:=none);(·exact fun _=>XK _ _))|refine aH ?_|((with_reducible refine aE ?_ ?_)<;>intro hc<;>try(exfalso;omega)))
       exact⟨((kz E2 (i:Int),gA F2 (i:Int) (eR out g i:Int)),i+1),by dsimp only;omega,cG,by dsimp only;omega,by omega,⟨_,bt⟩,⟨_,bt⟩,⟨_,bt⟩,hst,by dsimp only;omega,fun h=>by dsimp only at h;omega,fun y hy=>Eq.trans bx (hk3 y hy)⟩
   ·have:i=out.length:=by omega
    subst this
    have hlt:E2.length<E.length:=by
     apply Nat.lt_of_le_of_ne hle
     intro h
     obtain⟨e,hall⟩:=hsame h
     exact hop.turns he hE hall
    repeat' (first|refine aQ ?_|exact aC|with_reducible refine aB ?_ ?_|(apply aA;(·exact bz))|refine aH ?_|((with_reducible refine aE ?_ ?_)<;>intro hc<;>try(exfalso;omega)))
    exact⟨(E2,F2),hlt,cG,by omega,⟨_,bt⟩,⟨_,bt⟩,⟨_,bt⟩,hop2,fun y hy=>Eq.trans bx (hk3 y hy)⟩
noncomputable def mu (g:bu) (out:List Bool) (i:Nat):Bool:=ji (dW g (-1)) (i:Int)&& !tf out i&&decide (i≠eR out g 0)
noncomputable def fY (g:bu) (out:List Bool) (m:Nat):List Nat:=eR out g 0::(List.range m).filter (mu g out)
theorem BQ (g:bu) (out:List Bool):fY g out g.nodes.length=cS g out:=rfl
theorem yA (g:bu) (out:List Bool) (m:Nat):fY g out (m+1)=if mu g out m=true then fY g out m++[m] else fY g out m:=by
 rw[fY,List.range_succ,List.filter_append]
 by_cases h:mu g out m=true
 ·rw[if_pos h];simp[fY,h]
 ·rw[if_neg h];simp[fY,h]
theorem u6 {g:bu} {out:List Bool} {m:Nat} (hh:eR out g 0<g.nodes.length) (hm:m<=g.nodes.length):∀x∈fY g out m,x<g.nodes.length:=by
 intro x hx
 rcases List.mem_cons.1 hx with rfl|hx
 ·exact hh
 ·have:=List.mem_range.1 (List.mem_filter.1 hx).1;omega
theorem k7 (g:bu) (out:List Bool) (m:Nat):(fY g out m).Nodup:=by
 rw[fY,List.nodup_cons]
 refine⟨fun h=> ?_,List.nodup_range.filter _⟩
 have:=(List.mem_filter.1 h).2
 unfold mu at this
 simp at this
theorem sA {g:bu} {out:List Bool} {m:Nat} (hh:eR out g 0<g.nodes.length) (hm:m<=g.nodes.length):(fY g out m).length<=g.nodes.length:=by
 have:=jC (m:=List.range g.nodes.length) (k7 g out m) fun x hx=>List.mem_range.2 (u6 hh hm x hx)
 simpa using this
def rv (o:List Nat) (k:Nat):List (Int×Int):=(List.range k).foldl (fun E j=>gA E ((o.getD j 0:Nat):Int) (j:Int)) []
theorem uZ (o:List Nat) (k:Nat):rv o (k+1)=gA (rv o k) ((o.getD k 0:Nat):Int) (k:Int):=by
 rw[rv,List.range_succ,List.foldl_append];rfl
theorem uY {o:List Nat} (hn:o.Nodup) (i:Nat):∀k,k<=o.length->cm (rv o k) (i:Int)=((o.take k).findIdx? (fun j=>decide (j=i))).map fun j=>(j:Int)
 |0,_=>by simp[rv,cm]
 |k+1,hk=>by
  have hkl:k<o.length:=by omega
  rw[uZ,gb,uY hn i k (by omega),List.take_succ_eq_append_getElem hkl,List.findIdx?_append,gd hkl]
  have hni:o[k]∉o.take k:=by
   have h1:=hn
   rw[<-List.take_append_drop k o,List.nodup_append] at h1
   intro hm
   refine h1.2.2 _ hm (o[k]) ?_ rfl
   rw[List.drop_eq_getElem_cons hkl];exact List.mem_cons_self
  by_cases e:i=o[k]
  ·have hnone:(o.take k).findIdx? (fun j=>decide (j=i))=none:=by
    rw[List.findIdx?_eq_none_iff]
    intro x hx
    rw[decide_eq_false_iff_not]
    intro h;rw[h,e] at hx;exact hni hx
   rw[if_pos (by rw[e]),hnone]
   simp[List.findIdx?_cons,e,List.length_take,Nat.min_eq_left (Nat.le_of_lt hkl)]
  ·rw[if_neg (by omega)]
   have:[o[k]].findIdx? (fun j=>decide (j=i))=none:=by simp[List.findIdx?_cons,Ne.symm e]
   rw[this]
   simp
theorem JU {o:List Nat} (hn:o.Nodup) (i:Nat):(cm (rv o o.length) (i:Int)).getD 0=(eS o i:Int):=by
 rw[uY hn i _ (Nat.le_refl _),List.take_length,eS]
 cases o.findIdx? (fun j=>decide (j=i))<;>rfl
end Go.Proofs.YtekfmjjmihomlaaGreatDoor
