import Derived.Test.YtmonponfppdgfaaGreatDoorM31
import Derived.Test.YtmonponfppdgfaaGreatDoorM26
namespace Go.Proofs.YtmonponfppdgfaaGreatDoor
open Go Go.dD Go.Proofs
set_option linter.unusedSimpArgs false
set_option linter.unusedVariables false
theorem PK {p:Prop} (h:Go p):p:=h
theorem lp.cH {b:Nat} {ids:List Nat} {T:gx} {H H':Hp} (h:lp b ids T H) (hk:∀x∈b::ids,bk H' x=bk H x):lp b ids T H':=ui.cH h hk
def c8 (l:List Bool) (m:Nat):List Bool:=l++List.replicate (m - l.length) false
theorem qS {l:List Bool} {m:Nat} (h:l.length<m) (v:Bool):((c8 l m).map bl).set ((l.length:Nat):Int).toNat (bl v)=(c8 (l++[v]) m).map bl:=by
 rw[Int.toNat_natCast,<-List.map_set,c8,List.set_append,if_neg (by omega),Nat.sub_self,show m - l.length=(m - (l++[v]).length)+1 by simp;omega,List.replicate_succ,c8]
 simp
theorem kb {l:List Bool} {m:Nat} (h:l.length<m):c8 (l++[false]) m=c8 l m:=by
 rw[c8,c8,show m - l.length=(m - (l++[false]).length)+1 by simp;omega,List.replicate_succ];simp
theorem jO {l:List Bool} {m:Nat} (h:l.length<=m):(c8 l m).length=m:=by simp[c8];omega
theorem yC {l:List Bool} {m:Nat} (h:l.length<m) (d:AV):((c8 l m).map bl).getD ((l.length:Nat):Int).toNat d=bl false:=by
 rw[gS (by rw[jO (by omega)];exact h),c8,List.getD,List.getElem?_append_right (Nat.le_refl _),Nat.sub_self,List.getElem?_replicate,if_pos (by omega)];rfl
theorem qT (g:br) (cls:List cF) (t i:Nat):df g cls t (i+1)=df g cls t i++[dJ g cls t i]:=by
 rw[df,List.range_succ,List.map_append];rfl
theorem eW (g:br) (cls:List cF) (t i:Nat):(df g cls t i).length=i:=by simp[df]
theorem mc {g:br} {cls:List cF} {t i m:Nat} (h:i<m) (v:Bool):((c8 (df g cls t i) m).map bl).set ((i:Nat):Int).toNat (bl v)=(c8 (df g cls t i++[v]) m).map bl:=by
 have:=qS (l:=df g cls t i) (m:=m) (by rw[eW];exact h) v
 rw[eW] at this;exact this
theorem I9 {g:br} {cls:List cF} {t i m:Nat} (h:i<m) (d:AV):((c8 (df g cls t i) m).map bl).getD ((i:Nat):Int).toNat d=bl false:=by
 have:=yC (l:=df g cls t i) (m:=m) (by rw[eW];exact h) d
 rw[eW] at this;exact this
theorem EP {b:Nat} {ids:List Nat} {T:gx} {H H9:Hp} {m k:Nat} (h:lp b ids T H) (hm:T.length=m) (h9:∀x∈b::ids,bk H9 x=bk H x) (nd:Node):[AV.sl b m,nd.av,i64 k].map (dD.de H9 6)=[.im 1 .any (T.map fE),nd.av,i64 k]:=by
 rw[List.map_cons,List.map_cons,List.map_cons,List.map_nil,<-hm,ou (h.cH h9),dB 6 (by simp[cJ]),dB 6 (by simp[cJ])]
theorem EJ (T:gx) (nd:Node) (k:Nat):cL 0 [.im 1 .any (T.map fE),nd.av,i64 k]:=by
 have:cL 0 (T.map fE):=oQ T
 simp only[cL,cJ]
 exact⟨this,wM _ _,trivial,trivial⟩
set_option maxRecDepth 4000 in
set_option maxHeartbeats 8000000 in
theorem DK (u:bq) (g:br) (hg:g.Wf) (hk:dR u g) (t:Nat) (cls:List cF) (hcl:cls.length=u.shared.length) (hcl64:cls.length<=64) (H:Hp) (nx:Nat) (hr:∀(b:Nat) (H':Hp) (n':Nat) (d:AV),bk H' b=some (.row 4 1 d ((kS g cls t).map bl))->b<n'->cM Tryz.prog 45 [eG g t cls, .sl b g.nodes.length] H' n' (fun r H2 n2=>∃b2 d2,r= .sl b2 g.nodes.length/\n'<=b2/\b2<n2/\bk H2 b2=some (.row 4 1 d2 ((eR g cls t).map bl))/\∀y,y<n'->bk H2 y=bk H' y)):
 cM Tryz.prog 23 [eG g t cls] H nx (fun r H2 n2=>∃b2 d2,r= .sl b2 g.nodes.length/\nx<=b2/\b2<n2/\bk H2 b2=some (.row 4 1 d2 ((eR g cls t).map bl))/\∀y,y<nx->bk H2 y=bk H y):=by
 have hl:=hg.len
 have hw:=hk.whole
 have hl0:=hw.1
 have hl1:=hw.2.1
 refine aI FX rfl ?_
 repeat' (first|refine aQ ?_|exact cP|with_reducible refine aB ?_ ?_|((with_reducible refine Ask.mk ?_);first|exact bx|exact bt|(intro h;simp_all[cB]<;>fail)|(simp_all[cB]<;>fail))|(apply aA;(·exact bp))|refine aH ?_|((with_reducible refine aE ?_ ?_)<;>intro hc<;>try(exfalso;omega)))
 refine aJ (pW u g hg hk t cls _ _) ?_
 rintro _ H1 n1 ⟨b1,rfl,hgr1⟩
 repeat' (first|refine aQ ?_|exact aC|with_reducible refine aB ?_ ?_|(apply aA;(·exact bp))|refine aH ?_|((with_reducible refine aE ?_ ?_)<;>intro hc<;>try(exfalso;omega)))
 refine aJ (AG u g hg hk t cls hcl64 _ _) ?_
 rintro _ H2 n2 ⟨b2,rfl,hgr2⟩
 obtain⟨ids1,hT1,hid1⟩:=hgr1.at_
 obtain⟨ids2,hT2,hid2⟩:=hgr2.at_
 have hle1:=hgr1.le
 have hle2:=hgr2.le
 have hT1':lp b1 ids1 (eN g) H2:=hT1.cH fun x hx=>(hgr2.cH x (Nat.lt_of_lt_of_le (hid1 x hx).2 cI)).trans bw
 have hk2:∀y,y<nx->bk H2 y=bk H y:=fun y hy=>(hgr2.cH y (Nat.lt_of_lt_of_le (Nat.lt_of_lt_of_le (Nat.lt_of_lt_of_le hy cI) hle1) cI)).trans (Eq.trans bw ((hgr1.cH y (Nat.lt_of_lt_of_le hy cI)).trans bw))
 have hi1:∀x∈b1::ids1,nx<=x/\x<n2:=fun x hx=>⟨Nat.le_trans cI (hid1 x hx).1,Nat.lt_of_lt_of_le (Nat.lt_of_lt_of_le (hid1 x hx).2 cI) hle2⟩
 have hi2:∀x∈b2::ids2,nx<=x/\x<n2:=fun x hx=>⟨Nat.le_trans (Nat.le_trans (Nat.le_trans cI hle1) cI) (hid2 x hx).1,(hid2 x hx).2⟩
 have hnn:nx<=n2:=Nat.le_trans (Nat.le_trans (Nat.le_trans cI hle1) cI) hle2
 clear hgr1 hgr2 hT1 hid1 hid2
 repeat' (first|refine aQ ?_|exact cP|with_reducible refine aB ?_ ?_|((with_reducible refine Ask.mk ?_);first|exact bx|exact bt|(intro h;simp_all[cB]<;>fail)|(simp_all[cB]<;>fail))|(apply aA;(·exact bp))|refine aH ?_|((with_reducible refine aE ?_ ?_)<;>intro hc<;>try(exfalso;omega)))
 simp only[List.length_map,Int.toNat_natCast]
 have hsh1:Shape (eN g) g.nodes.length g.cZ.toNat:=gZ _ _ _ _
 have hsh2:Shape (kU g cls t) g.nodes.length cls.length:=gZ _ _ _ _
 have hslots:=hk.cZ
 have hlocals:=hk.locals
 have hrw0:c8 (df g cls t 0) g.nodes.length=List.replicate g.nodes.length false:=by simp[c8,df]
 refine aF (fun i:Nat=>[(0,eG g t cls),(3, .sl b1 g.nodes.length),(4, .sl b2 g.nodes.length),(5, .sl (n2+8) g.nodes.length),(23,ee g.nodes),(24,i64 g.nodes.length),(25,i64 i)])
  (fun i H' n'=>i<=g.nodes.length/\n2+17<=n'/\lp b1 ids1 (eN g) H'/\lp b2 ids2 (kU g cls t) H'/\(∃d,bk H' (n2+8)=some (.row 4 1 d ((c8 (df g cls t i) g.nodes.length).map bl)))/\∀y,y<nx->bk H' y=bk H y) (fun i=>g.nodes.length - i) 0 bu ⟨Nat.zero_le _,cI,hT1'.cH fun x hx=> ?_,hT2.cH fun x hx=> ?_, ?_,fun y hy=>Eq.trans bw (hk2 y hy)⟩ ?_
 ·have:=hi1 x hx;exact bw
 ·have:=hi2 x hx;exact bw
 ·apply Exists.intro
  rw[hrw0,List.map_replicate]
  exact bm
 clear hT1' hT2 hk2
 rintro i H3 n3 ⟨hi,hn3,hT1,hT2,⟨d8,r8⟩,hk3⟩
 by_cases hil:i<g.nodes.length
 ·have en:=fun d=>eH hil d
  have er:=fun d=>mG (l:=cj g (-1)) (k:=i) d (by rw[dW];exact hil)
  have hrl:((cj g (-1)).map bl).length=g.nodes.length:=by rw[List.length_map,dW]
  have hol:((c8 (df g cls t i) g.nodes.length).map bl).length=g.nodes.length:=by rw[List.length_map,jO (by rw[eW];exact hi)]
  have eo:=fun d=>I9 (g:=g) (cls:=cls) (t:=t) hil d
  have hno:=hk.node hil
  have hfol:=(hw.2.2 i hil).2.2
  have hK1:∀{H':Hp},(∀x,x<n2->bk H' x=bk H3 x)->lp b1 ids1 (eN g) H':=fun h=>hT1.cH fun x hx=>h x (hi1 x hx).2
  have hK2:∀{H':Hp},(∀x,x<n2->bk H' x=bk H3 x)->lp b2 ids2 (kU g cls t) H':=fun h=>hT2.cH fun x hx=>h x (hi2 x hx).2
  have hnxt:=qT g cls t i
  cases hrc:iF (cj g (-1)) (i:Int) with
  |false=>
   rw[hrc] at er
   have hsb:dJ g cls t i=false:=by unfold dJ;rw[hrc];rfl
   repeat' (first|refine aQ ?_|exact cP|with_reducible refine aB ?_ ?_|((with_reducible refine Ask.mk ?_);first|exact bx|(exact hrl)|exact bt|(intro h;simp_all[Node.cells,cB]<;>fail)|(simp_all[Node.cells,cB]<;>fail))|(apply aA;(·(first|exact en _|exact er _|exact bp)))|refine aH ?_|((with_reducible refine aE ?_ ?_)<;>intro hc<;>try(exfalso;omega)))
   exact⟨i+1,by omega,bu,by omega,by omega,hK1 fun x hx=>bw,hK2 fun x hx=>bw,⟨d8,by rw[hnxt,hsb,kb (by rw[eW];exact hil)];exact bm⟩,fun y hy=>Eq.trans bw (hk3 y hy)⟩
  |true=>
   rw[hrc] at er
   by_cases h1:(g.nd i).kind=1
   ·have hsl:=hno.slot.1 (by unfold gb;exact decide_eq_true (by omega))
    obtain⟨ks,hks⟩:∃ks:Nat,(g.nd i).slot=ks:=⟨(g.nd i).slot.toNat,by omega⟩
    have hsb:dJ g cls t i=(!kX (eN g) (g.nd i) ks||(decide ((g.nd i).op=0)&&(g.nd i).a.eA&&decide ((g.nd i).a.slot=ks))):=by
     unfold dJ
     simp only[hrc,h1,hks,if_true,Bool.true_and,Int.toNat_natCast]
    repeat' (first|refine aQ ?_|exact cP|with_reducible refine aB ?_ ?_|((with_reducible refine Ask.mk ?_);first|exact bx|(exact hrl)|(exact hol)|(intro h1 h2;rw[h1,h2];rfl)|exact bt|(intro h;simp_all[Node.cells,cB]<;>fail)|(simp_all[Node.cells,cB]<;>fail))|(apply aA;(·(first|exact en _|exact er _|exact eo _|exact bp)))|((refine aS (ft (hK1 fun x hx=>bw) hsh1 (g.nd i) hfol ks (by omega) _) ?_ ?_);(·exact True.intro))|((refine aR (fun _=>ft (hK1 fun x hx=>bw) hsh1 (g.nd i) hfol ks (by omega) _) ?_ ?_);(·exact True.intro))|(simp only[h1])|(simp only[hks])|refine aH ?_|((with_reducible refine aE ?_ ?_)<;>intro hc<;>try(exfalso;omega)))
    refine⟨i+1,by omega,bu,by omega,cI,hK1 fun x hx=> ?_,hK2 fun x hx=> ?_, ?_,fun y hy=>Eq.trans bw (hk3 y hy)⟩
    ·exact bw
    ·exact bw
    ·apply Exists.intro
     refine Eq.trans bm ?_
     rw[mc hil,hnxt,hsb]
     refine congrArg (fun v=>some (eO.row _ 1 _ ((c8 (df g cls t i++[v]) g.nodes.length).map bl))) ?_
     cases kX (eN g) (g.nd i) ks<;>cases(g.nd i).a.eA<;>by_cases h5:(g.nd i).op=0<;>simp[h5]
   ·by_cases h2:(g.nd i).kind=2
    ·have hsl:=hno.slot.1 (by unfold gb;exact decide_eq_true (by omega))
     have hth:=hno.cT.1 (by unfold fp;exact decide_eq_true (by omega))
     rw[if_neg (by omega)] at hth
     obtain⟨ks,hks⟩:∃ks:Nat,(g.nd i).slot=ks:=⟨(g.nd i).slot.toNat,by omega⟩
     obtain⟨kt,hkt⟩:∃kt:Nat,(g.nd i).cT=kt:=⟨(g.nd i).cT.toNat,by omega⟩
     have ec:∀d,(cls.map cF.av).getD ((kt:Int)).toNat d=(cls.getD kt default).av:=fun d=>by rw[Int.toNat_natCast];exact dG cF.av cls kt d (by omega)
     have ec2:∀d,(cls.map cF.av).getD ((g.nodes.getD i default).cT).toNat d=(cls.getD kt default).av:=fun d=>by rw[show(g.nodes.getD i default).cT=kt from hkt];exact ec d
     have hcml:(cls.map cF.av).length=cls.length:=by simp
     have hsb:dJ g cls t i=(decide ((cls.getD kt default).kind≠3)&& !kX (eN g) (g.nd i) ks):=by
      unfold dJ
      dsimp only
      rw[hrc,Bool.true_and,if_neg h1,if_pos h2,hks,hkt,Int.toNat_natCast,Int.toNat_natCast]
     repeat' (first|refine aQ ?_|exact cP|with_reducible refine aB ?_ ?_|((with_reducible refine Ask.mk ?_);first|exact bx|(exact hrl)|(exact hol)|(intro h1 h2;rw[h1,h2];rfl)|(rw[hcml];omega)|exact bt|(intro h;simp_all[Node.cells,cB,cF.cells]<;>fail)|(simp_all[Node.cells,cB,cF.cells]<;>fail))|(apply aA;(·(first|exact en _|exact er _|exact eo _|exact ec _|exact ec2 _|exact bp)))|(simp only[h2])|(simp only[hks])|(simp only[hkt])|refine aH ?_|((with_reducible refine aE ?_ ?_)<;>intro hc<;>try(exfalso;omega)))
     refine ak (b1::ids1) (fun _=>pq hsh1 (g.nd i) hfol ks (by omega)) (fun H9 h9=> ?_) (EJ _ _ _) trivial ?_
     ·exact EP hT1 hsh1.len (fun x hx=>(h9 x hx).trans (by have:=hi1 x hx;exact bw)) (g.nd i)
     refine Eq.mpr (zL (b1::ids1) _) (PK ?_)
     have hn8:n2+8∉b1::ids1:=fun h=>by have:=hi1 _ h;omega
     repeat' (first|refine aQ ?_|exact cP|with_reducible refine aB ?_ ?_|((with_reducible refine Ask.mk ?_);first|exact bx|(exact hol)|exact bt|(intro h;simp_all[Node.cells,cB,cF.cells]<;>fail)|(simp_all[Node.cells,cB,cF.cells]<;>fail))|(apply aA;(·(first|exact eo _|exact bp)))|refine aH ?_|((with_reducible refine aE ?_ ?_)<;>intro hc<;>try(exfalso;omega)))
     refine⟨i+1,by omega,bu,by omega,cI,hK1 fun x hx=> ?_,hK2 fun x hx=> ?_, ?_,fun y hy=>Eq.trans bw (hk3 y hy)⟩
     ·exact bw
     ·exact bw
     ·apply Exists.intro
      refine Eq.trans bm ?_
      rw[mc hil,hnxt,hsb]
      refine congrArg (fun v=>some (eO.row _ 1 _ ((c8 (df g cls t i++[v]) g.nodes.length).map bl))) ?_
      cases kX (eN g) (g.nd i) ks<;>by_cases h5:(cls.getD kt default).kind=3<;>simp[h5]
    ·by_cases h3:(g.nd i).kind=3
     ·have hth:=hno.cT.1 (by unfold fp;exact decide_eq_true (by omega))
      rw[if_neg (by omega)] at hth
      obtain⟨kt,hkt⟩:∃kt:Nat,(g.nd i).cT=kt:=⟨(g.nd i).cT.toNat,by omega⟩
      have hkc:kt<cls.length:=by omega
      have how:=sP g t cls kt hkc
      have hsb:dJ g cls t i=(ny cls t kt&& !kX (kU g cls t) (g.nd i) kt):=by
       unfold dJ
       dsimp only
       rw[hrc,Bool.true_and,if_neg h1,if_neg h2,if_pos h3,hkt,Int.toNat_natCast]
      repeat' (first|refine aQ ?_|exact cP|with_reducible refine aB ?_ ?_|((with_reducible refine Ask.mk ?_);first|exact bx|(exact hrl)|(exact hol)|(intro h1 h2;rw[h1,h2];rfl)|exact bt|(intro h;simp_all[Node.cells,cB]<;>fail)|(simp_all[Node.cells,cB]<;>fail))|(apply aA;(·(first|exact en _|exact er _|exact eo _|exact bp)))|refine aK (how) ?_|((refine aS (ft (hK2 fun x hx=>bw) hsh2 (g.nd i) hfol kt hkc _) ?_ ?_);(·exact True.intro))|((refine aR (fun _=>ft (hK2 fun x hx=>bw) hsh2 (g.nd i) hfol kt hkc _) ?_ ?_);(·exact True.intro))|(simp only[h3])|(simp only[hkt])|refine aH ?_|((with_reducible refine aE ?_ ?_)<;>intro hc<;>try(exfalso;omega)))
      refine⟨i+1,by omega,bu,by omega,cI,hK1 fun x hx=> ?_,hK2 fun x hx=> ?_, ?_,fun y hy=>Eq.trans bw (hk3 y hy)⟩
      ·exact bw
      ·exact bw
      ·apply Exists.intro
       refine Eq.trans bm ?_
       rw[mc hil,hnxt,hsb]
       refine congrArg (fun v=>some (eO.row _ 1 _ ((c8 (df g cls t i++[v]) g.nodes.length).map bl))) ?_
       cases kX (kU g cls t) (g.nd i) kt<;>cases ny cls t kt<;>simp
     ·by_cases h8:(g.nd i).kind=8
      ·have hsb:dJ g cls t i=decide ((g.nd i).next=(g.nd i).jc):=by
        unfold dJ
        dsimp only
        rw[hrc,Bool.true_and,if_neg h1,if_neg h2,if_neg h3,if_pos h8]
       repeat' (first|refine aQ ?_|exact cP|with_reducible refine aB ?_ ?_|((with_reducible refine Ask.mk ?_);first|exact bx|(exact hrl)|(exact hol)|exact bt|(intro h;simp_all[Node.cells,cB]<;>fail)|(simp_all[Node.cells,cB]<;>fail))|(apply aA;(·(first|exact en _|exact er _|exact eo _|exact bp)))|(simp only[h8])|refine aH ?_|((with_reducible refine aE ?_ ?_)<;>intro hc<;>try(exfalso;omega)))
       refine⟨i+1,by omega,bu,by omega,cI,hK1 fun x hx=> ?_,hK2 fun x hx=> ?_, ?_,fun y hy=>Eq.trans bw (hk3 y hy)⟩
       ·exact bw
       ·exact bw
       ·apply Exists.intro
        refine Eq.trans bm ?_
        rw[mc hil,hnxt,hsb]
      ·have hsb:dJ g cls t i=false:=by
        unfold dJ
        dsimp only
        rw[hrc,Bool.true_and,if_neg h1,if_neg h2,if_neg h3,if_neg h8]
       repeat' (first|refine aQ ?_|exact cP|with_reducible refine aB ?_ ?_|((with_reducible refine Ask.mk ?_);first|exact bx|(exact hrl)|exact bt|(intro h;simp_all[Node.cells,cB]<;>fail)|(simp_all[Node.cells,cB]<;>fail))|(apply aA;(·(first|exact en _|exact er _|exact bp)))|(simp only[h1])|(simp only[h2])|(simp only[h3])|(simp only[h8])|refine aH ?_|((with_reducible refine aE ?_ ?_)<;>intro hc<;>try(exfalso;omega)))
       exact⟨i+1,by omega,bu,by omega,cI,hK1 fun x hx=>bw,hK2 fun x hx=>bw,⟨d8,by rw[hnxt,hsb,kb (by rw[eW];exact hil)];exact bm⟩,fun y hy=>Eq.trans bw (hk3 y hy)⟩
 ·have:i=g.nodes.length:=by omega
  subst this
  have efull:c8 (df g cls t g.nodes.length) g.nodes.length=kS g cls t:=by
   rw[c8,eW,Nat.sub_self,List.replicate_zero,List.append_nil];rfl
  rw[efull] at r8
  repeat' (first|refine aQ ?_|exact aC|with_reducible refine aB ?_ ?_|(apply aA;(·exact bp))|refine aH ?_|((with_reducible refine aE ?_ ?_)<;>intro hc<;>try(exfalso;omega)))
  refine aJ (hr (n2+8) _ _ d8 bm cI) ?_
  rintro _ H4 n4 ⟨b3,d3,rfl,hb3,hbn,r3,hk4⟩
  repeat' (first|refine aQ ?_|exact aC|with_reducible refine aB ?_ ?_|(apply aA;(·exact bp))|refine aH ?_|((with_reducible refine aE ?_ ?_)<;>intro hc<;>try(exfalso;omega)))
  exact⟨⟨b3,d3,rfl,Nat.le_trans cI hb3,Nat.lt_of_lt_of_le hbn cI,bm,fun y hy=>Eq.trans bw ((hk4 y (Nat.lt_of_lt_of_le hy cI)).trans (Eq.trans bw (hk3 y hy)))⟩⟩
section
theorem wC (l:List Bool) (hl:0<l.length) (hl2:l.length<=4096) (b:Nat) (H:Hp) (nx:Nat) (e:TypeId) (d:AV) (hb:bk H b=some (.row e 1 d (l.map bl))) (hbn:b<nx):
 cM Tryz.prog 78 [.sl b l.length] H nx (fun r H2 n2=>∃d2,r= .sl (nx+3) l.length/\nx+3<n2/\bk H2 (nx+3)=some (.row 4 1 d2 (l.map bl))/\∀y,y<nx->bk H2 y=bk H y):=by
 refine aI HF rfl ?_
 have hml:(l.map bl).length=l.length:=by simp
 repeat' (first|refine aQ ?_|exact cP|with_reducible refine aB ?_ ?_|((with_reducible refine Ask.mk ?_);first|exact bx|(exact hml)|exact bt)|(apply aA;(·exact bp))|refine aH ?_|((with_reducible refine aE ?_ ?_)<;>intro hc<;>try(exfalso;omega)))
 exact⟨⟨_,by simp,cI,bm,kE⟩⟩
open Classical in
noncomputable def fG (l:List Bool) (g:br) (i:Nat):List Bool:=(List.range l.length).map fun j=>if j<i then tf l j&& !decide (BH l g j) else tf l j
theorem oA (l:List Bool) (g:br) (i:Nat):(fG l g i).length=l.length:=by simp[fG]
theorem xk (l:List Bool) (g:br):fG l g 0=l:=by
 apply List.ext_getElem
 ·simp[fG]
 ·intro j h1 h2;simp[fG,tf,List.getD,h2]
theorem zk (l:List Bool) (g:br):fG l g l.length=dE l g:=by
 apply List.ext_getElem
 ·simp[fG,dE]
 ·intro j h1 h2
  have:j<l.length:=by rw[oA] at h1;exact h1
  simp[fG,dE,this]
open Classical in
theorem m9 {l:List Bool} {g:br} {i:Nat} (h:tf l i=true->¬BH l g i):fG l g (i+1)=fG l g i:=by
 apply List.ext_getElem
 ·simp[fG]
 ·intro j h1 h2
  simp only[fG,List.getElem_map,List.getElem_range]
  by_cases hj:j=i
  ·subst hj
   rw[if_pos (by omega),if_neg (by omega)]
   cases ht:tf l j with
   |false=>rfl
   |true=>rw[decide_eq_false (h ht)];rfl
  ·by_cases h3:j<i
   ·rw[if_pos (by omega),if_pos h3]
   ·rw[if_neg (by omega),if_neg h3]
open Classical in
theorem zl {l:List Bool} {g:br} {i:Nat} (hi:i<l.length) (h:BH l g i):fG l g (i+1)=(fG l g i).set i false:=by
 apply List.ext_getElem
 ·simp[fG]
 ·intro j h1 h2
  rw[List.getElem_set]
  simp only[fG,List.getElem_map,List.getElem_range]
  by_cases hj:i=j
  ·subst hj
   rw[if_pos (by omega),if_pos rfl,decide_eq_true h];simp
  ·rw[if_neg hj]
   by_cases h3:j<i
   ·rw[if_pos (by omega),if_pos h3]
   ·rw[if_neg (by omega),if_neg h3]
structure DY (l:List Bool) (g:br) (i k:Nat):Prop where
 v8:∀q,q<=k->tf l (iter g i q)=true
 not:∀q,1<=q->q<=k->iter g i q≠i
theorem pa {l:List Bool} {g:br} {i k:Nat} (h:DY l g i k) (hend:l.length<=k\/tf l (iter g i (k+1))=false):¬BH l g i:=by
 intro hr
 obtain⟨p,h1,h2,h3,h4⟩:=DD hr
 rcases hend with he|he
 ·exact h.not p h1 (by omega) h3
 ·by_cases hp:p<=k
  ·exact h.not p h1 hp h3
  ·by_cases hp2:p=k+1
   ·subst hp2
    rw[h3] at he
    have:=h.v8 0 (Nat.zero_le _)
    rw[show iter g i 0=i from rfl,he] at this;cases this
   ·rw[h4 (k+1) (by omega)] at he;cases he
set_option maxRecDepth 4000 in
set_option maxHeartbeats 8000000 in
theorem zm (g:br) (hg:g.Wf) (hw:Whole g) (t:Nat) (cls:List cF) (l:List Bool) (hlm:l.length=g.nodes.length) (hnx:∀j,tf l j=true->0<=(g.nd j).next/\(g.nd j).next<g.nodes.length) (b:Nat) (H:Hp) (nx:Nat) (d:AV) (hb:bk H b=some (.row 4 1 d (l.map bl))) (hbn:b<nx):
 cM Tryz.prog 45 [eG g t cls, .sl b g.nodes.length] H nx (fun r H2 n2=>∃b2 d2,r= .sl b2 g.nodes.length/\nx<=b2/\b2<n2/\bk H2 b2=some (.row 4 1 d2 ((dE l g).map bl))/\∀y,y<nx->bk H2 y=bk H y):=by
 have hl:=hg.len
 have hl0:=hw.1
 have hl1:=hw.2.1
 rw[<-hlm] at hl hl0 hl1 hnx ⊢
 refine aI GJ rfl ?_
 have hml:(l.map bl).length=l.length:=by simp
 repeat' (first|refine aQ ?_|exact aC|with_reducible refine aB ?_ ?_|(apply aA;(·exact bp))|refine aH ?_|((with_reducible refine aE ?_ ?_)<;>intro hc<;>try(exfalso;omega)))
 refine aJ (wC l (by omega) hl1 b _ _ 4 d bm cI) ?_
 rintro _ H1 n1 ⟨d1,rfl,hn1,r5,hk1⟩
 have hb1:bk H1 b=some (.row 4 1 d (l.map bl)):=(hk1 b cI).trans bm
 have hk2:∀y,y<nx->bk H1 y=bk H y:=fun y hy=>(hk1 y (Nat.lt_of_lt_of_le hy cI)).trans bw
 clear hk1
 repeat' (first|refine aQ ?_|exact cP|with_reducible refine aB ?_ ?_|((with_reducible refine Ask.mk ?_);first|exact bx|(exact hml)|exact bt)|(apply aA;(·exact bp))|refine aH ?_|((with_reducible refine aE ?_ ?_)<;>intro hc<;>try(exfalso;omega)))
 have hz:fG l g 0=l:=xk l g
 refine aF (fun i:Nat=>[(0,eG g t cls),(1, .sl b l.length),(5, .sl (nx+5) l.length),(12,i64 l.length),(13,i64 i)])
  (fun i H' n'=>i<=l.length/\n1<=n'/\(∃d,bk H' b=some (.row 4 1 d (l.map bl)))/\(∃d,bk H' (nx+5)=some (.row 4 1 d ((fG l g i).map bl)))/\∀y,y<nx->bk H' y=bk H y) (fun i=>l.length - i) 0 bu ⟨Nat.zero_le _,cI,⟨_,bm⟩,⟨_,by rw[hz];exact bm⟩,fun y hy=>Eq.trans bw (hk2 y hy)⟩ ?_
 clear r5 hb1 hk2 hb
 rintro i H2 n2 ⟨hi,hn2,⟨db,rb⟩,⟨d5,r5⟩,hk2⟩
 by_cases hil:i<l.length
 ·have el:=fun d=>gS (l:=l) (k:=i) hil d
  have hrl:((fG l g i).map bl).length=l.length:=by rw[List.length_map,oA]
  cases hti:tf l i with
  |false=>
   have hkp:=m9 (l:=l) (g:=g) (i:=i) (fun h=>by rw[hti] at h;cases h)
   rw[show l.getD i false=false from hti] at el
   repeat' (first|refine aQ ?_|exact cP|with_reducible refine aB ?_ ?_|((with_reducible refine Ask.mk ?_);first|exact bx|(exact hml)|exact bt)|(apply aA;(·(first|exact el _|exact bp)))|refine aH ?_|((with_reducible refine aE ?_ ?_)<;>intro hc<;>try(exfalso;omega)))
   exact⟨i+1,by omega,bu,by omega,by omega,⟨_,bm⟩,⟨_,by rw[hkp];exact bm⟩,fun y hy=>Eq.trans bw (hk2 y hy)⟩
  |true=>
   rw[show l.getD i false=true from hti] at el
   have en:=fun d=>eH (l:=g.nodes) (i:=i) (by rw[<-hlm];exact hil) d
   have hnl:(g.nodes.map Node.av).length=l.length:=by rw[List.length_map,hlm]
   repeat' (first|refine aQ ?_|exact cP|with_reducible refine aB ?_ ?_|((with_reducible refine Ask.mk ?_);first|exact bx|(exact hml)|(rw[hnl];omega)|exact bt|(intro h;simp_all[cB,Node.cells]<;>fail)|(simp_all[cB,Node.cells]<;>fail))|(apply aA;(·(first|exact el _|exact en _|exact bp)))|refine aH ?_|((with_reducible refine aE ?_ ?_)<;>intro hc<;>try(exfalso;omega)))
   refine aF (fun k:Nat=>[(0,eG g t cls),(1, .sl b l.length),(5, .sl (nx+5) l.length),(6,i64 i),(7,i64 (g.nd (iter g i k)).next),(8,i64 k),(12,i64 l.length),(13,i64 i)])
    (fun k H' n'=>k<=l.length/\n2<=n'/\DY l g i k/\(∃d,bk H' b=some (.row 4 1 d (l.map bl)))/\(∃d,bk H' (nx+5)=some (.row 4 1 d ((fG l g i).map bl)))/\∀y,y<nx->bk H' y=bk H y) (fun k=>l.length - k) 0 bu ⟨Nat.zero_le _,cI,⟨fun q hq=>by rw[show q=0 by omega];exact hti,fun q h1 h2=>by omega⟩,⟨_,bm⟩,⟨_,bm⟩,fun y hy=>Eq.trans bw (hk2 y hy)⟩ ?_
   clear rb r5 hk2
   rintro k H3 n3 ⟨hk,hn3,hra,⟨db,rb⟩,⟨d5,r5⟩,hk3⟩
   obtain⟨x0,x1⟩:=hnx _ (hra.v8 k (Nat.le_refl _))
   have hx1:(g.nd (iter g i k)).next.toNat<l.length:=by omega
   have ex:∀d,(l.map bl).getD ((g.nd (iter g i k)).next).toNat d=bl (tf l (iter g i (k+1))):=fun d=>dG bl l _ d hx1
   have em:∀d,(g.nodes.map Node.av).getD ((g.nd (iter g i k)).next).toNat d=(g.nd (iter g i (k+1))).av:=fun d=>dG Node.av g.nodes _ d (by rw[<-hlm];exact hx1)
   by_cases hkl:k<l.length
   ·have hkd:decide ((k:Int)<(l.length:Int))=true:=decide_eq_true (by omega)
    cases htk:tf l (iter g i (k+1)) with
    |false=>
     rw[htk] at ex
     have hkp:=m9 (l:=l) (g:=g) (i:=i) (fun _=>pa hra (.inr htk))
     repeat' (first|refine aQ ?_|exact cP|with_reducible refine aB ?_ ?_|((with_reducible refine Ask.mk ?_);first|exact bx|(exact hml)|exact bt|(intro h;simp_all[cB,Node.cells]<;>fail)|(simp_all[cB,Node.cells]<;>fail))|(apply aA;(·(first|exact ex _|exact bp)))|(simp only[hkd])|refine aH ?_|((with_reducible refine aE ?_ ?_)<;>intro hc<;>try(exfalso;omega)))
     exact⟨i+1,by omega,bu,by omega,by omega,⟨_,bm⟩,⟨_,by rw[hkp];exact bm⟩,fun y hy=>Eq.trans bw (hk3 y hy)⟩
    |true=>
     rw[htk] at ex
     by_cases hxi:(g.nd (iter g i k)).next=(i:Int)
     ·have hret:BH l g i:=⟨k+1,by omega,by show(g.nd (iter g i k)).next.toNat=i;omega,fun q hq=>hra.v8 q (by omega)⟩
      have hst:=zl hil hret
      have hsl:((fG l g i).map bl).set ((i:Nat):Int).toNat (bl false)=(fG l g (i+1)).map bl:=by rw[Int.toNat_natCast,hst,iK]
      have eo:=fun d=>gS (l:=fG l g i) (k:=i) (by rw[oA];exact hil) d
      repeat' (first|refine aQ ?_|exact cP|with_reducible refine aB ?_ ?_|((with_reducible refine Ask.mk ?_);first|exact bx|(exact hml)|(exact hrl)|exact bt|(intro h;simp_all[cB,Node.cells]<;>fail)|(simp_all[cB,Node.cells]<;>fail))|(apply aA;(·(first|exact ex _|exact el _|exact eo _|exact bp)))|(simp only[hkd])|(simp only[hxi])|refine aH ?_|((with_reducible refine aE ?_ ?_)<;>intro hc<;>try(exfalso;omega)))
      exact⟨i+1,by omega,bu,by omega,by omega,⟨_,bm⟩,⟨_,by rw[<-hsl];exact bm⟩,fun y hy=>Eq.trans bw (hk3 y hy)⟩
     ·repeat' (first|refine aQ ?_|exact cP|with_reducible refine aB ?_ ?_|((with_reducible refine Ask.mk ?_);first|exact bx|(exact hml)|(rw[hnl];omega)|exact bt|(intro h;simp_all[cB,Node.cells]<;>fail)|(simp_all[cB,Node.cells]<;>fail))|(apply aA;(·(first|exact ex _|exact em _|exact bp)))|(simp only[hkd])|refine aH ?_|((with_reducible refine aE ?_ ?_)<;>intro hc<;>try(exfalso;omega)))
      refine⟨k+1,by omega,bu,by omega,by omega,⟨fun q hq=> ?_,fun q h1 h2=> ?_⟩,⟨_,bm⟩,⟨_,bm⟩,fun y hy=>Eq.trans bw (hk3 y hy)⟩
      ·by_cases e:q=k+1
       ·rw[e];exact htk
       ·exact hra.v8 q (by omega)
      ·by_cases e:q=k+1
       ·rw[e];intro h
        apply hxi
        have h:(g.nd (iter g i k)).next.toNat=i:=h
        omega
       ·exact hra.not q h1 (by omega)
   ·have hkp:=m9 (l:=l) (g:=g) (i:=i) (fun _=>pa hra (.inl (by omega)))
    repeat' (first|refine aQ ?_|exact cP|with_reducible refine aB ?_ ?_|((with_reducible refine Ask.mk ?_);first|exact bx|(exact hml)|exact bt|(intro h;simp_all[cB,Node.cells]<;>fail)|(simp_all[cB,Node.cells]<;>fail))|(apply aA;(·(first|exact ex _|exact bp)))|refine aH ?_|((with_reducible refine aE ?_ ?_)<;>intro hc<;>try(exfalso;omega)))
    exact⟨i+1,by omega,bu,by omega,by omega,⟨_,bm⟩,⟨_,by rw[hkp];exact bm⟩,fun y hy=>Eq.trans bw (hk3 y hy)⟩
 ·have:i=l.length:=by omega
  subst this
  rw[zk] at r5
  repeat' (first|refine aQ ?_|exact aC|with_reducible refine aB ?_ ?_|(apply aA;(·exact bp))|refine aH ?_|((with_reducible refine aE ?_ ?_)<;>intro hc<;>try(exfalso;omega)))
  exact⟨⟨nx+5,d5,rfl,by omega,cI,bm,fun y hy=>Eq.trans bw (hk2 y hy)⟩⟩
theorem mz {u:bq} {g:br} (hk:dR u g) {cls:List cF} {t j:Nat} (h:tf (kS g cls t) j=true):0<=(g.nd j).next/\(g.nd j).next<g.nodes.length:=by
 have hj:j<g.nodes.length:=by have:=sg h;rw[kz] at this;exact this
 have hs:dJ g cls t j=true:=by simpa[tf,kS,df,List.getD,hj] using h
 have hno:=hk.node hj
 have hkk:(g.nd j).kind=1\/(g.nd j).kind=2\/(g.nd j).kind=3\/(g.nd j).kind=8:=by
  unfold dJ at hs
  dsimp only at hs
  rw[Bool.and_eq_true] at hs
  obtain⟨_,hs⟩:=hs
  split at hs
  ·omega
  ·split at hs
   ·omega
   ·split at hs
    ·omega
    ·split at hs
     ·omega
     ·cases hs
 exact hno.next.1 (by unfold eQ;exact decide_eq_true (by omega))
theorem uS (u:bq) (g:br) (hg:g.Wf) (hk:dR u g) (t:Nat) (cls:List cF) (hcl:cls.length=u.shared.length) (hcl64:cls.length<=64) (H:Hp) (nx:Nat):
 cM Tryz.prog 23 [eG g t cls] H nx (fun r H2 n2=>∃b2 d2,r= .sl b2 g.nodes.length/\nx<=b2/\b2<n2/\bk H2 b2=some (.row 4 1 d2 ((eR g cls t).map bl))/\∀y,y<nx->bk H2 y=bk H y):=
 DK u g hg hk t cls hcl hcl64 H nx fun b H' n' d hb hbn=>zm g hg hk.whole t cls (kS g cls t) (kz g cls t) (fun j hj=>mz hk hj) b H' n' d hb hbn
end
noncomputable def zE (u:bq) (t:Int) (l:List Bool):AV:=if k8 u=true then(if t<0\/(u.bo.length:Int)<=t then .dK [.im 1 .any [],i64 2] else .dK [fE l,i64 0]) else .dK [.im 1 .any [],i64 60]
theorem gm (u:bq):(ck u).length=u.shared.length:=by simp[ck]
theorem BA (u:bq) (hu:u.Wf) (t:Int):Pure Tryz.prog 7 [u.av,i64 t] (fun r=>r=zE u t (eR (u.gr t.toNat) (ck u) t.toNat)):=by
 unfold zE
 by_cases hr:cX u
 ·rw[if_pos (cR.2 hr)]
  by_cases ht:t<0\/(u.bo.length:Int)<=t
  ·rw[if_pos ht]
   have ha:=po u hu hr t ht
   refine mq ?_
   refine aG MN rfl ?_
   repeat' (first|refine aQ ?_|exact cP|with_reducible refine aB ?_ ?_|((with_reducible refine Ask.mk ?_);first|exact bx|exact bt|(intro h;simp_all[bq.cells]<;>fail)|(simp_all[bq.cells]<;>fail))|(apply aA;(·exact bp))|refine aK (ha) ?_|refine aH ?_|((with_reducible refine aE ?_ ?_)<;>intro hc<;>try(exfalso;omega)))
   exact rfl
  ·rw[if_neg ht]
   obtain⟨k,rfl⟩:∃k:Nat,t=k:=⟨t.toNat,by omega⟩
   rw[Int.toNat_natCast]
   have hk:k<u.bo.length:=by omega
   have ha:=mF u hu hr k hk
   have hgo:=hr.gr hk
   have hfew:=hr.wI
   have hcl:=gm u
   refine cV ?_ (by rw[cJ,cL,cL,cL];exact⟨by simp[fE,cJ,cK],by simp[cJ],trivial⟩)
   refine aI MN rfl ?_
   repeat' (first|refine aQ ?_|exact cP|with_reducible refine aB ?_ ?_|((with_reducible refine Ask.mk ?_);first|exact bx|exact bt|(intro h;simp_all[bq.cells]<;>fail)|(simp_all[bq.cells]<;>fail))|(apply aA;(·exact bp))|refine aK (ha) ?_|refine aH ?_|((with_reducible refine aE ?_ ?_)<;>intro hc<;>try(exfalso;omega)))
   refine aJ (uS u (u.gr k) (hu.bo _ (cE default hk)) hgo k (ck u) hcl (by omega) _ _) ?_
   rintro _ H2 n2 ⟨b,d,rfl,hb1,hb2,hb,_⟩
   repeat' (first|refine aQ ?_|exact aC|with_reducible refine aB ?_ ?_|(apply aA;(·exact bp))|refine aH ?_|((with_reducible refine aE ?_ ?_)<;>intro hc<;>try(exfalso;omega)))
   refine⟨mK.trans ?_⟩
   rw[pO 5 (by simp[cJ])]
   refine congrArg (fun z=>AV.dK [z,i64 0]) ((dM (e:=4) (sz:=1) (d:=d) (es:=(eR (u.gr k) (ck u) k).map bl) bm (by rw[List.length_map,mn])).trans ?_)
   rw[cf _ (jd _ _)]
   rfl
 ·rw[if_neg (mt cR.1 hr)]
  have ha:=ti u hu hr t
  refine mq ?_
  refine aG MN rfl ?_
  repeat' (first|refine aQ ?_|exact cP|with_reducible refine aB ?_ ?_|((with_reducible refine Ask.mk ?_);first|exact bx|exact bt|(intro h;simp_all[bq.cells]<;>fail)|(simp_all[bq.cells]<;>fail))|(apply aA;(·exact bp))|refine aK (ha) ?_|refine aH ?_|((with_reducible refine aE ?_ ?_)<;>intro hc<;>try(exfalso;omega)))
  exact rfl
abbrev o9 (E:List (Int×Int)):List AV:=lu (fun n:Int=>Value.int .i64 n) i64 E
theorem J5 (E:List (Int×Int)) (t:Int):q6 false (.int .i64 t) (o9 E) (i64 0)=some (i64 ((cd E t).getD 0),(cd E t).isSome):=(vN nj i64 t E (i64 0)).trans (by cases cd E t<;>rfl)
theorem MV (E:List (Int×Int)) (t v:Int):tG false (.int .i64 t) (o9 E) (i64 v)=some (o9 (gW E t v)):=vO nj i64 t v E
theorem NX (E:List (Int×Bool)) (t:Int):IE false (.int .i64 t) (lx E)=some (lx (kh E t)):=MP nj bl t E
structure nI (out:List Bool) (g:br) (E:List (Int×Bool)) (F:List (Int×Int)):Prop where
 nodup:(E.map Prod.fst).Nodup
 keys:∀k∈E.map Prod.fst,0<=k/\k<out.length
 yes:∀k,cd E k≠some false
 is:∀(i:Nat),i<out.length->cd E i=none->cd F i=some (dX out g i:Int)
 no:∀(i:Nat),i<out.length->cd E i≠none->cd F i=none
 AU:∀k,cd F k≠none->0<=k/\k<out.length
theorem xg {κ β:Type} [DecidableEq κ]:∀(E:List (κ×β)) (k:κ) (v:β),k∉E.map Prod.fst->gW E k v=E++[(k,v)]
 |[],k,v,_=>rfl
 |(a,b)::E,k,v,h=>by
  simp only[List.map_cons,List.mem_cons,not_or] at h
  rw[gW,if_neg h.1,xg E k v h.2];rfl
def jr (i:Nat):List (Int×Bool):=(List.range i).map fun(j:Nat)=>((j:Int),true)
theorem qI (i:Nat):(jr i).map Prod.fst=(List.range i).map fun(j:Nat)=>(j:Int):=by simp[jr,Function.comp_def]
theorem nr (i:Nat) (k:Int):k∈(jr i).map Prod.fst↔0<=k/\k<i:=by
 rw[qI,List.mem_map]
 constructor
 ·rintro⟨j,hj,rfl⟩;have:=List.mem_range.1 hj;omega
 ·intro h;exact⟨k.toNat,List.mem_range.2 (by omega),by omega⟩
theorem xc (i:Nat):gW (jr i) (i:Int) true=jr (i+1):=by
 rw[xg _ _ _ (fun h=>by have:=(nr i i).1 h;omega),jr,jr,List.range_succ,List.map_append];rfl
theorem xR {κ β:Type} [DecidableEq κ]:∀{E:List (κ×β)} {k:κ} {v:β},cd E k=some v->(k,v)∈E
 |(a,b)::E,k,v,h=>by
  rw[cd] at h
  split at h
  ·rename_i e;cases h;rw[e];simp
  ·exact List.mem_cons_of_mem _ (xR h)
theorem nI.start (out:List Bool) (g:br):nI out g (jr out.length) []:=by
 refine⟨?_,fun k hk=>(nr _ _).1 hk,fun k h=> ?_,fun i hi h=> ?_,fun i hi h=>rfl,fun k h=>absurd rfl h⟩
 ·rw[qI]
  exact List.pairwise_map.2 ((List.pairwise_lt_range (n:=out.length)).imp fun h e=>by omega)
 ·have:=xR h
  unfold jr at this
  simp at this
 ·exact absurd ((nr _ _).2 ⟨by omega,by omega⟩) ((kq _ _).1 h)
theorem nI.settle {out:List Bool} {g:br} {E:List (Int×Bool)} {F:List (Int×Int)} (h:nI out g E F) {i:Nat} (hi:i<out.length) (ho:cd E (i:Int)≠none):nI out g (kh E (i:Int)) (gW F (i:Int) (dX out g i:Int))/\(kh E (i:Int)).length+1=E.length:=by
 have hd:=wq E (i:Int) h.nodup
 refine⟨⟨hd.2,fun k hk=>h.keys k ((hd.1 k).1 hk).2,fun k hk=> ?_,fun j hj hl=> ?_,fun j hj hl=> ?_,fun k hk=> ?_⟩, ?_⟩
 ·rw[o6 _ _ _ h.nodup] at hk
  split at hk
  ·cases hk
  ·exact h.yes k hk
 ·rw[hC]
  by_cases e:(j:Int)=(i:Int)
  ·rw[if_pos e,show j=i by omega]
  ·rw[if_neg e]
   rw[o6 _ _ _ h.nodup,if_neg e] at hl
   exact h.is j hj hl
 ·rw[o6 _ _ _ h.nodup] at hl
  by_cases e:(j:Int)=(i:Int)
  ·rw[if_pos e] at hl;exact absurd rfl hl
  ·rw[if_neg e] at hl
   rw[hC,if_neg e]
   exact h.no j hj hl
 ·rw[hC] at hk
  split at hk
  ·rename_i e;rw[e];omega
  ·exact h.AU k hk
 ·have:=A0 E (i:Int)
  cases hl:cd E (i:Int) with
  |none=>exact absurd hl ho
  |some v=>rw[hl] at this;simpa using this
theorem nI.turns {out:List Bool} {g:br} {E:List (Int×Bool)} {F:List (Int×Int)} (h:nI out g E F) (he:Ends out g) (hne:E≠[]):¬∀(j:Nat),j<out.length->cd E (j:Int)≠none->tf out j=true/\cd E (hD g j:Int)≠none:=by
 intro hall
 obtain⟨p,hp⟩:=List.exists_mem_of_ne_nil _ hne
 have hpk:p.1∈E.map Prod.fst:=List.mem_map_of_mem hp
 have hk:=h.keys _ hpk
 obtain⟨i,hi⟩:∃i:Nat,p.1=i:=⟨p.1.toNat,by omega⟩
 obtain⟨k,h1,h2,h3⟩:=he i
 have hop:∀q,q<=k->cd E (iter g i q:Int)≠none/\iter g i q<out.length:=by
  intro q
  induction q with
  |zero=>
   intro _
   refine⟨?_, ?_⟩
   ·show cd E (i:Int)≠none
    rw[<-hi];exact fun e=>(kq _ _).1 e hpk
   ·show i<out.length
    omega
  |succ q ih=>
   intro hq
   obtain⟨a1,a2⟩:=ih (by omega)
   have hx:cd E (iter g i (q+1):Int)≠none:=(hall _ a2 a1).2
   refine⟨hx, ?_⟩
   have:(iter g i (q+1):Int)∈E.map Prod.fst:=Classical.byContradiction fun e=>hx ((kq _ _).2 e)
   have:=h.keys _ this
   omega
 have:=(hall _ (hop k (Nat.le_refl _)).2 (hop k (Nat.le_refl _)).1).1
 rw[h2] at this;cases this
set_option maxRecDepth 4000 in
set_option maxHeartbeats 8000000 in
theorem yp (g:br) (hg:g.Wf) (t:Nat) (cls:List cF) (out:List Bool) (hm:out.length=g.nodes.length) (hm4:out.length<=4096) (he:Ends out g) (hnx:∀j,tf out j=true->0<=(g.nd j).next/\(g.nd j).next<out.length) (b:Nat) (H:Hp) (nx:Nat) (d:AV) (hb:bk H b=some (.row 4 1 d (out.map bl))) (hbn:b<nx):
 cM Tryz.prog 54 [eG g t cls, .sl b out.length] H nx (fun r H2 n2=>∃mm d2 em F,r= .mp mm/\nx<=mm/\mm<n2/\bk H2 mm=some (.row em 0 d2 (mapA (o9 F)))/\(∀i:Nat,i<out.length->cd F (i:Int)=some (dX out g i:Int))/\∀y,y<nx->bk H2 y=bk H y):=by
 refine aI GS rfl ?_
 have hml:(out.map bl).length=out.length:=by simp
 have hnl:(g.nodes.map Node.av).length=out.length:=by rw[List.length_map,hm]
 repeat' (first|refine aQ ?_|exact cP|with_reducible refine aB ?_ ?_|((with_reducible refine Ask.mk ?_);first|exact bx|(exact hml)|exact bt)|(apply aA;(·exact bp))|refine aH ?_|((with_reducible refine aE ?_ ?_)<;>intro hc<;>try(exfalso;omega)))
 refine aF (fun i:Nat=>[(0,eG g t cls),(1, .sl b out.length),(5, .mp (nx+1)),(13,i64 out.length),(14,i64 i)])
  (fun i H' n'=>i<=out.length/\nx+6<=n'/\(∃d,bk H' b=some (.row 4 1 d (out.map bl)))/\(∃d,bk H' (nx+1)=some (.row 3 0 d (mapA (lx (jr i)))))/\∀y,y<nx->bk H' y=bk H y) (fun i=>out.length - i) 0 bu ⟨Nat.zero_le _,cI,⟨_,bm⟩,⟨_,bm⟩,fun y hy=>bw⟩ ?_
 clear hb
 rintro i H1 n1 ⟨hi,hn1,⟨db,rb⟩,⟨d1,r1⟩,hk1⟩
 by_cases hil:i<out.length
 ·have hnxt:=xc i
  repeat' (first|refine aQ ?_|exact cP|with_reducible refine aB ?_ ?_|((with_reducible refine Ask.mk ?_);first|exact bx|(exact hml)|exact bt)|(apply aA;(·exact bp))|(apply aD (g:=none);(·exact fun _=>m8 _ _ _))|refine aH ?_|((with_reducible refine aE ?_ ?_)<;>intro hc<;>try(exfalso;omega)))
  exact⟨i+1,by omega,bu,by omega,by omega,⟨_,bm⟩,⟨_,by rw[<-hnxt];exact bm⟩,fun y hy=>Eq.trans bw (hk1 y hy)⟩
 ·have:i=out.length:=by omega
  subst this
  repeat' (first|refine aQ ?_|exact aC|with_reducible refine aB ?_ ?_|(apply aA;(·exact bp))|refine aH ?_|((with_reducible refine aE ?_ ?_)<;>intro hc<;>try(exfalso;omega)))
  refine aF (fun s:List (Int×Bool)×List (Int×Int)=>[(0,eG g t cls),(1, .sl b out.length),(5, .mp (nx+1)),(7, .mp (n1+1))])
   (fun s H' n'=>n1+3<=n'/\(∃d,bk H' b=some (.row 4 1 d (out.map bl)))/\(∃d,bk H' (nx+1)=some (.row 3 0 d (mapA (lx s.1))))/\(∃d,bk H' (n1+1)=some (.row 3 0 d (mapA (o9 s.2))))/\nI out g s.1 s.2/\∀y,y<nx->bk H' y=bk H y) (fun s=>s.1.length) (jr out.length,[]) bu ⟨cI,⟨_,bm⟩,⟨_,bm⟩,⟨_,bm⟩,nI.start out g,fun y hy=>Eq.trans bw (hk1 y hy)⟩ ?_
  clear rb r1 hk1
  rintro⟨E,F⟩ H2 n2 ⟨hn2,⟨db,rb⟩,⟨d1,r1⟩,⟨d2,r2⟩,hop,hk2⟩
  dsimp only at r1 r2 hop ⊢
  have hEl:(lx E).length=E.length:=by simp[lu]
  by_cases hE:E=[]
  ·subst hE
   repeat' (first|refine aQ ?_|exact aC|with_reducible refine aB ?_ ?_|(apply aA;(·exact bp))|refine aH ?_|((with_reducible refine aE ?_ ?_)<;>intro hc<;>try(exfalso;omega)))
   exact⟨⟨n1+1,d2,_,F,rfl,by omega,cI,bm,fun i hi=>hop.is i hi rfl,fun y hy=>Eq.trans bw (hk2 y hy)⟩⟩
  ·have hE0:0<E.length:=List.length_pos_iff.2 hE
   repeat' (first|refine aQ ?_|exact cP|with_reducible refine aB ?_ ?_|((with_reducible refine Ask.mk ?_);first|exact bx|(exact hml)|(rw[hEl];omega)|exact bt)|(apply aA;(·exact bp))|(simp only[hEl])|refine aH ?_|((with_reducible refine aE ?_ ?_)<;>intro hc<;>try(exfalso;omega)))
   refine aF (fun s:(List (Int×Bool)×List (Int×Int))×Nat=>[(0,eG g t cls),(1, .sl b out.length),(5, .mp (nx+1)),(7, .mp (n1+1)),(25,i64 out.length),(26,i64 s.2)])
    (fun s H' n'=>s.2<=out.length/\n2<=n'/\(∃d,bk H' b=some (.row 4 1 d (out.map bl)))/\(∃d,bk H' (nx+1)=some (.row 3 0 d (mapA (lx s.1.1))))/\(∃d,bk H' (n1+1)=some (.row 3 0 d (mapA (o9 s.1.2))))/\nI out g s.1.1 s.1.2/\s.1.1.length<=E.length/\(s.1.1.length=E.length->s.1=(E,F)/\∀(j:Nat),j<s.2->cd E (j:Int)≠none->tf out j=true/\cd E (hD g j:Int)≠none)/\∀y,y<nx->bk H' y=bk H y) (fun s=>out.length - s.2) ((E,F),0) bu ⟨Nat.zero_le _,cI,⟨_,bm⟩,⟨_,bm⟩,⟨_,bm⟩,hop,Nat.le_refl _,fun _=>⟨rfl,fun j hj=>absurd hj (Nat.not_lt_zero _)⟩,fun y hy=>Eq.trans bw (hk2 y hy)⟩ ?_
   clear rb r1 r2 hk2
   rintro⟨⟨E2,F2⟩,i⟩ H3 n3 ⟨hi,hn3,⟨db,rb⟩,⟨d1,r1⟩,⟨d2,r2⟩,hop2,hle,hsame,hk3⟩
   dsimp only at hi r1 r2 hop2 hle hsame ⊢
   by_cases hil:i<out.length
   ·have eg:=nD E2 (i:Int)
    have el:=fun d=>gS (l:=out) (k:=i) hil d
    cases hlk:cd E2 (i:Int) with
    |none=>
     rw[hlk] at eg
     repeat' (first|refine aQ ?_|exact cP|with_reducible refine aB ?_ ?_|((with_reducible refine Ask.mk ?_);first|exact bx|(exact hml)|exact bt)|(apply aA;(·exact bp))|(apply aD (g:=none);(·exact fun _=>eg))|refine aH ?_|((with_reducible refine aE ?_ ?_)<;>intro hc<;>try(exfalso;omega)))
     refine⟨((E2,F2),i+1),by dsimp only;omega,bu,by dsimp only;omega,by omega,⟨_,bm⟩,⟨_,bm⟩,⟨_,bm⟩,hop2,hle,fun h=>⟨(hsame h).1,fun j hj ho=> ?_⟩,fun y hy=>Eq.trans bw (hk3 y hy)⟩
     by_cases e:j=i
     ·subst e
      have:=(hsame h).1
      cases this
      exact absurd hlk ho
     ·exact(hsame h).2 j (by dsimp only at hj;omega) ho
    |some v=>
     have hv:v=true:=by
      cases v with
      |true=>rfl
      |false=>exact absurd hlk (hop2.yes _)
     subst hv
     have hon:cd E2 (i:Int)≠none:=by rw[hlk];exact fun e=>by cases e
     obtain⟨hst,hsl⟩:=hop2.settle hil hon
     rw[hlk] at eg
     cases hto:tf out i with
     |false=>
      rw[show out.getD i false=false from hto] at el
      have hh:dX out g i=i:=pS hto
      rw[hh] at hst
      repeat' (first|refine aQ ?_|exact cP|with_reducible refine aB ?_ ?_|((with_reducible refine Ask.mk ?_);first|exact bx|(exact hml)|exact bt)|(apply aA;(·(first|exact el _|exact bp)))|(apply aD (g:=none);(·exact fun _=>eg))|(apply aD (g:=none);(·exact fun _=>MV _ _ _))|(apply aD (g:=none);(·exact fun _=>NX _ _))|refine aH ?_|((with_reducible refine aE ?_ ?_)<;>intro hc<;>try(exfalso;omega)))
      exact⟨((kh E2 (i:Int),gW F2 (i:Int) (i:Int)),i+1),by dsimp only;omega,bu,by dsimp only;omega,by omega,⟨_,bm⟩,⟨_,bm⟩,⟨_,bm⟩,hst,by dsimp only;omega,fun h=>by dsimp only at h;omega,fun y hy=>Eq.trans bw (hk3 y hy)⟩
     |true=>
      rw[show out.getD i false=true from hto] at el
      obtain⟨x0,x1⟩:=hnx i hto
      have hxn:(g.nd i).next=(hD g i:Int):=(Int.toNat_of_nonneg x0).symm
      have hxl:hD g i<out.length:=by show(g.nd i).next.toNat<out.length;omega
      have en:=fun d=>eH (l:=g.nodes) (i:=i) (by rw[<-hm];exact hil) d
      have eg2:=J5 F2 (g.nd i).next
      rw[hxn] at eg2
      have hho:=KB he hto
      cases hlf:cd F2 (hD g i:Int) with
      |none=>
       rw[hlf] at eg2
       rw[<-hxn] at eg2
       repeat' (first|refine aQ ?_|exact cP|with_reducible refine aB ?_ ?_|((with_reducible refine Ask.mk ?_);first|exact bx|(exact hml)|(rw[hnl];omega)|exact bt|(intro h;simp_all[cB,Node.cells]<;>fail)|(simp_all[cB,Node.cells]<;>fail))|(apply aA;(·(first|exact el _|exact en _|exact bp)))|(apply aD (g:=none);(·exact fun _=>eg))|(apply aD (g:=none);(·exact fun _=>eg2))|refine aH ?_|((with_reducible refine aE ?_ ?_)<;>intro hc<;>try(exfalso;omega)))
       refine⟨((E2,F2),i+1),by dsimp only;omega,bu,by dsimp only;omega,by omega,⟨_,bm⟩,⟨_,bm⟩,⟨_,bm⟩,hop2,hle,fun h=>⟨(hsame h).1,fun j hj ho=> ?_⟩,fun y hy=>Eq.trans bw (hk3 y hy)⟩
       by_cases e:j=i
       ·subst e
        have:=(hsame h).1
        cases this
        refine⟨hto,fun h2=> ?_⟩
        rw[hop2.is _ hxl h2] at hlf
        cases hlf
       ·exact(hsame h).2 j (by dsimp only at hj;omega) ho
      |some hv=>
       have hhv:hv=(dX out g (hD g i):Int):=by
        cases h2:cd E2 (hD g i:Int) with
        |none=>rw[hop2.is _ hxl h2] at hlf;cases hlf;rfl
        |some w=>rw[hop2.no _ hxl (by rw[h2];exact fun e=>by cases e)] at hlf;cases hlf
       rw[hlf] at eg2
       rw[<-hxn] at eg2
       subst hhv
       rw[<-hho] at eg2
       repeat' (first|refine aQ ?_|exact cP|with_reducible refine aB ?_ ?_|((with_reducible refine Ask.mk ?_);first|exact bx|(exact hml)|(rw[hnl];omega)|exact bt|(intro h;simp_all[cB,Node.cells]<;>fail)|(simp_all[cB,Node.cells]<;>fail))|(apply aA;(·(first|exact el _|exact en _|exact bp)))|(apply aD (g:=none);(·exact fun _=>eg))|(apply aD (g:=none);(·exact fun _=>eg2))|(apply aD (g:=none);(·exact fun _=>MV _ _ _))|(apply aD (g:=none);(·exact fun _=>NX _ _))|refine aH ?_|((with_reducible refine aE ?_ ?_)<;>intro hc<;>try(exfalso;omega)))
       exact⟨((kh E2 (i:Int),gW F2 (i:Int) (dX out g i:Int)),i+1),by dsimp only;omega,bu,by dsimp only;omega,by omega,⟨_,bm⟩,⟨_,bm⟩,⟨_,bm⟩,hst,by dsimp only;omega,fun h=>by dsimp only at h;omega,fun y hy=>Eq.trans bw (hk3 y hy)⟩
   ·have:i=out.length:=by omega
    subst this
    have hlt:E2.length<E.length:=by
     apply Nat.lt_of_le_of_ne hle
     intro h
     obtain⟨e,hall⟩:=hsame h
     exact hop.turns he hE hall
    repeat' (first|refine aQ ?_|exact aC|with_reducible refine aB ?_ ?_|(apply aA;(·exact bp))|refine aH ?_|((with_reducible refine aE ?_ ?_)<;>intro hc<;>try(exfalso;omega)))
    exact⟨(E2,F2),hlt,bu,by omega,⟨_,bm⟩,⟨_,bm⟩,⟨_,bm⟩,hop2,fun y hy=>Eq.trans bw (hk3 y hy)⟩
noncomputable def iz (g:br) (out:List Bool) (i:Nat):Bool:=iF (cj g (-1)) (i:Int)&& !tf out i&&decide (i≠dX out g 0)
noncomputable def eK (g:br) (out:List Bool) (m:Nat):List Nat:=dX out g 0::(List.range m).filter (iz g out)
theorem qK (g:br) (out:List Bool):eK g out g.nodes.length=ca g out:=rfl
theorem og (g:br) (out:List Bool) (m:Nat):eK g out (m+1)=if iz g out m=true then eK g out m++[m] else eK g out m:=by
 rw[eK,List.range_succ,List.filter_append]
 by_cases h:iz g out m=true
 ·rw[if_pos h];simp[eK,h]
 ·rw[if_neg h];simp[eK,h]
theorem nu {g:br} {out:List Bool} {m:Nat} (hh:dX out g 0<g.nodes.length) (hm:m<=g.nodes.length):∀x∈eK g out m,x<g.nodes.length:=by
 intro x hx
 rcases List.mem_cons.1 hx with rfl|hx
 ·exact hh
 ·have:=List.mem_range.1 (List.mem_filter.1 hx).1;omega
theorem jG (g:br) (out:List Bool) (m:Nat):(eK g out m).Nodup:=by
 rw[eK,List.nodup_cons]
 refine⟨fun h=> ?_,List.nodup_range.filter _⟩
 have:=(List.mem_filter.1 h).2
 unfold iz at this
 simp at this
theorem kO {g:br} {out:List Bool} {m:Nat} (hh:dX out g 0<g.nodes.length) (hm:m<=g.nodes.length):(eK g out m).length<=g.nodes.length:=by
 have:=jD (m:=List.range g.nodes.length) (jG g out m) fun x hx=>List.mem_range.2 (nu hh hm x hx)
 simpa using this
def qH (o:List Nat) (k:Nat):List (Int×Int):=(List.range k).foldl (fun E j=>gW E ((o.getD j 0:Nat):Int) (j:Int)) []
theorem sL (o:List Nat) (k:Nat):qH o (k+1)=gW (qH o k) ((o.getD k 0:Nat):Int) (k:Int):=by
 rw[qH,List.range_succ,List.foldl_append];rfl
theorem sK {o:List Nat} (hn:o.Nodup) (i:Nat):∀k,k<=o.length->cd (qH o k) (i:Int)=((o.take k).findIdx? (fun j=>decide (j=i))).map fun j=>(j:Int)
 |0,_=>by simp[qH,cd]
 |k+1,hk=>by
  have hkl:k<o.length:=by omega
  rw[sL,hC,sK hn i k (by omega),List.take_succ_eq_append_getElem hkl,List.findIdx?_append,gd hkl]
  have hni:o[k]∉o.take k:=by
   have h1:=hn
   rw[<-List.take_append_drop k o,List.nodup_append] at h1
   intro hm
   refine h1.2.2 _ hm (o[k]) ?_ rfl
   rw[List.drop_eq_getElem_cons hkl];exact List.mem_cons_self
  by_cases e:i=o[k]
  ·have hnone:(o.take k).findIdx? (fun j=>decide (j=i))=none:=by
    rw[List.findIdx?_eq_none_iff]
    intro x hx
    rw[decide_eq_false_iff_not]
    intro h;rw[h,e] at hx;exact hni hx
   rw[if_pos (by rw[e]),hnone]
   simp[List.findIdx?_cons,e,List.length_take,Nat.min_eq_left (Nat.le_of_lt hkl)]
  ·rw[if_neg (by omega)]
   have:[o[k]].findIdx? (fun j=>decide (j=i))=none:=by simp[List.findIdx?_cons,Ne.symm e]
   rw[this]
   simp
theorem C4 {o:List Nat} (hn:o.Nodup) (i:Nat):(cd (qH o o.length) (i:Int)).getD 0=(eC o i:Int):=by
 rw[sK hn i _ (Nat.le_refl _),List.take_length,eC]
 cases o.findIdx? (fun j=>decide (j=i))<;>rfl
end Go.Proofs.YtmonponfppdgfaaGreatDoor
