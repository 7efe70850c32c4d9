import Derived.Test.YtjopoheligmmoaaGreatDoorM45
import Derived.Test.YtjopoheligmmoaaGreatDoorM41
import Derived.Test.YtjopoheligmmoaaGreatDoorM46
import Derived.Test.YtjopoheligmmoaaGreatDoorM38
import Derived.Test.YtjopoheligmmoaaGreatDoorM33
import Derived.Test.YtjopoheligmmoaaGreatDoorM36
section
/- Ends as rows of the caller's own; what deletes from them. -/
namespace Go.cZ
open Go.RowKit
set_option linter.unusedSimpArgs false
set_option linter.unusedVariables false
theorem cG.rt {P:Program} {f:FuncId} {args:List AV} {H:Hp} {nx:Nat} {R R2:AV→Hp→Nat→Prop} (h:cG P f args H nx R) (hR:∀r H' n,R r H' n→∃fr2 H2 n2,Rt [(0,r)] H' n fr2 H2 n2∧R2 (cc fr2 0) H2 n2):cG P f args H nx R2:=by
 refine⟨h.1,fun w0 c vs a1 a2 a3 a4=>(h.2 w0 c vs a1 a2 a3 a4).mono ?_⟩
 rintro e w' ⟨v,r,H',nx',ρ,U,rfl,hRr,hU,hS,hle,hv⟩
 obtain⟨fr2,H2,n2,hw,hR2⟩:=hR r H' nx' hRr
 have hh:Holds w0 c.M0 ⟨ρ,bu H',U,w',c.M0⟩ nx' 1 [(0,r)] H' nx' ⟨#[v],[]⟩ w':=by
  refine⟨rfl,rfl,ρ,U,hU,hS,fun t=> ?_,⟨hU,Cx.le.refl _⟩⟩
  by_cases ht:t=0
  ·subst ht;exact hv
  ·have:cc [(0,r)] t= .any:=by simp[cc,ht]
   rw[this];exact dN.any _ _ _ _ (by rw[VR];trivial)
 obtain⟨_,_,ρ2,U2,k1,k2,k3,k4⟩:=hw _ _ _ _ _ _ _ hh
 exact⟨v,_,H2,n2,ρ2,U2,rfl,hR2,k1,k2,hle.trans k4.2,k3 0⟩
theorem cG.RJ {P:Program} {f:FuncId} {args:List AV} {e:TypeId} {sz:Nat} {es cs:List AV} (db:gC cs) (h:cG P f args [] 0 (fun r1 H1 _=>∃b d0,r1= .dK (.sl b es.length::cs)∧bu H1 b=some (.row e sz d0 es))) (hes:cX 0 es) (d:AV) {H:Hp} {id:Nat} (hfa:cX 0 args):
 kI P f args H id (fun r' H''=>r'= .dK (.sl id es.length::cs)∧H''=dC H (some (id, .row e sz d es))):=by
 refine⟨h.1,fun w0 c vs hS hH hid hv=> ?_⟩
 have hS0:dZ c.w ⟨fun _=>none,bu [],fun _=>False,c.w,c.M⟩:=⟨Below.refl _ _,hS.fit,fun b e sz d es he=>by simp[bu] at he,fun b b' k k' blk o z o' z' hk=>by simp[bu] at hk⟩
 have hv':cg ⟨fun _=>none,bu [],fun _=>False,c.w,c.M⟩ args vs:=cg.mT (fun _ h=>h) hfa hv
 refine(h.2 c.w _ vs hS0 rfl (fun _ h=>h.elim) hv').mono ?_
 rintro en w' ⟨v,r1,H1,nx',ρ,U,he,⟨b,d0,rfl,hb⟩,hU,hS',_,hvr⟩
 rw[VR] at hvr
 obtain⟨us,hus,hvr⟩:=hvr
 rw[cg] at hvr
 obtain⟨x,v3,hx3,hvr,hv3⟩:=hvr
 have fin:∀c2:Cx,VR c2 (.sl id es.length) x→VR c2 (.dK (.sl id es.length::cs)) v:=fun c2 h2=>by
  rw[VR]
  refine⟨us,hus, ?_⟩
  rw[hx3,cg]
  exact⟨x,v3,rfl,h2,mi db hv3⟩
 rw[VR] at hvr
 obtain⟨_,ad,cap,hvv,hrr⟩:=hvr
 obtain⟨_,hr2⟩:=hrr _ _ _ _ hb
 have hr3:=hr2 rfl
 obtain⟨_,hz,hor⟩:=hS'.j4 b _ _ _ _ hb (tN hr3)
 have hbel:=hS'.below
 obtain⟨s1,s2⟩:=hS.world hbel
 have hHeq:bu (dC H (some (id, .row e sz d es)))=ep c.H id (some (.row e sz d es)):=by rw[dU,hH]
 rcases hor with⟨h0,hes0⟩|⟨blk,o,z,hρ,hlow,⟨arr,harr,hsz⟩,hlz,hrow⟩
 ·subst hes0
  obtain⟨p1,p2⟩:=s1.KH (b:=id) (e:=e) (sz:=sz) d hz hid
  refine⟨v,_,_,ep c.ρ id none,he,⟨rfl,rfl⟩, ?_, ?_,fin _ ?_⟩
  ·rw[hHeq];exact p1
  ·rw[hHeq];exact s2.trans p2
  ·rw[hHeq,VR]
   refine⟨.inr rfl,ad,cap,hvv,fun e' sz' d' es' he'=> ?_⟩
   simp only[ic,dI,Option.some.injEq,eU.row.injEq] at he'
   obtain⟨rfl,rfl,rfl,rfl⟩:=he'
   refine⟨Nat.le_refl _,fun _=> .inl ⟨by simp[ic], ?_⟩⟩
   rcases hr3 with⟨_,h2,h3⟩|⟨blk,o,z,h2,_⟩
   ·exact⟨h2,h3⟩
   ·rw[h0] at h2;cases h2
 ·obtain⟨p1,p2⟩:=hS.pO (b:=id) (e:=e) (sz:=sz) d (es:=es) (w':=w') (blk:=blk) (o:=o) (z:=z) hz (.inl hid) (.inl hlow) hbel.os hbel.tape hbel.output hbel.size (fun k hk _=>hbel.block k hk) harr hsz hlz (fun hle i hi=>by
   obtain⟨y,x1,x2⟩:=dh hrow i hi
   refine⟨y,x1, ?_⟩
   refine VR.gD (n:=0) ?_ ?_ x2
   ·refine⟨fun b hb=>absurd hb (Nat.not_lt_zero _),fun q hq _=>⟨rfl,fun hm=>hq ?_⟩,fun b hb=>absurd hb (Nat.not_lt_zero _)⟩
    rcases hm with hm|⟨b',k',o',z',h1,h2⟩
    ·exact Or.inl (show c.M q from Or.inl hm)
    ·dsimp only at h1 h2
     by_cases e:b'=id
     ·subst e
      rw[dI] at h2
      cases h2
      exact Or.inr ⟨b,_,_,_,hb,hρ⟩
     ·simp only[ep,if_neg e] at h1 h2
      exact Or.inl (show c.M q from Or.inr ⟨b',k',o',z',h1,h2⟩)
   ·have hx4:es.getD i .any=es[i]:=by simp[List.getD,hi]
    rw[hx4]
    exact og hes _ (List.getElem_mem hi))
  refine⟨v,_,_,ep c.ρ id (some (blk,o,z)),he,⟨rfl,rfl⟩, ?_, ?_,fin _ ?_⟩
  ·rw[hHeq];exact p1
  ·rw[hHeq];exact p2
  ·rw[hHeq,VR]
   refine⟨.inr rfl,ad,cap,hvv,fun e' sz' d' es' he'=> ?_⟩
   simp only[ic,dI,Option.some.injEq,eU.row.injEq] at he'
   obtain⟨rfl,rfl,rfl,rfl⟩:=he'
   refine⟨by omega,fun _=> .inr ⟨blk,o,z,by simp[ic], ?_⟩⟩
   rcases hr3 with⟨h2,_,_⟩|⟨blk',o',z',h2,h3,h4,h5,h6⟩
   ·rw[hρ] at h2;cases h2
   ·rw[hρ] at h2;cases h2
    exact⟨h3,h4,h5,h6⟩
theorem cG.sW {P:Program} {f:FuncId} {args:List AV} {e:TypeId} {sz:Nat} {es cs:List AV} (db:gC cs) (h:cG P f args [] 0 (fun r1 H1 _=>∃b d0,r1= .dK (.sl b es.length::cs)∧bu H1 b=some (.row e sz d0 es))) (hes:cX 0 es) (hfa:cX 0 args) {H:Hp} {nx:Nat}:
 cG P f args H nx (fun r H' n=>r= .dK (.sl nx es.length::cs)∧H'=(nx,some (.row e sz .any es))::H∧n=nx+1):=
 (kI.XQ (h.RJ db hes .any hfa)).mono fun r H' n ⟨⟨h1,h2⟩,h3⟩=>⟨h1,h2,h3⟩
end Go.cZ
namespace Go.Proofs.YtjopoheligmmoaaGreatDoor
open Go Go.cZ Go.Proofs
set_option linter.unusedSimpArgs false
set_option linter.unusedVariables false
set_option maxRecDepth 8000
set_option maxHeartbeats 4000000 in
theorem xj (o:Nat) (l:List cn) (hl:l.length≤65536) (hok:∀e∈l,e.cP.length<9223372036854775807∧e.mem.length<9223372036854775807) (H:Hp) (nx:Nat) (ho:o<nx) (hr:∃d,bu H o=some (.row 105 3 d (l.map cn.av))):
 cG Tryz.prog 97 [.sl o l.length, .fn (.func 98) [] []] H nx (fun r H' n=>nx≤n∧(∀y,y<nx→y≠o→bu H' y=bu H y)∧(r= .sl o l.length∧(lE l l.length).length=l.length∧(∃d,bu H' o=some (.row 105 3 d ((lE l l.length).map cn.av)))∨∃es:List AV,r= .sv o l.length 0 (lE l l.length).length∧es.length=l.length∧(lE l l.length).length≤l.length∧es.take (lE l l.length).length=(lE l l.length).map cn.av∧∃d,bu H' o=some (.row 105 3 d es))):=by
 obtain⟨d0,r0'⟩:=hr
 have a0:(l.map cn.av).length=l.length:=by simp
 have same:∀i j,i<l.length→j<l.length→Pure Tryz.prog 98 [(l.getD i default).av,(l.getD j default).av] (fun r=>r=bl (decide (l.getD i default=l.getD j default))):=fun i j hi hj=>by
  obtain⟨p1,p2⟩:=hok _ (cR default hi)
  have:=oH (l.getD i default) (l.getD j default) p1 p2
  simpa only[pq] using this
 refine aM JW rfl ?_
 by_cases h2:l.length<2
 ·refine cV ?_
  have:lE l l.length=l:=by
   match l,h2 with
   |[],_=>rfl
   |[x],_=>rfl
  rw[this]
  exact⟨⟨ca,fun y y1 y2=>cD, .inl ⟨rfl,rfl,d0,bw⟩⟩⟩
 ·refine cV ?_
  refine aN (fun i:Nat=>[(0, .sl o l.length),(1, .fn (.func 98) [] []),(5,i64 i)]) (fun i H2 n=>1≤i∧i≤l.length∧nx≤n∧bu H2 o=some (.row 105 3 d0 (l.map cn.av))∧lE l i=l.take i∧∀y,y<nx→y≠o→bu H2 y=bu H y) (fun i=>l.length - i) 1 cK ⟨Nat.le_refl _,by omega,ca,bw,by rw[lE];cases l with|nil=>simp at h2|cons x t=>rfl,fun y y1 y2=>cD⟩ ?_
  clear r0'
  rintro i H2 n ⟨hi1,hi,hn,r0',hdd,hkp⟩
  by_cases hil:i<l.length
  ·have e0:∀d,(l.map cn.av).getD ((i:Int)).toNat d=(l.getD i default).av:=fun d=>by rw[Int.toNat_natCast];exact gl hil d
   have e1:∀d,(l.map cn.av).getD ((i:Int) - 1).toNat d=(l.getD (i - 1) default).av:=fun d=>by rw[show((i:Int) - 1).toNat=i - 1 by omega];exact gl (by omega) d
   have c0:=same i (i - 1) hil (by omega)
   have hsu:=od l hi1
   by_cases he:l.getD i default=l.getD (i - 1) default
   ·rw[decide_eq_true he] at c0
    rw[if_pos he] at hsu
    refine cV ?_
    refine aN (fun σ:Nat×Nat×List cn=>[(0, .sl o l.length),(1, .fn (.func 98) [] []),(5,i64 σ.1),(6, .sv o l.length i (l.length - i)),(7,i64 σ.2.1)])
     (fun σ H2 n=>1≤σ.2.1∧i+σ.2.1≤l.length∧i≤σ.1∧σ.1+1≤i+σ.2.1∧σ.2.2.length=l.length∧(∀q,σ.1≤q→σ.2.2.getD q default=l.getD q default)∧σ.2.2.take σ.1=lE l (i+σ.2.1)∧nx≤n∧(∃d,bu H2 o=some (.row 105 3 d (σ.2.2.map cn.av)))∧∀y,y<nx→y≠o→bu H2 y=bu H y) (fun σ=>l.length - σ.2.1) (i,1,l) cK
     ⟨Nat.le_refl _,by show i+1≤l.length;omega,Nat.le_refl _,Nat.le_refl _,rfl,fun _ _=>rfl,by dsimp only;rw[hsu,hdd],ca,⟨_,bw⟩,fun y y1 y2=>Eq.trans cD (hkp y y1 y2)⟩ ?_
    clear c0 e0 e1 hsu hdd r0' hn hkp
    rintro⟨k,j,es⟩ H3 n ⟨hj1,hj,hik,hkj,hel,hsame,hdd,hn,⟨d1,r1'⟩,hkp⟩
    dsimp only at hj1 hj hik hkj hel hsame hdd r1' ⊢
    have a1:(es.map cn.av).length=l.length:=by simp[hel]
    by_cases hjl:j<l.length - i
    ·have e0:∀d,(es.map cn.av).getD (i+((j:Int)).toNat) d=(l.getD (i+j) default).av:=fun d=>by rw[Int.toNat_natCast,gl (by omega) d,hsame _ (by omega)]
     have e1:∀d,(es.map cn.av).getD (i+((j:Int) - 1).toNat) d=(l.getD (i+j - 1) default).av:=fun d=>by rw[show i+((j:Int) - 1).toNat=i+j - 1 by omega,gl (by omega) d,hsame _ (by omega)]
     have e2:∀d,(es.map cn.av).getD ((k:Int)).toNat d=(es.getD k default).av:=fun d=>by rw[Int.toNat_natCast];exact gl (by omega) d
     have c0:=same (i+j) (i+j - 1) (by omega) (by omega)
     have hsu:=od l (k:=i+j) (by omega)
     by_cases he2:l.getD (i+j) default=l.getD (i+j - 1) default
     ·rw[decide_eq_true he2] at c0
      rw[if_pos he2] at hsu
      refine cV ?_
      exact⟨(k,j+1,es),by dsimp only;omega,cK,by dsimp only;omega,by dsimp only;omega,hik,by dsimp only;omega,hel,hsame,by dsimp only;rw[←Nat.add_assoc,hsu];exact hdd,ca,⟨d1,bw⟩,fun y y1 y2=>Eq.trans cD (hkp y y1 y2)⟩
     ·rw[decide_eq_false he2] at c0
      rw[if_neg he2] at hsu
      refine cV ?_
      refine⟨(k+1,j+1,es.set k (l.getD (i+j) default)),by dsimp only;omega,cK,by dsimp only;omega,by dsimp only;omega,by dsimp only;omega,by dsimp only;omega,by simp[hel],fun q hq=> ?_, ?_,ca,⟨d1,by dsimp only;rw[List.map_set];exact bw⟩,fun y y1 y2=>Eq.trans cD (hkp y y1 y2)⟩
      ·have hq:k+1≤q:=hq
       dsimp only
       rw[getD_set_ne (by omega)];exact hsame q (by omega)
      ·dsimp only
       rw[←Nat.add_assoc,hsu,kG (by omega),hdd]
    ·obtain rfl:j=l.length - i:=by omega
     rw[show i+(l.length - i)=l.length by omega] at hdd
     refine cV ?_
     rw[Int.toNat_natCast]
     have hkl:k≤l.length:=by omega
     have hkd:(lE l l.length).length=k:=by rw[←hdd,List.length_take,hel];omega
     generalize hZ:List.replicate (l.length - k) (gM true [Value.slice none 0 0,Value.slice none 0 0,Value.bool false])=Z
     have hZl:Z.length=l.length - k:=by rw[←hZ];simp
     rw[hkd]
     refine⟨⟨ca,fun y y1 y2=>Eq.trans cD (hkp y y1 y2), .inr ⟨(es.map cn.av).take k++Z++(es.map cn.av).drop (k+(l.length - k)),rfl, ?_,hkl, ?_,d1,bw⟩⟩⟩
     ·simp[hZl,hel];omega
     ·rw[List.append_assoc,List.take_append_of_le_length (by simp;omega),List.take_take,Nat.min_self,←List.map_take,hdd]
   ·rw[decide_eq_false he] at c0
    rw[if_neg he] at hsu
    refine cV ?_
    refine⟨i+1,by omega,cK,by omega,by omega,ca,bw, ?_,fun y y1 y2=>Eq.trans cD (hkp y y1 y2)⟩
    rw[hsu,hdd,List.take_succ_eq_append_getElem hil,show l.getD i default=l[i] by simp[List.getD,hil]]
  ·obtain rfl:i=l.length:=by omega
   rw[List.take_length] at hdd
   refine cV ?_
   rw[hdd]
   exact⟨⟨ca,fun y y1 y2=>Eq.trans cD (hkp y y1 y2), .inl ⟨rfl,rfl,d0,bw⟩⟩⟩
theorem tn (o:Nat) (l:List cn) (hl:l.length≤65536) (hok:∀e∈l,e.cP.length<9223372036854775807∧e.mem.length<9223372036854775807) (H:Hp) (nx:Nat) (ho:o<nx) (hr:∃d,bu H o=some (.row 105 3 d (l.map cn.av))):
 cG Tryz.prog 97 [.sl o l.length, .fn (.func 98) [] []] H nx (fun r H' n=>∃b,r= .sl b (lE l l.length).length∧(b=o∨nx≤b)∧b<n∧nx≤n∧(∃d,bu H' b=some (.row 105 3 d ((lE l l.length).map cn.av)))∧∀y,y<nx→y≠o→bu H' y=bu H y):=by
 refine(xj o l hl hok H nx ho hr).rt ?_
 rintro r H' n ⟨hn,hk,⟨rfl,h1,h2⟩|⟨es,rfl,h1,h2,h3,d,h4⟩⟩
 ·exact⟨_,H',n,Rt.refl _ _ _,o,by rw[h1];rfl, .inl rfl,by omega,hn,h2,hk⟩
 ·refine⟨_,_,n+1,Rt.part 0 rfl h4 h1 (by omega),n,rfl, .inr hn,by omega,by omega,⟨.any, ?_⟩,fun y y1 y2=> ?_⟩
  ·rw[List.drop_zero,h3];exact cq _ _ _
  ·exact(c8 (by omega)).trans ((c8 y2).trans (hk y y1 y2))
set_option maxHeartbeats 2000000 in
theorem IM (u:bx) (hu:u.Wf) (most:Int) (h0:(eI u most).1=0):cG Tryz.prog 54 [u.av,i64 most] [] 0 (fun r H n=>∃b d,r= .dK [.sl b (gz u (eI u most).2).length,i64 0]∧bu H b=some (.row 105 3 d ((gz u (eI u most).2).map cn.av))):=by
 refine aM JS rfl ?_
 by_cases hr:cT u
 ·by_cases hm:1≤most∧most≤65536
  ·rw[oV hr hm] at h0 ⊢
   refine cV ?_
   let l:=(gZ u most.toNat).getD []
   let I:Nat→Hp→Prop:=fun k H=>(∃d,bu H 0=some (.row 25 3 d [u.av]))∧(∃d,bu H 3=some (.row 41 1 d [.sl 7 (dS u l k).length]))∧(∃d,bu H 7=some (.row 105 3 d ((dS u l k).map cn.av)))
   refine aL (R:=fun r H n=>8≤n∧xH u most I r H) (L7 (b:=3) 105 3 (by omega) (by omega) (d:=gM false [.slice none 0 0]) (te:=41) ?_ fun H2 q1 q2 q3=> ?_) ?_
   ·exact bw
   ·refine(rh u hu hr most hm _ [.pt 0 1 0 0, .pt 3 1 0 0] H2 8 I ?_ ?_ ?_).mono fun r H n h=>⟨h.1,h.short⟩
    ·exact⟨⟨_,(q3 0 (by omega) (by omega)).trans bw⟩,⟨_,q1⟩,⟨_,q2⟩⟩
    ·rintro k H H' ⟨⟨d0,p0⟩,⟨d1,p1⟩,⟨d2,p2⟩⟩ hk
     exact⟨⟨d0,(hk 0 (by omega)).trans p0⟩,⟨d1,(hk 3 (by omega)).trans p1⟩,⟨d2,(hk 7 (by omega)).trans p2⟩⟩
    ·intro l' hl' k H n hk hn ⟨p0,p1,p2⟩
     have hll:l=l':=by show(gZ u most.toNat).getD []=l';rw[hl'];rfl
     rw[hll] at p1 p2
     obtain⟨hf,hlm,_⟩:=lC hu hr (by omega) hl'
     refine(E4 hr hf (by omega) hk (ub:=0) (ob:=3) (o:=7) (by omega) (by omega) (by omega) (by omega) p0 p1 p2).mono ?_
     rintro _ H' n' ⟨s1,s2,s3,s4⟩
     obtain⟨d0,p0⟩:=p0
     refine⟨⟨⟨d0,(s4 0 (by omega) (by omega) (by omega)).trans p0⟩, ?_, ?_⟩,s3,fun y y1 y2=>s4 y y2 (by omega) (by omega)⟩
     ·rw[hll];exact s1
     ·rw[hll];exact s2
   rintro r H' n' ⟨hn,hA⟩
   revert hA
   unfold xH
   cases hs:gZ u most.toNat with
   |none=>rw[hs] at h0;cases h0
   |some l'=>
    rintro⟨rfl,⟨d0,p0⟩,⟨d1,p1⟩,p2⟩
    have hll:l=l':=by show(gZ u most.toNat).getD []=l';rw[hs];rfl
    rw[hll] at p1 p2
    obtain⟨hf,hlm,_⟩:=lC hu hr (by omega) hs
    have hin:=u0 hr hf (by omega) l'.length
    have hlen:=lH u l' l'.length
    refine cV ?_
    refine aL (vR 7 (dS u l' l'.length) hin (by omega) _ _ p2 ca) ?_
    rintro r H3 n3 ⟨⟨d5,r5⟩,hn3,hk3⟩
    have r6:=(hk3 3 ca (by omega)).trans p1
    have hsl:(ff fw (dS u l' l'.length)).length=(dS u l' l'.length).length:=nJ _ _
    refine cV ?_
    rw[←hsl]
    refine aL (tn 7 (ff fw (dS u l' l'.length)) (by omega) (fun e he=>hin e ((lS _ _).mem_iff.1 he)) _ _ ca ⟨d5,r5⟩) ?_
    rintro r H4 n4 ⟨b,rfl,hb,hbn,hn4,⟨d6,r6⟩,hk4⟩
    refine cV ?_
    dsimp only
    have hE:gz u l'=lE (ff fw (dS u l' l'.length)) (ff fw (dS u l' l'.length)).length:=by rw[hsl];rfl
    rw[hE]
    exact⟨⟨b,d6,rfl,bw⟩⟩
  ·rw[lB hr hm] at h0;cases h0
 ·rw[oU hr] at h0;cases h0
def tv (f:cn→Bool):List cn→Nat→Int
 |[],_=>-1
 |e::l,k=>if f e=true then k else tv f l (k+1)
theorem sf (f:cn→Bool):∀(l:List cn) (k:Nat),tv f l k=-1∧(∀x∈l,f x=false)∨∃i:Nat,tv f l k=(k+i:Nat)∧i<l.length∧(∀x∈l.take i,f x=false)∧f (l.getD i default)=true
 |[],k=> .inl ⟨rfl,fun x hx=>by cases hx⟩
 |e::l,k=>by
  rw[tv]
  split
  ·rename_i h
   exact .inr ⟨0,rfl,by simp,by simp,h⟩
  ·rename_i h
   simp only[Bool.not_eq_true] at h
   rcases sf f l (k+1) with⟨h1,h2⟩|⟨i,h1,h2,h3,h4⟩
   ·refine .inl ⟨h1,fun x hx=> ?_⟩
    rcases List.mem_cons.1 hx with rfl|hx
    ·exact h
    ·exact h2 x hx
   ·refine .inr ⟨i+1,by rw[h1];congr 1;omega,by simpa using h2,fun x hx=> ?_,h4⟩
    rw[List.take_succ_cons] at hx
    rcases List.mem_cons.1 hx with rfl|hx
    ·exact h
    ·exact h3 x hx
theorem JH (f:cn→Bool) {l:List cn} {i:Nat} (h:i<l.length) (k:Nat):tv f (l.drop i) k=if f (l.getD i default)=true then(k:Int) else tv f (l.drop (i+1)) (k+1):=by
 rw[List.drop_eq_getElem_cons h,tv,show l.getD i default=l[i] by simp[List.getD,h]]
theorem pX (e:cn):Pure Tryz.prog 56 [e.av] (fun r=>r=bl e.ended):=by
 refine aJ OF rfl ?_
 refine cV ?_
 first|exact rfl|trivial
theorem yR (l:List cn) (hl:l.length≤65536):Pure Tryz.prog 99 [iY l, .fn (.func 56) [] []] (fun r=>r=i64 (tv cn.ended l 0)):=by
 refine aJ OY rfl ?_
 refine cV ?_
 rw[List.length_map]
 refine aN (fun i:Nat=>[(0,iY l),(1, .fn (.func 56) [] []),(7,i64 l.length),(8,i64 i)])
  (fun i H2 n=>i≤l.length∧tv cn.ended (l.drop i) i=tv cn.ended l 0) (fun i=>l.length - i) 0
  cK ⟨Nat.zero_le _,rfl⟩ ?_
 rintro i H2 n ⟨hi,hix⟩
 have a0:(l.map cn.av).length=l.length:=List.length_map _
 by_cases hil:i<l.length
 ·have e0:∀d,(l.map cn.av).getD ((i:Int)).toNat d=(l.getD i default).av:=fun d=>by rw[Int.toNat_natCast];exact gl hil d
  rw[JH _ hil] at hix
  have c0:=pX (l.getD i default)
  generalize l.getD i default=x at *
  cases hx:x.ended with
  |true=>
   rw[hx] at c0
   rw[if_pos hx] at hix
   rw[←hix]
   refine cV ?_
   first|exact rfl|trivial
  |false=>
   rw[hx] at c0
   rw[if_neg (by rw[hx];simp)] at hix
   refine cV ?_
   exact⟨i+1,by omega,cK,by omega,hix⟩
 ·obtain rfl:i=l.length:=by omega
  rw[List.drop_length] at hix
  rw[←hix]
  refine cV ?_
  first|exact rfl|trivial
end Go.Proofs.YtjopoheligmmoaaGreatDoor
end
section
/- Stuck: the walk. -/
namespace Go.Proofs.YtjopoheligmmoaaGreatDoor
open Go Go.cZ Go.Proofs
set_option linter.unusedSimpArgs false
set_option linter.unusedVariables false
set_option maxRecDepth 8000
def mH (l:List cn):List cn:=l.filter fun e=> !e.ended
abbrev UL:AV:= .fn (.func 56) [] []
theorem B2:Pure Tryz.prog 55 [.sc (.slice none 0 0),UL] (fun r=>r= .sc (.slice none 0 0)):=by
 have c0:Pure Tryz.prog 99 [.sc (.slice none 0 0),UL] (fun r=>r=i64 (-1)):=
  Pure.args (yR [] (by decide)) fun c=> .cons (cZ.dN.kb c c 3 .any) (.cons (fun _ h=>h) .nil)
 refine aJ JT rfl ?_
 refine cV ?_
 first|exact rfl|trivial
theorem K2 {H:Hp} {b:Nat} {d:AV} {l:List cn} (h:bu H b=some (.row 105 3 d (l.map cn.av))):[AV.sl b l.length,UL].map (cZ.dV H 6)=[iY l,UL]:=by
 show[cZ.dV H 6 (.sl b l.length),cZ.dV H 6 UL]=_
 rw[dc (k:=5) h (by simp),cy _ (gm l),du _ (show cI 0 UL by simp[cI,cX])]
set_option maxHeartbeats 4000000 in
theorem xm {l:List cn} (hl:l.length≤65536) {b:Nat} {H:Hp} {nx:Nat} (hb:∃d,bu H b=some (.row 105 3 d (l.map cn.av))) (hlt:b<nx):
 cG Tryz.prog 55 [.sl b l.length,UL] H nx (fun r H' n=>cZ.dV H' 5 r=iY (mH l)∧∃b m,r= .sl b m∨∃q,r= .sv b m 0 q):=by
 obtain⟨d0,r0'⟩:=hb
 have a0:(l.map cn.av).length=l.length:=List.length_map _
 have db:=sf cn.ended l 0
 refine aM JT rfl ?_
 refine cV ?_
 refine aT (yR l hl) (K2 (d:=d0) bw) (by simp only[cX,cI];exact⟨gm l,⟨trivial,trivial⟩,trivial⟩) (by simp[fc]) ?_
 rcases db with⟨h1,h2⟩|⟨i,h1,hil,h2,h3⟩
 ·rw[h1]
  refine cV ?_
  refine⟨?_,_,_, .inl rfl⟩
  have:mH l=l:=by
   unfold mH
   rw[List.filter_eq_self]
   intro e he
   rw[h2 e he];rfl
  rw[this]
  show cZ.dV _ 5 (.sl b l.length)=_
  rw[dc (k:=4) bw a0,cy _ (gm l)]
 ·rw[h1,Nat.zero_add]
  have hst:(l.take (i+1)).filter (fun e=> !e.ended)=l.take i:=by
   rw[List.take_succ_eq_append_getElem hil,List.filter_append]
   have e1:(l.take i).filter (fun e=> !e.ended)=l.take i:=by
    rw[List.filter_eq_self]
    intro e he
    rw[h2 e he];rfl
   have e2:l[i]=l.getD i default:=by simp[List.getD,hil]
   rw[e1,e2,List.filter_cons,h3]
   simp
  refine cV ?_
  refine aN (fun σ:Nat×Nat×List cn=>[(0, .sl b l.length),(1,UL),(5,i64 σ.1),(6,i64 σ.2.1)])
   (fun σ H2 n=>σ.1+1≤σ.2.1∧σ.2.1≤l.length∧σ.2.2.length=l.length∧(∀q,σ.2.1≤q→σ.2.2.getD q default=l.getD q default)∧σ.2.2.take σ.1=(l.take σ.2.1).filter (fun e=> !e.ended)∧nx≤n∧(∃d,bu H2 b=some (.row 105 3 d (σ.2.2.map cn.av)))) (fun σ=>l.length - σ.2.1) (i,i+1,l)
   cK ⟨Nat.le_refl _,by show i+1≤l.length;omega,rfl,fun _ _=>rfl,hst.symm,ca,⟨_,bw⟩⟩ ?_
  clear r0' hst h1 h2 h3
  rintro⟨k,j,es⟩ H3 n ⟨hkj,hj,hel,hsame,hdd,hn,⟨d0,r0'⟩⟩
  dsimp only at hkj hj hel hsame hdd r0' ⊢
  have a1:(es.map cn.av).length=l.length:=by simp[hel]
  by_cases hjl:j<l.length
  ·have e0:∀d,(es.map cn.av).getD ((j:Int)).toNat d=(l.getD j default).av:=fun d=>by rw[Int.toNat_natCast,gl (by omega) d,hsame _ (by omega)]
   have e2:∀d,(es.map cn.av).getD ((k:Int)).toNat d=(es.getD k default).av:=fun d=>by rw[Int.toNat_natCast];exact gl (by omega) d
   have hnx:(l.take (j+1)).filter (fun e=> !e.ended)=(l.take j).filter (fun e=> !e.ended)++(if(l.getD j default).ended=true then[] else[l.getD j default]):=by
    rw[List.take_succ_eq_append_getElem hjl,List.filter_append,show l.getD j default=l[j] by simp[List.getD,hjl]]
    congr 1
    rw[List.filter_cons]
    cases l[j].ended<;>rfl
   have c0:=pX (l.getD j default)
   generalize l.getD j default=x at *
   cases hx:x.ended with
   |true=>
    rw[hx] at c0
    rw[if_pos hx,List.append_nil] at hnx
    refine cV ?_
    exact⟨(k,j+1,es),by dsimp only;omega,cK,by dsimp only;omega,by dsimp only;omega,hel,fun q hq=>hsame q (by dsimp only at hq;omega),by dsimp only;rw[hnx];exact hdd,ca,⟨d0,bw⟩⟩
   |false=>
    rw[hx] at c0
    rw[if_neg (by rw[hx];simp)] at hnx
    refine cV ?_
    refine⟨(k+1,j+1,es.set k x),by dsimp only;omega,cK,by dsimp only;omega,by dsimp only;omega,by simp[hel],fun q hq=> ?_, ?_,ca,⟨d0,by dsimp only;rw[List.map_set];exact bw⟩⟩
    ·have hq:j+1≤q:=hq
     dsimp only
     rw[getD_set_ne (by omega)];exact hsame q (by omega)
    ·dsimp only
     rw[hnx,kG (by omega),hdd]
  ·obtain rfl:j=l.length:=by omega
   rw[List.take_length] at hdd
   refine cV ?_
   refine⟨?_,_,_, .inr ⟨_,rfl⟩⟩
   rw[Int.toNat_natCast]
   have hkl:k≤l.length:=by omega
   generalize hZ:List.replicate (l.length - k) (gM true [Value.slice none 0 0,Value.slice none 0 0,Value.bool false])=Z
   have hZl:Z.length=l.length - k:=by rw[←hZ];simp
   have hr2:∀G:Hp,(∃d,bu G b=some (.row 105 3 d ((es.map cn.av).take k++Z++(es.map cn.av).drop (k+(l.length - k)))))→cZ.dV G 5 (.sv b l.length 0 (k - 0))=iY (mH l):=by
    rintro G ⟨d,hG⟩
    rw[M4 (k:=4) hG (by simp[hZl,hel];omega),List.drop_zero,Nat.sub_zero,List.append_assoc,List.take_append_of_le_length (by simp;omega),List.take_take,Nat.min_self,←List.map_take,hdd,cy _ (gm _)]
    rfl
   exact hr2 _ ⟨d0,bw⟩
noncomputable def fb (u:bx) (most:Int):List cn:=if(eI u most).1=0 then mH (gz u (eI u most).2) else[]
theorem xn (u:bx) (l:List cW):(gz u l).length≤l.length:=Nat.le_trans (E0 _ _) (lH u l l.length)
theorem ER {u:bx} (hu:u.Wf) {most:Int} (h0:(eI u most).1=0):cT u∧(1≤most∧most≤65536)∧∃l,gZ u most.toNat=some l∧(eI u most).2=l:=by
 by_cases hr:cT u
 ·by_cases hm:1≤most∧most≤65536
  ·rw[oV hr hm] at h0 ⊢
   cases hs:gZ u most.toNat with
   |none=>rw[hs] at h0;cases h0
   |some l=>exact⟨hr,hm,l,rfl,rfl⟩
  ·rw[lB hr hm] at h0;cases h0
 ·rw[oU hr] at h0;cases h0
theorem EP {u:bx} (hu:u.Wf) {most:Int} (h0:(eI u most).1=0):(eI u most).2.length≤65536:=by
 obtain⟨hr,hm,l,hs,he⟩:=ER hu h0
 obtain⟨_,h2,_⟩:=lC hu hr (by omega) hs
 rw[he];omega
theorem E9 (l:List cn) (e:Int):cI 0 (.dK [iY l,i64 e]):=by
 have:=gm l
 simp[cI,cX,this]
set_option maxHeartbeats 1000000 in
theorem xA (u:bx) (hu:u.Wf) (most:Int):Pure Tryz.prog 23 [u.av,i64 most] (fun r=>r= .dK [iY (fb u most),i64 (eI u most).1]):=by
 have key:Pure Tryz.prog 23 [u.av,i64 most] (fun r=>r=if(eI u most).1=0 then .dK [iY (mH (gz u (eI u most).2)),i64 0] else .dK [.sc (.slice none 0 0),i64 (eI u most).1]):=by
  by_cases h0:(eI u most).1=0
  ·rw[if_pos h0]
   have hll:=EP hu h0
   have hel:=xn u (eI u most).2
   have hen:=IM u hu most h0
   have hfe:=gm (gz u (eI u most).2)
   generalize gz u (eI u most).2=es at *
   refine cx ?_ (E9 _ _)
   refine aM JO rfl ?_
   refine cV ?_
   refine aL (cG.sW (e:=105) (sz:=3) (es:=es.map cn.av) (cs:=[i64 0]) (by simp[gC]) (by rw[List.length_map];exact hen) hfe (by simp[cI,cX,cB])) ?_
   rintro _ H1 n1 ⟨rfl,rfl,rfl⟩
   rw[List.length_map]
   refine cV ?_
   refine aL (xm (b:=5) (l:=es) (by omega) ⟨.any, ?_⟩ ?_) ?_
   ·exact bw
   ·exact ca
   rintro r H2 n2 ⟨hfz,b,m,hform⟩
   rcases hform with rfl|⟨q,rfl⟩
   all_goals
    refine cV ?_
    refine⟨?_⟩
    show AV.dK [cZ.dV _ 5 _,i64 0]=_
    exact congrArg (fun x=>AV.dK [x,i64 0]) hfz
  ·rw[if_neg h0]
   have c0:=IN u hu most
   unfold uY at c0
   rw[if_neg h0] at c0
   have c1:=B2
   generalize (eI u most).1=er at *
   refine aJ JO rfl ?_
   refine cV ?_
   first|exact rfl|trivial
 refine gS key (E9 _ _) fun c=> ?_
 unfold fb
 by_cases h0:(eI u most).1=0
 ·rw[if_pos h0,if_pos h0,h0];exact fun _ h=>h
 ·rw[if_neg h0,if_neg h0]
  exact dN.dK (.cons (dN.kb _ _ _ _) (.cons (fun _ h=>h) .nil))
end Go.Proofs.YtjopoheligmmoaaGreatDoor
end
section
/- More is the same: the least that is enough. -/
namespace Go.Proofs.YtjopoheligmmoaaGreatDoor
open Go Go.cZ Go.Proofs
set_option linter.unusedSimpArgs false
set_option linter.unusedVariables false
set_option maxRecDepth 8000
end Go.Proofs.YtjopoheligmmoaaGreatDoor
end
section
/- Ends: in order, each once. -/
namespace Go.Proofs.YtjopoheligmmoaaGreatDoor
open Go Go.cZ Go.Proofs
set_option linter.unusedSimpArgs false
set_option linter.unusedVariables false
theorem wH (l:List cn):∀k,∀e∈lE l k,∃j,j<k∧e=l.getD j default
 |0,e,h=>by simp[lE] at h
 |1,e,h=>by simp only[lE,List.mem_cons,List.not_mem_nil,or_false] at h;exact⟨0,by omega,h⟩
 |k+2,e,h=>by
  rw[lE] at h
  split at h
  ·obtain⟨j,h1,h2⟩:=wH l (k+1) e h
   exact⟨j,by omega,h2⟩
  ·rcases List.mem_append.1 h with h|h
   ·obtain⟨j,h1,h2⟩:=wH l (k+1) e h
    exact⟨j,by omega,h2⟩
   ·simp only[List.mem_cons,List.not_mem_nil,or_false] at h
    exact⟨k+1,by omega,h⟩
theorem rI (l:List cn):∀k j,j<k→l.getD j default∈lE l k
 |0,j,h=>by omega
 |1,j,h=>by
  obtain rfl:j=0:=by omega
  simp[lE]
 |k+2,j,h=>by
  rw[lE]
  split
  ·rename_i e
   by_cases hj:j=k+1
   ·rw[hj,e];exact rI l (k+1) k (by omega)
   ·exact rI l (k+1) j (by omega)
  ·by_cases hj:j=k+1
   ·rw[hj];exact List.mem_append.2 (.inr (by simp))
   ·exact List.mem_append.2 (.inl (rI l (k+1) j (by omega)))
theorem wh {α:Type} {R:α→α→Prop} {l:List α} (h:l.Pairwise R) (d:α) {i j:Nat} (hi:i<j) (hj:j<l.length):R (l.getD i d) (l.getD j d):=by
 have:=List.pairwise_iff_getElem.1 h i j (by omega) hj hi
 simpa[List.getD,hj,show i<l.length by omega] using this
theorem ni {l:List cn} (h:l.Pairwise fun x y=>vB fw x y=true):∀k,k≤l.length→(lE l k).Pairwise fun x y=>fw x y<0
 |0,_=>by simp[lE]
 |1,_=>by simp[lE]
 |k+2,hk=>by
  rw[lE]
  split
  ·exact ni h (k+1) (by omega)
  ·rename_i hne
   refine List.pairwise_append.2 ⟨ni h (k+1) (by omega),by simp,fun a ha b hb=> ?_⟩
   simp only[List.mem_cons,List.not_mem_nil,or_false] at hb
   subst hb
   obtain⟨j,hj,rfl⟩:=wH l _ a ha
   have h1:=wh h default (i:=j) (j:=k+1) (by omega) (by omega)
   have h2:vB fw (l.getD j default) (l.getD k default)=true:=by
    by_cases e:j=k
    ·rw[e];simp[vB,(ja.zero _ _).2 rfl]
    ·exact wh h default (by omega) (by omega)
   have h3:=wh h default (i:=k) (j:=k+1) (by omega) (by omega)
   have h4:fw (l.getD j default) (l.getD (k+1) default)≠0:=fun e=>by
    have e1:=(ja.zero _ _).1 e
    rw[←e1] at h3
    have:=ja.FG h3 h2
    exact hne (by rw[this,←e1])
   simp only[vB,decide_eq_true_eq] at h1
   omega
theorem B6 {u:bx} {l:List cW} {e:cn}:e∈dS u l l.length↔∃i,i<l.length∧(l.getD i default).m.stuck u=true∧e=(l.getD i default).m.end_ u:=by
 unfold dS
 rw[List.take_length,List.mem_filterMap]
 constructor
 ·rintro⟨f,hf,he⟩
  obtain⟨i,hi,rfl⟩:=List.mem_iff_getElem.1 hf
  split at he
  ·rename_i hs
   cases he
   refine⟨i,hi, ?_⟩
   rw[show l.getD i default=l[i] by simp[List.getD,hi]]
   exact⟨hs,rfl⟩
  ·cases he
 ·rintro⟨i,hi,hs,rfl⟩
  refine⟨l.getD i default,cR default hi, ?_⟩
  rw[if_pos hs]
theorem uZ {u:bx} {l:List cW} {e:cn}:e∈gz u l↔e∈dS u l l.length:=by
 have hp:=lS fw (dS u l l.length)
 unfold gz
 constructor
 ·intro h
  obtain⟨j,hj,rfl⟩:=wH _ _ _ h
  exact hp.mem_iff.1 (cR default (by rw[hp.length_eq];exact hj))
 ·intro h
  obtain⟨j,hj,rfl⟩:=List.mem_iff_getElem.1 (hp.mem_iff.2 h)
  have:=rI (ff fw (dS u l l.length)) (dS u l l.length).length j (by rw[←hp.length_eq];exact hj)
  rwa[show(ff fw (dS u l l.length)).getD j default=(ff fw (dS u l l.length))[j] by simp[List.getD,hj]] at this
theorem wJ (u:bx) (l:List cW):(gz u l).Pairwise fun x y=>fw x y<0:=by
 unfold gz
 refine ni (ja.sorted _) _ ?_
 rw[nJ]
 exact Nat.le_refl _
end Go.Proofs.YtjopoheligmmoaaGreatDoor
end
section
/- All that is found is closed; one thread: what it comes to. -/
namespace Go.Proofs.YtjopoheligmmoaaGreatDoor
open Go Go.cZ Go.Proofs
set_option linter.unusedSimpArgs false
set_option linter.unusedVariables false
theorem JI {l l':List cW} (h:l<+:l') {k:List UInt8} (hk:k∈jS l):k∈jS l':=by
 obtain⟨t,rfl⟩:=h
 simp only[jS,List.map_append,List.mem_append]
 exact .inl hk
theorem M6 {l l':List cW} (h:l<+:l') {k:Nat} (hk:k<l.length):l'.getD k default=l.getD k default:=by
 obtain⟨t,rfl⟩:=h
 simp[List.getD,List.getElem?_append,hk]
def EM (u:bx) (l:List cW) (k t:Nat):Prop:=(l.getD k default).m.kx u t=0→gx ((l.getD k default).m.step u t).1∈jS l
theorem EM.pre {u:bx} {l l':List cW} {k t:Nat} (h:EM u l k t) (hk:k<l.length) (hp:l<+:l'):EM u l' k t:=by
 unfold EM at *
 rw[M6 hp hk]
 exact fun hb=>JI hp (h hb)
end Go.Proofs.YtjopoheligmmoaaGreatDoor
end
section
/- The key tells the situation. -/
namespace Go.Proofs.YtjopoheligmmoaaGreatDoor
open Go Go.cZ Go.Proofs
open Go.Lib (decDigits itoa)
set_option linter.unusedSimpArgs false
set_option linter.unusedVariables false
end Go.Proofs.YtjopoheligmmoaaGreatDoor
end
section
/- One thread: what it comes to. -/
namespace Go.Proofs.YtjopoheligmmoaaGreatDoor
open Go Go.cZ Go.Proofs
set_option linter.unusedSimpArgs false
set_option linter.unusedVariables false
end Go.Proofs.YtjopoheligmmoaaGreatDoor
end
section
/- What a machine comes to is found. -/
namespace Go.Proofs.YtjopoheligmmoaaGreatDoor
open Go Go.cZ Go.Proofs
set_option linter.unusedSimpArgs false
set_option linter.unusedVariables false
end Go.Proofs.YtjopoheligmmoaaGreatDoor
end
section
/- Ways go to ends; each beginning of an end's prints is shown. -/
namespace Go.Proofs.YtjopoheligmmoaaGreatDoor
open Go Go.cZ Go.Proofs
set_option linter.unusedSimpArgs false
set_option linter.unusedVariables false
theorem RP {u:bx} {l:List cW} {e:cn} (h:e∈gz u l):∃i,i<l.length∧fM u l e l.length=some i∧(l.getD i default).m.stuck u=true∧(l.getD i default).m.end_ u=e:=by
 obtain⟨i,hi,h1,h2⟩:=B6.1 (uZ.1 h)
 cases hh:fM u l e l.length with
 |none=>
  exfalso
  unfold fM at hh
  have:=List.find?_eq_none.1 hh i (List.mem_range.2 hi)
  rw[h1,h2,(ja.zero _ _).2 rfl] at this
  simp at this
 |some j=>
  refine⟨j,NR hh,rfl, ?_⟩
  unfold fM at hh
  have:=List.find?_some hh
  simp only[Bool.and_eq_true,decide_eq_true_eq] at this
  exact⟨this.1,(ja.zero _ _).1 this.2⟩
end Go.Proofs.YtjopoheligmmoaaGreatDoor
end
section
/- Way: the walk. -/
namespace Go.Proofs.YtjopoheligmmoaaGreatDoor
open Go Go.cZ Go.Proofs
set_option linter.unusedSimpArgs false
set_option linter.unusedVariables false
set_option maxRecDepth 8000
theorem BV (a b:List Int) (ha:a.length<9223372036854775807):Pure Tryz.prog 63 [cM a,cM b] (fun r=>r=i64 (e8 eX a b)):=by
 refine aJ OK rfl ?_
 refine cV ?_
 rw[List.length_map]
 refine aN (fun i:Nat=>[(0,cM a),(1,cM b),(9,cM a),(10,i64 a.length),(11,i64 i)]) (fun i H n=>i≤a.length∧i≤b.length∧e8 eX a b=e8 eX (a.drop i) (b.drop i)) (fun i=>a.length - i) 0 cK ⟨Nat.zero_le _,Nat.zero_le _,rfl⟩ ?_
 rintro i H n ⟨hi,hib,ho⟩
 rw[ho]
 have a0:(a.map i64).length=a.length:=by simp
 have a1:(b.map i64).length=b.length:=by simp
 by_cases hil:i<a.length
 ·have e0:=fun d=>ints_at hil d
  by_cases hbl:i<b.length
  ·have e1:=fun d=>ints_at hbl d
   have hd:=wD eX 0 hil hbl
   have c0:=sA (a.getD i 0) (b.getD i 0)
   generalize a.getD i 0=p at *
   generalize b.getD i 0=q at *
   by_cases hz:eX p q=0
   ·have r0:=hz
    rw[if_pos hz] at hd
    refine cV ?_
    exact⟨i+1,by omega,cK,by omega,by omega,hd⟩
   ·have r0:=decide_eq_true hz
    rw[if_neg hz] at hd
    refine cV ?_
    rw[hd]
  ·rw[sE eX hil (by omega)]
   refine cV ?_
   first|exact rfl|trivial
 ·obtain rfl:i=a.length:=by omega
  rw[sC eX (Nat.le_refl _) hib]
  by_cases h:a.length<b.length
  ·rw[if_pos h]
   refine cV ?_
   first|exact rfl|trivial
  ·rw[if_neg h]
   refine cV ?_
   first|exact rfl|trivial
def IF (a b:List Int):Int:=tG [eX a.length b.length,e8 eX a b]
theorem IG (a b:List Int) (ha:a.length<9223372036854775807) (hb:b.length<9223372036854775807):Pure Tryz.prog 60 [cM a,cM b] (fun r=>r=i64 (IF a b)):=by
 have e:IF a b=tG [eX ((a.map i64).length:Int) ((b.map i64).length:Int),e8 eX a b]:=by
  unfold IF;rw[List.length_map,List.length_map]
 rw[e]
 have c0:=sA ((a.map i64).length:Int) ((b.map i64).length:Int)
 have c1:=BV a b ha
 have c2:=wc [eX ((a.map i64).length:Int) ((b.map i64).length:Int),e8 eX a b] (by simp)
 refine aJ OI rfl ?_
 refine cV ?_
 refine aT (args2:=[cM [eX ((a.map i64).length:Int) ((b.map i64).length:Int),e8 eX a b]]) (r:=i64 (tG [eX ((a.map i64).length:Int) ((b.map i64).length:Int),e8 eX a b])) c2 rfl (by simp[cX,cI]) trivial ?_
 refine cV ?_
 first|exact rfl|trivial
def w5 (w:List Int):List (List Int)→List Int
 |[]=>w
 |x::r=>w5 (if IF x w<0 then x else w) r
abbrev clW:AV:= .fn (.func 60) [] []
abbrev kH (l:List (List Int)):List AV:=l.map cM
theorem HV {l:List (List Int)} {i:Nat} (h:i<l.length) (d:AV):(kH l).getD i d=cM (l.getD i []):=dQ cM l i d h
theorem J4 {l:List (List Int)} {i:Nat} (h:i<l.length) (w:List Int):w5 w (l.drop i)=w5 (if IF (l.getD i []) w<0 then l.getD i [] else w) (l.drop (i+1)):=by
 rw[List.drop_eq_getElem_cons h,w5,show l.getD i []=l[i] by simp[List.getD,h]]
set_option maxHeartbeats 2000000 in
theorem O6 {l:List (List Int)} (h0:0<l.length) (hl:l.length≤65536) (hw:∀w∈l,w.length≤1048576) {b:Nat} {H:Hp} {nx:Nat} (hb:∃d,bu H b=some (.row 31 1 d (kH l))) (hlt:b<nx):
 cG Tryz.prog 59 [.sl b l.length,clW] H nx (fun r H' n=>r=cM (w5 (l.getD 0 []) (l.drop 1))):=by
 obtain⟨d0,r0'⟩:=hb
 have a0:(kH l).length=l.length:=List.length_map _
 have e0:∀d,(kH l).getD (0:Int).toNat d=cM (l.getD 0 []):=fun d=>HV h0 d
 refine aM OH rfl ?_
 refine cV ?_
 clear e0
 refine aN (fun σ:Nat×List Int=>[(0, .sl b l.length),(1,clW),(5,cM σ.2),(6,i64 σ.1)])
  (fun σ H2 n=>σ.1≤l.length∧σ.2.length≤1048576∧w5 σ.2 (l.drop σ.1)=w5 (l.getD 0 []) (l.drop 1)∧nx≤n∧bu H2 b=some (.row 31 1 d0 (kH l))) (fun σ=>l.length - σ.1) (1,l.getD 0 [])
  cK ⟨by show 1≤l.length;omega,hw _ (cR [] h0),rfl,ca,bw⟩ ?_
 clear r0'
 rintro⟨i,w⟩ H2 n ⟨hi,hwl,hm,hn,r0'⟩
 dsimp only at hi hwl hm ⊢
 by_cases hil:i<l.length
 ·have e0:∀d,(kH l).getD ((i:Int)).toNat d=cM (l.getD i []):=fun d=>by rw[Int.toNat_natCast];exact HV hil d
  have hxl:=hw _ (cR [] hil)
  rw[J4 hil] at hm
  generalize l.getD i []=x at *
  have c0:=IG x w (by omega) (by omega)
  by_cases hc:IF x w<0
  ·rw[if_pos hc] at hm
   have r1:=decide_eq_true hc
   refine cV ?_
   exact⟨(i+1,x),by dsimp only;omega,cK,by dsimp only;omega,hxl,hm,ca,bw⟩
  ·rw[if_neg hc] at hm
   have r1:=decide_eq_false hc
   refine cV ?_
   exact⟨(i+1,w),by dsimp only;omega,cK,by dsimp only;omega,hwl,hm,ca,bw⟩
 ·obtain rfl:i=l.length:=by omega
  rw[List.drop_length,w5] at hm
  refine cV ?_
  exact⟨by rw[←hm]⟩
theorem L4 {u:bx} {l:List cW} (hf:iU u l):∀i,i<l.length→(nQ l i).length≤i:=by
 intro i
 induction i using Nat.strongRecOn with
 |_ i ih=>
  intro hi
  by_cases h0:i=0
  ·subst h0
   rw[uP (by rw[hf.first];show ¬(0:Int)≤-1;omega)]
   exact Nat.le_refl _
  ·obtain⟨k,t,h1,h2,h3,h4⟩:=hf.L8 i (by omega) hi
   have hfr:(l.getD i default).from_=k:=by rw[h4]
   rw[x7 hf hi (by rw[hfr];omega),hfr,Int.toNat_natCast,List.length_cons]
   have:=ih k h1 (by omega)
   omega
theorem KW {u:bx} (hu:u.Wf) {most:Int} (h0:(eI u most).1=0) {e:cn} (he:e∈fb u most):∃i,i<(eI u most).2.length∧fM u (eI u most).2 e (eI u most).2.length=some i∧((eI u most).2.getD i default).m.stuck u=true∧((eI u most).2.getD i default).m.end_ u=e∧e.ended=false:=by
 unfold fb at he
 rw[if_pos h0] at he
 obtain⟨h1,h2⟩:=List.mem_filter.1 he
 obtain⟨i,g1,g2,g3,g4⟩:=RP h1
 exact⟨i,g1,g2,g3,g4,by simpa using h2⟩
theorem QW {u:bx} (hu:u.Wf) {most:Int} (h0:(eI u most).1=0):cT u∧iU u (eI u most).2∧(eI u most).2.length≤65536:=by
 obtain⟨hr,hm,l,hs,he⟩:=ER hu h0
 obtain⟨hf,h2,_⟩:=lC hu hr (by omega) hs
 rw[he]
 exact⟨hr,hf,by omega⟩
noncomputable def p6 (u:bx) (most:Int) (e:cn):List Int:=js (eI u most).2 (fM u (eI u most).2 e (eI u most).2.length)
theorem K5 {u:bx} (hu:u.Wf) {most:Int} (h0:(eI u most).1=0) {e:cn} (he:e∈fb u most):Pure Tryz.prog 58 [u.av,i64 most,e.av] (fun r=>r= .dK [cM (p6 u most e),bl true,i64 0])∧(p6 u most e).length≤65536:=by
 obtain⟨hr,hf,hl⟩:=QW hu h0
 obtain⟨i,g1,g2,g3,g4,g5⟩:=KW hu h0 he
 obtain⟨q1,q2⟩:=hf.ok i g1
 have hm:=q1.ml
 have hs:=hr.pz
 have c:=QC u hu most e (by rw[←g4];show(((eI u most).2.getD i default).m.cP).length * 16≤_;omega) (by rw[←g4];show(((eI u most).2.getD i default).m.mem).length * 8≤_;omega)
 unfold vV at c
 rw[if_pos h0,g2] at c
 refine⟨?_, ?_⟩
 ·unfold p6;rw[g2];exact c
 ·unfold p6;rw[g2]
  show((nQ _ i).reverse).length≤_
  have:=L4 hf i g1
  rw[List.length_reverse];omega
noncomputable def vW (u:bx) (most:Int):List (List Int):=(fb u most).map (p6 u most)
noncomputable def xC (u:bx) (most:Int):List Int:=w5 ((vW u most).getD 0 []) ((vW u most).drop 1)
theorem EE {u:bx} (hu:u.Wf) {most:Int} (h0:(eI u most).1=0):(fb u most).length≤65536:=by
 have hll:=EP hu h0
 have hel:=xn u (eI u most).2
 unfold fb;rw[if_pos h0]
 exact Nat.le_trans (List.length_filter_le _ _) (by omega)
theorem gO (l:List Int) (b:Bool) (e:Int):cI 0 (.dK [cM l,bl b,i64 e]):=by
 simp[cI,cX,cB]
set_option maxHeartbeats 2000000 in
theorem QB (u:bx) (hu:u.Wf) (most:Int) (h0:(eI u most).1=0) (hne:fb u most≠[]):Pure Tryz.prog 25 [u.av,i64 most] (fun r=>r= .dK [cM (xC u most),bl true,i64 0]):=by
 have c0:=xA u hu most
 rw[h0] at c0
 have hsl:=EE hu h0
 have hwp:=fun e he=>K5 (e:=e) hu h0 he
 have hpos:0<(fb u most).length:=List.length_pos_iff.2 hne
 unfold xC vW
 generalize fb u most=es at *
 have a0:(es.map cn.av).length=es.length:=List.length_map _
 refine cx ?_ (gO _ _ _)
 refine aM CX rfl ?_
 refine cV ?_
 simp only[List.length_map]
 refine aV (fun i:Nat=>[(2, .pt 0 1 0 0),(1,i64 most),(9, .sl 17 i),(24,iY es),(25,i64 es.length),(26,i64 i)])
  (fun i H n=>i≤es.length∧18≤n∧(∃d,bu H 0=some (.row 25 3 d [u.av]))∧∃d,bu H 17=some (.row 31 1 d (kH ((es.take i).map (p6 u most))))) (fun i=>es.length - i) 0
  ⟨_,_,_,Rt.nil 9 31 1 (by omega) rfl,cK,Nat.zero_le _,ca,⟨_,bw⟩,⟨_,bw⟩⟩ ?_
 rintro i H n ⟨hi,hn,⟨d0,r0⟩,⟨d1,r1⟩⟩
 have a1:(kH ((es.take i).map (p6 u most))).length=i:=by
  unfold kH;rw[List.length_map,List.length_map,List.length_take];omega
 by_cases hil:i<es.length
 ·have e0:∀d,(es.map cn.av).getD ((i:Int)).toNat d=(es.getD i default).av:=fun d=>by rw[Int.toNat_natCast];exact gl hil d
  have hmem:=cR (default:cn) hil
  obtain⟨c1,hwl⟩:=hwp _ hmem
  have hnx:(es.take (i+1)).map (p6 u most)=(es.take i).map (p6 u most)++[p6 u most (es.getD i default)]:=by
   rw[List.take_succ_eq_append_getElem hil,List.map_append];simp[List.getD,hil]
  refine cV ?_
  exact⟨i+1,by omega,_,_,_,Rt.refl _ _ _,cK,by omega,ca,⟨_,bw⟩,⟨_,by rw[hnx];unfold kH;rw[List.map_append];exact bw⟩⟩
 ·obtain rfl:i=es.length:=by omega
  rw[List.take_length] at r1
  have hlen:(es.map (p6 u most)).length=es.length:=List.length_map _
  have hmin:=fun(H:Hp) (nx:Nat)=>O6 (H:=H) (nx:=nx) (l:=es.map (p6 u most)) (b:=17) (by omega) (by omega) (fun w hw=>by
   obtain⟨e,he,rfl⟩:=List.mem_map.1 hw
   have:=(hwp e he).2
   omega)
  rw[hlen] at hmin
  refine cV ?_
  refine aL (hmin _ _ ⟨d1, ?_⟩ ca) ?_
  ·exact bw
  rintro _ H2 n2 rfl
  refine cV ?_
  exact⟨rfl⟩
theorem aAL (u:bx) (hu:u.Wf) (most:Int):Pure Tryz.prog 25 [u.av,i64 most] (fun r=>r= .dK [cM (xC u most),bl (decide (fb u most≠[])),i64 (eI u most).1]):=by
 by_cases h0:(eI u most).1=0
 ·by_cases hne:fb u most=[]
  ·have c0:=xA u hu most
   rw[hne,h0] at c0
   have hw:xC u most=[]:=by unfold xC vW;rw[hne];rfl
   rw[hw,h0,decide_eq_false (fun h=>h hne)]
   have key:Pure Tryz.prog 25 [u.av,i64 most] (fun r=>r= .dK [.sc (.slice none 0 0),bl false,i64 0]):=by
    refine aJ CX rfl ?_
    refine cV ?_
    refine aN (fun _:Nat=>[(9, .sc (.slice none 0 0)),(25,i64 0),(26,i64 0)]) (fun _ H n=>True) (fun _=>0) 0 cK trivial ?_
    rintro _ H n _
    refine cV ?_
    first|exact rfl|trivial
   refine gS key (gO _ _ _) fun c=>dN.dK (.cons (dN.kb _ _ _ _) (.cons (fun _ h=>h) (.cons (fun _ h=>h) .nil)))
  ·rw[h0,decide_eq_true hne]
   exact QB u hu most h0 hne
 ·have hs:fb u most=[]:=by unfold fb;rw[if_neg h0]
  have hw:xC u most=[]:=by unfold xC vW;rw[hs];rfl
  rw[hw,decide_eq_false (fun h=>h hs)]
  have c0:=xA u hu most
  have key:Pure Tryz.prog 25 [u.av,i64 most] (fun r=>r= .dK [.sc (.slice none 0 0),bl false,i64 (eI u most).1]):=by
   generalize fb u most=es at *
   generalize (eI u most).1=er at *
   refine aJ CX rfl ?_
   refine cV ?_
   first|exact rfl|trivial
  refine gS key (gO _ _ _) fun c=>dN.dK (.cons (dN.kb _ _ _ _) (.cons (fun _ h=>h) (.cons (fun _ h=>h) .nil)))
end Go.Proofs.YtjopoheligmmoaaGreatDoor
end
