import Derived.Test.YtjopoheligmmoaaGreatDoorM39
import Derived.Test.YtjopoheligmmoaaGreatDoorM37
import Derived.Test.YtjopoheligmmoaaGreatDoorM40
import Derived.Test.YtjopoheligmmoaaGreatDoorM35
import Derived.Test.YtjopoheligmmoaaGreatDoorM30
import Derived.Test.YtjopoheligmmoaaGreatDoorM33
import Derived.Test.YtjopoheligmmoaaGreatDoorM25
import Derived.Test.YtjopoheligmmoaaGreatDoorM38
namespace Go.dA
open Go.RowKit
set_option linter.unusedSimpArgs false
set_option linter.unusedVariables false
theorem cT.rt {P:Program} {f:FuncId} {args:List AV} {H:Hp} {nx:Nat} {R R2:AV->Hp->Nat->Prop} (h:cT P f args H nx R) (hR:∀r H' n,R r H' n->∃fr2 H2 n2,Rt [(0,r)] H' n fr2 H2 n2/\R2 (cu fr2 0) H2 n2):cT P f args H nx R2:=by
 refine⟨h.1,fun w0 c vs a1 a2 a3 a4=>(h.2 w0 c vs a1 a2 a3 a4).mono ?_⟩
 rintro e w' ⟨v,r,H',nx',ρ,U,rfl,hRr,hU,hS,hle,hv⟩
 obtain⟨fr2,H2,n2,hw,hR2⟩:=hR r H' nx' hRr
 have hh:Holds w0 c.M0 ⟨ρ,cC H',U,w',c.M0⟩ nx' 1 [(0,r)] H' nx' ⟨#[v],[]⟩ w':=by
  refine⟨rfl,rfl,ρ,U,hU,hS,fun t=> ?_,⟨hU,Cx.le.refl _⟩⟩
  by_cases ht:t=0
  ·subst ht;exact hv
  ·have:cu [(0,r)] t= .any:=by simp[cu,ht]
   rw[this];exact dY.any _ _ _ _ (by rw[VR];trivial)
 obtain⟨_,_,ρ2,U2,k1,k2,k3,k4⟩:=hw _ _ _ _ _ _ _ hh
 exact⟨v,_,H2,n2,ρ2,U2,rfl,hR2,k1,k2,hle.trans k4.2,k3 0⟩
theorem cT.P5 {P:Program} {f:FuncId} {args:List AV} {e:TypeId} {sz:Nat} {es cs:List AV} (ot:kY cs) (h:cT P f args [] 0 (fun r1 H1 _=>∃b d0,r1= .dQ (.sl b es.length::cs)/\cC H1 b=some (.row e sz d0 es))) (hes:cg 0 es) (d:AV) {H:Hp} {id:Nat} (hfa:cg 0 args):
 kS P f args H id (fun r' H''=>r'= .dQ (.sl id es.length::cs)/\H''=dW H (some (id, .row e sz d es))):=by
 refine⟨h.1,fun w0 c vs hS hH hid hv=> ?_⟩
 have hS0:du c.w ⟨fun _=>none,cC [],fun _=>False,c.w,c.M⟩:=⟨Below.refl _ _,hS.fit,fun b e sz d es he=>by simp[cC] at he,fun b b' k k' blk o z o' z' hk=>by simp[cC] at hk⟩
 have hv':ct ⟨fun _=>none,cC [],fun _=>False,c.w,c.M⟩ args vs:=ct.nq (fun _ h=>h) hfa hv
 refine(h.2 c.w _ vs hS0 rfl (fun _ h=>h.elim) hv').mono ?_
 rintro en w' ⟨v,r1,H1,nx',ρ,U,he,⟨b,d0,rfl,hb⟩,hU,hS',_,hvr⟩
 rw[VR] at hvr
 obtain⟨us,hus,hvr⟩:=hvr
 rw[ct] at hvr
 obtain⟨x,v3,hx3,hvr,hv3⟩:=hvr
 have fin:∀c2:Cx,VR c2 (.sl id es.length) x->VR c2 (.dQ (.sl id es.length::cs)) v:=fun c2 h2=>by
  rw[VR]
  refine⟨us,hus, ?_⟩
  rw[hx3,ct]
  exact⟨x,v3,rfl,h2,lX ot hv3⟩
 rw[VR] at hvr
 obtain⟨_,ad,cap,hvv,hrr⟩:=hvr
 obtain⟨_,hr2⟩:=hrr _ _ _ _ hb
 have hr3:=hr2 rfl
 obtain⟨_,hz,hor⟩:=hS'.jo b _ _ _ _ hb (sa hr3)
 have hbel:=hS'.below
 obtain⟨s1,s2⟩:=hS.world hbel
 have hHeq:cC (dW H (some (id, .row e sz d es)))=fR c.H id (some (.row e sz d es)):=by rw[dh,hH]
 rcases hor with⟨h0,hes0⟩|⟨blk,o,z,hρ,hlow,⟨arr,harr,hsz⟩,hlz,hrow⟩
 ·subst hes0
  obtain⟨p1,p2⟩:=s1.DZ (b:=id) (e:=e) (sz:=sz) d hz hid
  refine⟨v,_,_,fR c.ρ id none,he,⟨rfl,rfl⟩, ?_, ?_,fin _ ?_⟩
  ·rw[hHeq];exact p1
  ·rw[hHeq];exact s2.trans p2
  ·rw[hHeq,VR]
   refine⟨.inr rfl,ad,cap,hvv,fun e' sz' d' es' he'=> ?_⟩
   simp only[jJ,dS,Option.some.injEq,fD.row.injEq] at he'
   obtain⟨rfl,rfl,rfl,rfl⟩:=he'
   refine⟨Nat.le_refl _,fun _=> .inl ⟨by simp[jJ], ?_⟩⟩
   rcases hr3 with⟨_,h2,h3⟩|⟨blk,o,z,h2,_⟩
   ·exact⟨h2,h3⟩
   ·rw[h0] at h2;cases h2
 ·obtain⟨p1,p2⟩:=hS.p6 (b:=id) (e:=e) (sz:=sz) d (es:=es) (w':=w') (blk:=blk) (o:=o) (z:=z) hz (.inl hid) (.inl hlow) hbel.os hbel.tape hbel.output hbel.size (fun k hk _=>hbel.block k hk) harr hsz hlz (fun hle i hi=>by
   obtain⟨y,x1,x2⟩:=dv hrow i hi
   refine⟨y,x1, ?_⟩
   refine VR.gq (n:=0) ?_ ?_ x2
   ·refine⟨fun b hb=>absurd hb (Nat.not_lt_zero _),fun q hq _=>⟨rfl,fun hm=>hq ?_⟩,fun b hb=>absurd hb (Nat.not_lt_zero _)⟩
    rcases hm with hm|⟨b',k',o',z',h1,h2⟩
    ·exact Or.inl (show c.M q from Or.inl hm)
    ·dsimp only at h1 h2
     by_cases e:b'=id
     ·subst e
      rw[dS] at h2
      cases h2
      exact Or.inr ⟨b,_,_,_,hb,hρ⟩
     ·simp only[fR,if_neg e] at h1 h2
      exact Or.inl (show c.M q from Or.inr ⟨b',k',o',z',h1,h2⟩)
   ·have hx4:es.getD i .any=es[i]:=by simp[List.getD,hi]
    rw[hx4]
    exact qF hes _ (List.getElem_mem hi))
  refine⟨v,_,_,fR c.ρ id (some (blk,o,z)),he,⟨rfl,rfl⟩, ?_, ?_,fin _ ?_⟩
  ·rw[hHeq];exact p1
  ·rw[hHeq];exact p2
  ·rw[hHeq,VR]
   refine⟨.inr rfl,ad,cap,hvv,fun e' sz' d' es' he'=> ?_⟩
   simp only[jJ,dS,Option.some.injEq,fD.row.injEq] at he'
   obtain⟨rfl,rfl,rfl,rfl⟩:=he'
   refine⟨by omega,fun _=> .inr ⟨blk,o,z,by simp[jJ], ?_⟩⟩
   rcases hr3 with⟨h2,_,_⟩|⟨blk',o',z',h2,h3,h4,h5,h6⟩
   ·rw[hρ] at h2;cases h2
   ·rw[hρ] at h2;cases h2
    exact⟨h3,h4,h5,h6⟩
theorem cT.MC {P:Program} {f:FuncId} {args:List AV} {e:TypeId} {sz:Nat} {es cs:List AV} (ot:kY cs) (h:cT P f args [] 0 (fun r1 H1 _=>∃b d0,r1= .dQ (.sl b es.length::cs)/\cC H1 b=some (.row e sz d0 es))) (hes:cg 0 es) (hfa:cg 0 args) {H:Hp} {nx:Nat}:
 cT P f args H nx (fun r H' n=>r= .dQ (.sl nx es.length::cs)/\H'=(nx,some (.row e sz .any es))::H/\n=nx+1):=
 (kS.toN (h.P5 ot hes .any hfa)).mono fun r H' n ⟨⟨h1,h2⟩,h3⟩=>⟨h1,h2,h3⟩
end Go.dA
namespace Go.Proofs.YtjopoheligmmoaaGreatDoor
open Go Go.dA Go.Proofs
set_option linter.unusedSimpArgs false
set_option linter.unusedVariables false
set_option maxRecDepth 8000
set_option maxHeartbeats 4000000 in
theorem yw (o:Nat) (l:List dC) (hl:l.length<=65536) (hok:∀e∈l,e.cW.length<9223372036854775807/\e.mem.length<9223372036854775807) (H:Hp) (nx:Nat) (ho:o<nx) (hr:∃d,cC H o=some (.row 105 3 d (l.map dC.av))):
 cT Tryz.prog 97 [.sl o l.length, .fn (.func 98) [] []] H nx (fun r H' n=>nx<=n/\(∀y,y<nx->y≠o->cC H' y=cC H y)/\(r= .sl o l.length/\(mI l l.length).length=l.length/\(∃d,cC H' o=some (.row 105 3 d ((mI l l.length).map dC.av)))\/∃es:List AV,r= .sv o l.length 0 (mI l l.length).length/\es.length=l.length/\(mI l l.length).length<=l.length/\es.take (mI l l.length).length=(mI l l.length).map dC.av/\∃d,cC H' o=some (.row 105 3 d es))):=by
 obtain⟨d0,r0'⟩:=hr
 have a0:(l.map dC.av).length=l.length:=by simp
 have same:∀i j,i<l.length->j<l.length->Pure Tryz.prog 98 [(l.getD i default).av,(l.getD j default).av] (fun r=>r=bl (decide (l.getD i default=l.getD j default))):=fun i j hi hj=>by
  obtain⟨p1,p2⟩:=hok _ (cQ default hi)
  have:=p9 (l.getD i default) (l.getD j default) p1 p2
  simpa only[rJ] using this
 refine aM YS rfl ?_
 by_cases h2:l.length<2
 ·refine ca ?_
  have:mI l l.length=l:=by
   match l,h2 with
   |[],_=>rfl
   |[x],_=>rfl
  rw[this]
  exact⟨⟨cZ,fun y y1 y2=>cM, .inl ⟨rfl,rfl,d0,cE⟩⟩⟩
 ·refine ca ?_
  refine aI (fun i:Nat=>[(0, .sl o l.length),(1, .fn (.func 98) [] []),(5,i64 i)]) (fun i H2 n=>1<=i/\i<=l.length/\nx<=n/\cC H2 o=some (.row 105 3 d0 (l.map dC.av))/\mI l i=l.take i/\∀y,y<nx->y≠o->cC H2 y=cC H y) (fun i=>l.length - i) 1 cJ ⟨Nat.le_refl _,by omega,cZ,cE,by rw[mI];cases l with|nil=>simp at h2|cons x t=>rfl,fun y y1 y2=>cM⟩ ?_
  clear r0'
  rintro i H2 n ⟨hi1,hi,hn,r0',hdd,hkp⟩
  by_cases hil:i<l.length
  ·have e0:∀d,(l.map dC.av).getD ((i:Int)).toNat d=(l.getD i default).av:=fun d=>by rw[Int.toNat_natCast];exact iR hil d
   have e1:∀d,(l.map dC.av).getD ((i:Int) - 1).toNat d=(l.getD (i - 1) default).av:=fun d=>by rw[show((i:Int) - 1).toNat=i - 1 by omega];exact iR (by omega) d
   have c0:=same i (i - 1) hil (by omega)
   have hsu:=qB l hi1
   by_cases he:l.getD i default=l.getD (i - 1) default
   ·rw[decide_eq_true he] at c0
    rw[if_pos he] at hsu
    refine ca ?_
    refine aI (fun σ:Nat×Nat×List dC=>[(0, .sl o l.length),(1, .fn (.func 98) [] []),(5,i64 σ.1),(6, .sv o l.length i (l.length - i)),(7,i64 σ.2.1)])
     (fun σ H2 n=>1<=σ.2.1/\i+σ.2.1<=l.length/\i<=σ.1/\σ.1+1<=i+σ.2.1/\σ.2.2.length=l.length/\(∀q,σ.1<=q->σ.2.2.getD q default=l.getD q default)/\σ.2.2.take σ.1=mI l (i+σ.2.1)/\nx<=n/\(∃d,cC H2 o=some (.row 105 3 d (σ.2.2.map dC.av)))/\∀y,y<nx->y≠o->cC H2 y=cC H y) (fun σ=>l.length - σ.2.1) (i,1,l) cJ
     ⟨Nat.le_refl _,by show i+1<=l.length;omega,Nat.le_refl _,Nat.le_refl _,rfl,fun _ _=>rfl,by dsimp only;rw[hsu,hdd],cZ,⟨_,cE⟩,fun y y1 y2=>Eq.trans cM (hkp y y1 y2)⟩ ?_
    clear c0 e0 e1 hsu hdd r0' hn hkp
    rintro⟨k,j,es⟩ H3 n ⟨hj1,hj,hik,hkj,hel,hsame,hdd,hn,⟨d1,r1'⟩,hkp⟩
    dsimp only at hj1 hj hik hkj hel hsame hdd r1' ⊢
    have a1:(es.map dC.av).length=l.length:=by simp[hel]
    by_cases hjl:j<l.length - i
    ·have e0:∀d,(es.map dC.av).getD (i+((j:Int)).toNat) d=(l.getD (i+j) default).av:=fun d=>by rw[Int.toNat_natCast,iR (by omega) d,hsame _ (by omega)]
     have e1:∀d,(es.map dC.av).getD (i+((j:Int) - 1).toNat) d=(l.getD (i+j - 1) default).av:=fun d=>by rw[show i+((j:Int) - 1).toNat=i+j - 1 by omega,iR (by omega) d,hsame _ (by omega)]
     have e2:∀d,(es.map dC.av).getD ((k:Int)).toNat d=(es.getD k default).av:=fun d=>by rw[Int.toNat_natCast];exact iR (by omega) d
     have c0:=same (i+j) (i+j - 1) (by omega) (by omega)
     have hsu:=qB l (k:=i+j) (by omega)
     by_cases he2:l.getD (i+j) default=l.getD (i+j - 1) default
     ·rw[decide_eq_true he2] at c0
      rw[if_pos he2] at hsu
      refine ca ?_
      exact⟨(k,j+1,es),by dsimp only;omega,cJ,by dsimp only;omega,by dsimp only;omega,hik,by dsimp only;omega,hel,hsame,by dsimp only;rw[<-Nat.add_assoc,hsu];exact hdd,cZ,⟨d1,cE⟩,fun y y1 y2=>Eq.trans cM (hkp y y1 y2)⟩
     ·rw[decide_eq_false he2] at c0
      rw[if_neg he2] at hsu
      refine ca ?_
      refine⟨(k+1,j+1,es.set k (l.getD (i+j) default)),by dsimp only;omega,cJ,by dsimp only;omega,by dsimp only;omega,by dsimp only;omega,by dsimp only;omega,by simp[hel],fun q hq=> ?_, ?_,cZ,⟨d1,by dsimp only;rw[List.map_set];exact cE⟩,fun y y1 y2=>Eq.trans cM (hkp y y1 y2)⟩
      ·have hq:k+1<=q:=hq
       dsimp only
       rw[getD_set_ne (by omega)];exact hsame q (by omega)
      ·dsimp only
       rw[<-Nat.add_assoc,hsu,lJ (by omega),hdd]
    ·obtain rfl:j=l.length - i:=by omega
     rw[show i+(l.length - i)=l.length by omega] at hdd
     refine ca ?_
     rw[Int.toNat_natCast]
     have hkl:k<=l.length:=by omega
     have hkd:(mI l l.length).length=k:=by rw[<-hdd,List.length_take,hel];omega
     generalize hZ:List.replicate (l.length - k) (hP true [Value.slice none 0 0,Value.slice none 0 0,Value.bool false])=Z
     have hZl:Z.length=l.length - k:=by rw[<-hZ];simp
     rw[hkd]
     refine⟨⟨cZ,fun y y1 y2=>Eq.trans cM (hkp y y1 y2), .inr ⟨(es.map dC.av).take k++Z++(es.map dC.av).drop (k+(l.length - k)),rfl, ?_,hkl, ?_,d1,cE⟩⟩⟩
     ·simp[hZl,hel];omega
     ·rw[List.append_assoc,List.take_append_of_le_length (by simp;omega),List.take_take,Nat.min_self,<-List.map_take,hdd]
   ·rw[decide_eq_false he] at c0
    rw[if_neg he] at hsu
    refine ca ?_
    refine⟨i+1,by omega,cJ,by omega,by omega,cZ,cE, ?_,fun y y1 y2=>Eq.trans cM (hkp y y1 y2)⟩
    rw[hsu,hdd,List.take_succ_eq_append_getElem hil,show l.getD i default=l[i] by simp[List.getD,hil]]
  ·obtain rfl:i=l.length:=by omega
   rw[List.take_length] at hdd
   refine ca ?_
   rw[hdd]
   exact⟨⟨cZ,fun y y1 y2=>Eq.trans cM (hkp y y1 y2), .inl ⟨rfl,rfl,d0,cE⟩⟩⟩
theorem vI (o:Nat) (l:List dC) (hl:l.length<=65536) (hok:∀e∈l,e.cW.length<9223372036854775807/\e.mem.length<9223372036854775807) (H:Hp) (nx:Nat) (ho:o<nx) (hr:∃d,cC H o=some (.row 105 3 d (l.map dC.av))):
 cT Tryz.prog 97 [.sl o l.length, .fn (.func 98) [] []] H nx (fun r H' n=>∃b,r= .sl b (mI l l.length).length/\(b=o\/nx<=b)/\b<n/\nx<=n/\(∃d,cC H' b=some (.row 105 3 d ((mI l l.length).map dC.av)))/\∀y,y<nx->y≠o->cC H' y=cC H y):=by
 refine(yw o l hl hok H nx ho hr).rt ?_
 rintro r H' n ⟨hn,hk,⟨rfl,h1,h2⟩|⟨es,rfl,h1,h2,h3,d,h4⟩⟩
 ·exact⟨_,H',n,Rt.refl _ _ _,o,by rw[h1];rfl, .inl rfl,by omega,hn,h2,hk⟩
 ·refine⟨_,_,n+1,Rt.part 0 rfl h4 h1 (by omega),n,rfl, .inr hn,by omega,by omega,⟨.any, ?_⟩,fun y y1 y2=> ?_⟩
  ·rw[List.drop_zero,h3];exact cx _ _ _
  ·exact(cc (by omega)).trans ((cc y2).trans (hk y y1 y2))
set_option maxHeartbeats 2000000 in
theorem HJ (u:cF) (hu:u.Wf) (most:Int) (h0:(eY u most).1=0):cT Tryz.prog 54 [u.av,i64 most] [] 0 (fun r H n=>∃b d,r= .dQ [.sl b (ir u (eY u most).2).length,i64 0]/\cC H b=some (.row 105 3 d ((ir u (eY u most).2).map dC.av))):=by
 refine aM YO rfl ?_
 by_cases hr:cj u
 ·by_cases hm:1<=most/\most<=65536
  ·rw[pn hr hm] at h0 ⊢
   refine ca ?_
   let l:=(iM u most.toNat).getD []
   let I:Nat->Hp->Prop:=fun k H=>(∃d,cC H 0=some (.row 25 3 d [u.av]))/\(∃d,cC H 3=some (.row 41 1 d [.sl 7 (dn u l k).length]))/\(∃d,cC H 7=some (.row 105 3 d ((dn u l k).map dC.av)))
   refine aJ (R:=fun r H n=>8<=n/\yS u most I r H) (LD (b:=3) 105 3 (by omega) (by omega) (d:=hP false [.slice none 0 0]) (te:=41) ?_ fun H2 q1 q2 q3=> ?_) ?_
   ·exact cE
   ·refine(tG u hu hr most hm _ [.pt 0 1 0 0, .pt 3 1 0 0] H2 8 I ?_ ?_ ?_).mono fun r H n h=>⟨h.1,h.short⟩
    ·exact⟨⟨_,(q3 0 (by omega) (by omega)).trans cE⟩,⟨_,q1⟩,⟨_,q2⟩⟩
    ·rintro k H H' ⟨⟨d0,p0⟩,⟨d1,p1⟩,⟨d2,p2⟩⟩ hk
     exact⟨⟨d0,(hk 0 (by omega)).trans p0⟩,⟨d1,(hk 3 (by omega)).trans p1⟩,⟨d2,(hk 7 (by omega)).trans p2⟩⟩
    ·intro l' hl' k H n hk hn ⟨p0,p1,p2⟩
     have hll:l=l':=by show(iM u most.toNat).getD []=l';rw[hl'];rfl
     rw[hll] at p1 p2
     obtain⟨hf,hlm,_⟩:=mD hu hr (by omega) hl'
     refine(FW hr hf (by omega) hk (ub:=0) (ob:=3) (o:=7) (by omega) (by omega) (by omega) (by omega) p0 p1 p2).mono ?_
     rintro _ H' n' ⟨s1,s2,s3,s4⟩
     obtain⟨d0,p0⟩:=p0
     refine⟨⟨⟨d0,(s4 0 (by omega) (by omega) (by omega)).trans p0⟩, ?_, ?_⟩,s3,fun y y1 y2=>s4 y y2 (by omega) (by omega)⟩
     ·rw[hll];exact s1
     ·rw[hll];exact s2
   rintro r H' n' ⟨hn,hA⟩
   revert hA
   unfold yS
   cases hs:iM u most.toNat with
   |none=>rw[hs] at h0;cases h0
   |some l'=>
    rintro⟨rfl,⟨d0,p0⟩,⟨d1,p1⟩,p2⟩
    have hll:l=l':=by show(iM u most.toNat).getD []=l';rw[hs];rfl
    rw[hll] at p1 p2
    obtain⟨hf,hlm,_⟩:=mD hu hr (by omega) hs
    have hin:=vv hr hf (by omega) l'.length
    have hlen:=mM u l' l'.length
    refine ca ?_
    refine aJ (wj 7 (dn u l' l'.length) hin (by omega) _ _ p2 cZ) ?_
    rintro r H3 n3 ⟨⟨d5,r5⟩,hn3,hk3⟩
    have r6:=(hk3 3 cZ (by omega)).trans p1
    have hsl:(gP gk (dn u l' l'.length)).length=(dn u l' l'.length).length:=oY _ _
    refine ca ?_
    rw[<-hsl]
    refine aJ (vI 7 (gP gk (dn u l' l'.length)) (by omega) (fun e he=>hin e ((mf _ _).mem_iff.1 he)) _ _ cZ ⟨d5,r5⟩) ?_
    rintro r H4 n4 ⟨b,rfl,hb,hbn,hn4,⟨d6,r6⟩,hk4⟩
    refine ca ?_
    dsimp only
    have hE:ir u l'=mI (gP gk (dn u l' l'.length)) (gP gk (dn u l' l'.length)).length:=by rw[hsl];rfl
    rw[hE]
    exact⟨⟨b,d6,rfl,cE⟩⟩
  ·rw[mC hr hm] at h0;cases h0
 ·rw[pk hr] at h0;cases h0
def vM (f:dC->Bool):List dC->Nat->Int
 |[],_=>-1
 |e::l,k=>if f e=true then k else vM f l (k+1)
theorem uI (f:dC->Bool):∀(l:List dC) (k:Nat),vM f l k=-1/\(∀x∈l,f x=false)\/∃i:Nat,vM f l k=(k+i:Nat)/\i<l.length/\(∀x∈l.take i,f x=false)/\f (l.getD i default)=true
 |[],k=> .inl ⟨rfl,fun x hx=>by cases hx⟩
 |e::l,k=>by
  rw[vM]
  split
  ·rename_i h
   exact .inr ⟨0,rfl,by simp,by simp,h⟩
  ·rename_i h
   simp only[Bool.not_eq_true] at h
   rcases uI f l (k+1) with⟨h1,h2⟩|⟨i,h1,h2,h3,h4⟩
   ·refine .inl ⟨h1,fun x hx=> ?_⟩
    rcases List.mem_cons.1 hx with rfl|hx
    ·exact h
    ·exact h2 x hx
   ·refine .inr ⟨i+1,by rw[h1];congr 1;omega,by simpa using h2,fun x hx=> ?_,h4⟩
    rw[List.take_succ_cons] at hx
    rcases List.mem_cons.1 hx with rfl|hx
    ·exact h
    ·exact h3 x hx
theorem IQ (f:dC->Bool) {l:List dC} {i:Nat} (h:i<l.length) (k:Nat):vM f (l.drop i) k=if f (l.getD i default)=true then(k:Int) else vM f (l.drop (i+1)) (k+1):=by
 rw[List.drop_eq_getElem_cons h,vM,show l.getD i default=l[i] by simp[List.getD,h]]
theorem qm (e:dC):Pure Tryz.prog 56 [e.av] (fun r=>r=bl e.ended):=by
 refine aG aAW rfl ?_
 refine ca ?_
 first|exact rfl|trivial
theorem zg (l:List dC) (hl:l.length<=65536):Pure Tryz.prog 99 [j1 l, .fn (.func 56) [] []] (fun r=>r=i64 (vM dC.ended l 0)):=by
 refine aG aAk rfl ?_
 refine ca ?_
 rw[List.length_map]
 refine aI (fun i:Nat=>[(0,j1 l),(1, .fn (.func 56) [] []),(7,i64 l.length),(8,i64 i)])
  (fun i H2 n=>i<=l.length/\vM dC.ended (l.drop i) i=vM dC.ended l 0) (fun i=>l.length - i) 0
  cJ ⟨Nat.zero_le _,rfl⟩ ?_
 rintro i H2 n ⟨hi,hix⟩
 have a0:(l.map dC.av).length=l.length:=List.length_map _
 by_cases hil:i<l.length
 ·have e0:∀d,(l.map dC.av).getD ((i:Int)).toNat d=(l.getD i default).av:=fun d=>by rw[Int.toNat_natCast];exact iR hil d
  rw[IQ _ hil] at hix
  have c0:=qm (l.getD i default)
  generalize l.getD i default=x at *
  cases hx:x.ended with
  |true=>
   rw[hx] at c0
   rw[if_pos hx] at hix
   rw[<-hix]
   refine ca ?_
   first|exact rfl|trivial
  |false=>
   rw[hx] at c0
   rw[if_neg (by rw[hx];simp)] at hix
   refine ca ?_
   exact⟨i+1,by omega,cJ,by omega,hix⟩
 ·obtain rfl:i=l.length:=by omega
  rw[List.drop_length] at hix
  rw[<-hix]
  refine ca ?_
  first|exact rfl|trivial
def nV (l:List dC):List dC:=l.filter fun e=> !e.ended
abbrev RZ:AV:= .fn (.func 56) [] []
theorem CH:Pure Tryz.prog 55 [.sc (.slice none 0 0),RZ] (fun r=>r= .sc (.slice none 0 0)):=by
 have c0:Pure Tryz.prog 99 [.sc (.slice none 0 0),RZ] (fun r=>r=i64 (-1)):=
  Pure.args (zg [] (by decide)) fun c=> .cons (dA.dY.ja c c 3 .any) (.cons (fun _ h=>h) .nil)
 refine aG YP rfl ?_
 refine ca ?_
 first|exact rfl|trivial
theorem KE {H:Hp} {b:Nat} {d:AV} {l:List dC} (h:cC H b=some (.row 105 3 d (l.map dC.av))):[AV.sl b l.length,RZ].map (dA.df H 6)=[j1 l,RZ]:=by
 show[dA.df H 6 (.sl b l.length),dA.df H 6 RZ]=_
 rw[dN (k:=5) h (by simp),cr _ (iS l),dX _ (show cP 0 RZ by simp[cP,cg])]
set_option maxHeartbeats 4000000 in
theorem yz {l:List dC} (hl:l.length<=65536) {b:Nat} {H:Hp} {nx:Nat} (hb:∃d,cC H b=some (.row 105 3 d (l.map dC.av))) (hlt:b<nx):
 cT Tryz.prog 55 [.sl b l.length,RZ] H nx (fun r H' n=>dA.df H' 5 r=j1 (nV l)/\∃b m,r= .sl b m\/∃q,r= .sv b m 0 q):=by
 obtain⟨d0,r0'⟩:=hb
 have a0:(l.map dC.av).length=l.length:=List.length_map _
 have ot:=uI dC.ended l 0
 refine aM YP rfl ?_
 refine ca ?_
 refine aW (zg l hl) (KE (d:=d0) cE) (by simp only[cg,cP];exact⟨iS l,⟨trivial,trivial⟩,trivial⟩) (by simp[fu]) ?_
 rcases ot with⟨h1,h2⟩|⟨i,h1,hil,h2,h3⟩
 ·rw[h1]
  refine ca ?_
  refine⟨?_,_,_, .inl rfl⟩
  have:nV l=l:=by
   unfold nV
   rw[List.filter_eq_self]
   intro e he
   rw[h2 e he];rfl
  rw[this]
  show dA.df _ 5 (.sl b l.length)=_
  rw[dN (k:=4) cE a0,cr _ (iS l)]
 ·rw[h1,Nat.zero_add]
  have hst:(l.take (i+1)).filter (fun e=> !e.ended)=l.take i:=by
   rw[List.take_succ_eq_append_getElem hil,List.filter_append]
   have e1:(l.take i).filter (fun e=> !e.ended)=l.take i:=by
    rw[List.filter_eq_self]
    intro e he
    rw[h2 e he];rfl
   have e2:l[i]=l.getD i default:=by simp[List.getD,hil]
   rw[e1,e2,List.filter_cons,h3]
   simp
  refine ca ?_
  refine aI (fun σ:Nat×Nat×List dC=>[(0, .sl b l.length),(1,RZ),(5,i64 σ.1),(6,i64 σ.2.1)])
   (fun σ H2 n=>σ.1+1<=σ.2.1/\σ.2.1<=l.length/\σ.2.2.length=l.length/\(∀q,σ.2.1<=q->σ.2.2.getD q default=l.getD q default)/\σ.2.2.take σ.1=(l.take σ.2.1).filter (fun e=> !e.ended)/\nx<=n/\(∃d,cC H2 b=some (.row 105 3 d (σ.2.2.map dC.av)))) (fun σ=>l.length - σ.2.1) (i,i+1,l)
   cJ ⟨Nat.le_refl _,by show i+1<=l.length;omega,rfl,fun _ _=>rfl,hst.symm,cZ,⟨_,cE⟩⟩ ?_
  clear r0' hst h1 h2 h3
  rintro⟨k,j,es⟩ H3 n ⟨hkj,hj,hel,hsame,hdd,hn,⟨d0,r0'⟩⟩
  dsimp only at hkj hj hel hsame hdd r0' ⊢
  have a1:(es.map dC.av).length=l.length:=by simp[hel]
  by_cases hjl:j<l.length
  ·have e0:∀d,(es.map dC.av).getD ((j:Int)).toNat d=(l.getD j default).av:=fun d=>by rw[Int.toNat_natCast,iR (by omega) d,hsame _ (by omega)]
   have e2:∀d,(es.map dC.av).getD ((k:Int)).toNat d=(es.getD k default).av:=fun d=>by rw[Int.toNat_natCast];exact iR (by omega) d
   have hnx:(l.take (j+1)).filter (fun e=> !e.ended)=(l.take j).filter (fun e=> !e.ended)++(if(l.getD j default).ended=true then[] else[l.getD j default]):=by
    rw[List.take_succ_eq_append_getElem hjl,List.filter_append,show l.getD j default=l[j] by simp[List.getD,hjl]]
    congr 1
    rw[List.filter_cons]
    cases l[j].ended<;>rfl
   have c0:=qm (l.getD j default)
   generalize l.getD j default=x at *
   cases hx:x.ended with
   |true=>
    rw[hx] at c0
    rw[if_pos hx,List.append_nil] at hnx
    refine ca ?_
    exact⟨(k,j+1,es),by dsimp only;omega,cJ,by dsimp only;omega,by dsimp only;omega,hel,fun q hq=>hsame q (by dsimp only at hq;omega),by dsimp only;rw[hnx];exact hdd,cZ,⟨d0,cE⟩⟩
   |false=>
    rw[hx] at c0
    rw[if_neg (by rw[hx];simp)] at hnx
    refine ca ?_
    refine⟨(k+1,j+1,es.set k x),by dsimp only;omega,cJ,by dsimp only;omega,by dsimp only;omega,by simp[hel],fun q hq=> ?_, ?_,cZ,⟨d0,by dsimp only;rw[List.map_set];exact cE⟩⟩
    ·have hq:j+1<=q:=hq
     dsimp only
     rw[getD_set_ne (by omega)];exact hsame q (by omega)
    ·dsimp only
     rw[hnx,lJ (by omega),hdd]
  ·obtain rfl:j=l.length:=by omega
   rw[List.take_length] at hdd
   refine ca ?_
   refine⟨?_,_,_, .inr ⟨_,rfl⟩⟩
   rw[Int.toNat_natCast]
   have hkl:k<=l.length:=by omega
   generalize hZ:List.replicate (l.length - k) (hP true [Value.slice none 0 0,Value.slice none 0 0,Value.bool false])=Z
   have hZl:Z.length=l.length - k:=by rw[<-hZ];simp
   have hr2:∀G:Hp,(∃d,cC G b=some (.row 105 3 d ((es.map dC.av).take k++Z++(es.map dC.av).drop (k+(l.length - k)))))->dA.df G 5 (.sv b l.length 0 (k - 0))=j1 (nV l):=by
    rintro G ⟨d,hG⟩
    rw[MF (k:=4) hG (by simp[hZl,hel];omega),List.drop_zero,Nat.sub_zero,List.append_assoc,List.take_append_of_le_length (by simp;omega),List.take_take,Nat.min_self,<-List.map_take,hdd,cr _ (iS _)]
    rfl
   exact hr2 _ ⟨d0,cE⟩
noncomputable def gM (u:cF) (most:Int):List dC:=if(eY u most).1=0 then nV (ir u (eY u most).2) else[]
theorem zA (u:cF) (l:List cm):(ir u l).length<=l.length:=Nat.le_trans (FT _ _) (mM u l l.length)
theorem FH {u:cF} (hu:u.Wf) {most:Int} (h0:(eY u most).1=0):cj u/\(1<=most/\most<=65536)/\∃l,iM u most.toNat=some l/\(eY u most).2=l:=by
 by_cases hr:cj u
 ·by_cases hm:1<=most/\most<=65536
  ·rw[pn hr hm] at h0 ⊢
   cases hs:iM u most.toNat with
   |none=>rw[hs] at h0;cases h0
   |some l=>exact⟨hr,hm,l,rfl,rfl⟩
  ·rw[mC hr hm] at h0;cases h0
 ·rw[pk hr] at h0;cases h0
theorem FG {u:cF} (hu:u.Wf) {most:Int} (h0:(eY u most).1=0):(eY u most).2.length<=65536:=by
 obtain⟨hr,hm,l,hs,he⟩:=FH hu h0
 obtain⟨_,h2,_⟩:=mD hu hr (by omega) hs
 rw[he];omega
theorem F1 (l:List dC) (e:Int):cP 0 (.dQ [j1 l,i64 e]):=by
 have:=iS l
 simp[cP,cg,this]
set_option maxHeartbeats 1000000 in
theorem yJ (u:cF) (hu:u.Wf) (most:Int):Pure Tryz.prog 23 [u.av,i64 most] (fun r=>r= .dQ [j1 (gM u most),i64 (eY u most).1]):=by
 have key:Pure Tryz.prog 23 [u.av,i64 most] (fun r=>r=if(eY u most).1=0 then .dQ [j1 (nV (ir u (eY u most).2)),i64 0] else .dQ [.sc (.slice none 0 0),i64 (eY u most).1]):=by
  by_cases h0:(eY u most).1=0
  ·rw[if_pos h0]
   have hll:=FG hu h0
   have hel:=zA u (eY u most).2
   have hen:=HJ u hu most h0
   have hfe:=iS (ir u (eY u most).2)
   generalize ir u (eY u most).2=es at *
   refine cz ?_ (F1 _ _)
   refine aM YJ rfl ?_
   refine ca ?_
   refine aJ (cT.MC (e:=105) (sz:=3) (es:=es.map dC.av) (cs:=[i64 0]) (by simp[kY]) (by rw[List.length_map];exact hen) hfe (by simp[cP,cg,cL])) ?_
   rintro _ H1 n1 ⟨rfl,rfl,rfl⟩
   rw[List.length_map]
   refine ca ?_
   refine aJ (yz (b:=5) (l:=es) (by omega) ⟨.any, ?_⟩ ?_) ?_
   ·exact cE
   ·exact cZ
   rintro r H2 n2 ⟨hfz,b,m,hform⟩
   rcases hform with rfl|⟨q,rfl⟩
   all_goals
    refine ca ?_
    refine⟨?_⟩
    show AV.dQ [dA.df _ 5 _,i64 0]=_
    exact congrArg (fun x=>AV.dQ [x,i64 0]) hfz
  ·rw[if_neg h0]
   have c0:=HK u hu most
   unfold vt at c0
   rw[if_neg h0] at c0
   have c1:=CH
   generalize (eY u most).1=er at *
   refine aG YJ rfl ?_
   refine ca ?_
   first|exact rfl|trivial
 refine iH key (F1 _ _) fun c=> ?_
 unfold gM
 by_cases h0:(eY u most).1=0
 ·rw[if_pos h0,if_pos h0,h0];exact fun _ h=>h
 ·rw[if_neg h0,if_neg h0]
  exact dY.dQ (.cons (dY.ja _ _ _ _) (.cons (fun _ h=>h) .nil))
theorem xZ (l:List dC):∀k,∀e∈mI l k,∃j,j<k/\e=l.getD j default
 |0,e,h=>by simp[mI] at h
 |1,e,h=>by simp only[mI,List.mem_cons,List.not_mem_nil,or_false] at h;exact⟨0,by omega,h⟩
 |k+2,e,h=>by
  rw[mI] at h
  split at h
  ·obtain⟨j,h1,h2⟩:=xZ l (k+1) e h
   exact⟨j,by omega,h2⟩
  ·rcases List.mem_append.1 h with h|h
   ·obtain⟨j,h1,h2⟩:=xZ l (k+1) e h
    exact⟨j,by omega,h2⟩
   ·simp only[List.mem_cons,List.not_mem_nil,or_false] at h
    exact⟨k+1,by omega,h⟩
theorem sg (l:List dC):∀k j,j<k->l.getD j default∈mI l k
 |0,j,h=>by omega
 |1,j,h=>by
  obtain rfl:j=0:=by omega
  simp[mI]
 |k+2,j,h=>by
  rw[mI]
  split
  ·rename_i e
   by_cases hj:j=k+1
   ·rw[hj,e];exact sg l (k+1) k (by omega)
   ·exact sg l (k+1) j (by omega)
  ·by_cases hj:j=k+1
   ·rw[hj];exact List.mem_append.2 (.inr (by simp))
   ·exact List.mem_append.2 (.inl (sg l (k+1) j (by omega)))
theorem xy {α:Type} {R:α->α->Prop} {l:List α} (h:l.Pairwise R) (d:α) {i j:Nat} (hi:i<j) (hj:j<l.length):R (l.getD i d) (l.getD j d):=by
 have:=List.pairwise_iff_getElem.1 h i j (by omega) hj hi
 simpa[List.getD,hj,show i<l.length by omega] using this
theorem pH {l:List dC} (h:l.Pairwise fun x y=>wX gk x y=true):∀k,k<=l.length->(mI l k).Pairwise fun x y=>gk x y<0
 |0,_=>by simp[mI]
 |1,_=>by simp[mI]
 |k+2,hk=>by
  rw[mI]
  split
  ·exact pH h (k+1) (by omega)
  ·rename_i hne
   refine List.pairwise_append.2 ⟨pH h (k+1) (by omega),by simp,fun a ha b hb=> ?_⟩
   simp only[List.mem_cons,List.not_mem_nil,or_false] at hb
   subst hb
   obtain⟨j,hj,rfl⟩:=xZ l _ a ha
   have h1:=xy h default (i:=j) (j:=k+1) (by omega) (by omega)
   have h2:wX gk (l.getD j default) (l.getD k default)=true:=by
    by_cases e:j=k
    ·rw[e];simp[wX,(kU.zero _ _).2 rfl]
    ·exact xy h default (by omega) (by omega)
   have h3:=xy h default (i:=k) (j:=k+1) (by omega) (by omega)
   have h4:gk (l.getD j default) (l.getD (k+1) default)≠0:=fun e=>by
    have e1:=(kU.zero _ _).1 e
    rw[<-e1] at h3
    have:=kU.F8 h3 h2
    exact hne (by rw[this,<-e1])
   simp only[wX,decide_eq_true_eq] at h1
   omega
theorem CM {u:cF} {l:List cm} {e:dC}:e∈dn u l l.length↔∃i,i<l.length/\(l.getD i default).m.stuck u=true/\e=(l.getD i default).m.end_ u:=by
 unfold dn
 rw[List.take_length,List.mem_filterMap]
 constructor
 ·rintro⟨f,hf,he⟩
  obtain⟨i,hi,rfl⟩:=List.mem_iff_getElem.1 hf
  split at he
  ·rename_i hs
   cases he
   refine⟨i,hi, ?_⟩
   rw[show l.getD i default=l[i] by simp[List.getD,hi]]
   exact⟨hs,rfl⟩
  ·cases he
 ·rintro⟨i,hi,hs,rfl⟩
  refine⟨l.getD i default,cQ default hi, ?_⟩
  rw[if_pos hs]
theorem vu {u:cF} {l:List cm} {e:dC}:e∈ir u l↔e∈dn u l l.length:=by
 have hp:=mf gk (dn u l l.length)
 unfold ir
 constructor
 ·intro h
  obtain⟨j,hj,rfl⟩:=xZ _ _ _ h
  exact hp.mem_iff.1 (cQ default (by rw[hp.length_eq];exact hj))
 ·intro h
  obtain⟨j,hj,rfl⟩:=List.mem_iff_getElem.1 (hp.mem_iff.2 h)
  have:=sg (gP gk (dn u l l.length)) (dn u l l.length).length j (by rw[<-hp.length_eq];exact hj)
  rwa[show(gP gk (dn u l l.length)).getD j default=(gP gk (dn u l l.length))[j] by simp[List.getD,hj]] at this
theorem x7 (u:cF) (l:List cm):(ir u l).Pairwise fun x y=>gk x y<0:=by
 unfold ir
 refine pH (kU.sorted _) _ ?_
 rw[oY]
 exact Nat.le_refl _
theorem IT {l l':List cm} (h:l<+:l') {k:List UInt8} (hk:k∈kJ l):k∈kJ l':=by
 obtain⟨t,rfl⟩:=h
 simp only[kJ,List.map_append,List.mem_append]
 exact .inl hk
theorem MI {l l':List cm} (h:l<+:l') {k:Nat} (hk:k<l.length):l'.getD k default=l.getD k default:=by
 obtain⟨t,rfl⟩:=h
 simp[List.getD,List.getElem?_append,hk]
def FC (u:cF) (l:List cm) (k t:Nat):Prop:=(l.getD k default).m.ly u t=0->ij ((l.getD k default).m.step u t).1∈kJ l
theorem FC.pre {u:cF} {l l':List cm} {k t:Nat} (h:FC u l k t) (hk:k<l.length) (hp:l<+:l'):FC u l' k t:=by
 unfold FC at *
 rw[MI hp hk]
 exact fun hb=>IT hp (h hb)
end Go.Proofs.YtjopoheligmmoaaGreatDoor
namespace Go.Proofs.YtjopoheligmmoaaGreatDoor
open Go Go.dA Go.Proofs
open Go.Lib (decDigits itoa)
set_option linter.unusedSimpArgs false
set_option linter.unusedVariables false
end Go.Proofs.YtjopoheligmmoaaGreatDoor
namespace Go.Proofs.YtjopoheligmmoaaGreatDoor
open Go Go.dA Go.Proofs
set_option linter.unusedSimpArgs false
set_option linter.unusedVariables false
set_option maxRecDepth 8000
theorem QB {u:cF} {l:List cm} {e:dC} (h:e∈ir u l):∃i,i<l.length/\fk u l e l.length=some i/\(l.getD i default).m.stuck u=true/\(l.getD i default).m.end_ u=e:=by
 obtain⟨i,hi,h1,h2⟩:=CM.1 (vu.1 h)
 cases hh:fk u l e l.length with
 |none=>
  exfalso
  unfold fk at hh
  have:=List.find?_eq_none.1 hh i (List.mem_range.2 hi)
  rw[h1,h2,(kU.zero _ _).2 rfl] at this
  simp at this
 |some j=>
  refine⟨j,M5 hh,rfl, ?_⟩
  unfold fk at hh
  have:=List.find?_some hh
  simp only[Bool.and_eq_true,decide_eq_true_eq] at this
  exact⟨this.1,(kU.zero _ _).1 this.2⟩
theorem B8 (a b:List Int) (ha:a.length<9223372036854775807):Pure Tryz.prog 63 [c8 a,c8 b] (fun r=>r=i64 (fK fI a b)):=by
 refine aG aA1 rfl ?_
 refine ca ?_
 rw[List.length_map]
 refine aI (fun i:Nat=>[(0,c8 a),(1,c8 b),(9,c8 a),(10,i64 a.length),(11,i64 i)]) (fun i H n=>i<=a.length/\i<=b.length/\fK fI a b=fK fI (a.drop i) (b.drop i)) (fun i=>a.length - i) 0 cJ ⟨Nat.zero_le _,Nat.zero_le _,rfl⟩ ?_
 rintro i H n ⟨hi,hib,ho⟩
 rw[ho]
 have a0:(a.map i64).length=a.length:=by simp
 have a1:(b.map i64).length=b.length:=by simp
 by_cases hil:i<a.length
 ·have e0:=fun d=>ints_at hil d
  by_cases hbl:i<b.length
  ·have e1:=fun d=>ints_at hbl d
   have hd:=xV fI 0 hil hbl
   have c0:=tS (a.getD i 0) (b.getD i 0)
   generalize a.getD i 0=p at *
   generalize b.getD i 0=q at *
   by_cases hz:fI p q=0
   ·have r0:=hz
    rw[if_pos hz] at hd
    refine ca ?_
    exact⟨i+1,by omega,cJ,by omega,by omega,hd⟩
   ·have r0:=decide_eq_true hz
    rw[if_neg hz] at hd
    refine ca ?_
    rw[hd]
  ·rw[tW fI hil (by omega)]
   refine ca ?_
   first|exact rfl|trivial
 ·obtain rfl:i=a.length:=by omega
  rw[tU fI (Nat.le_refl _) hib]
  by_cases h:a.length<b.length
  ·rw[if_pos h]
   refine ca ?_
   first|exact rfl|trivial
  ·rw[if_neg h]
   refine ca ?_
   first|exact rfl|trivial
def HA (a b:List Int):Int:=u0 [fI a.length b.length,fK fI a b]
theorem HB (a b:List Int) (ha:a.length<9223372036854775807) (hb:b.length<9223372036854775807):Pure Tryz.prog 60 [c8 a,c8 b] (fun r=>r=i64 (HA a b)):=by
 have e:HA a b=u0 [fI ((a.map i64).length:Int) ((b.map i64).length:Int),fK fI a b]:=by
  unfold HA;rw[List.length_map,List.length_map]
 rw[e]
 have c0:=tS ((a.map i64).length:Int) ((b.map i64).length:Int)
 have c1:=B8 a b ha
 have c2:=xw [fI ((a.map i64).length:Int) ((b.map i64).length:Int),fK fI a b] (by simp)
 refine aG aAZ rfl ?_
 refine ca ?_
 refine aW (args2:=[c8 [fI ((a.map i64).length:Int) ((b.map i64).length:Int),fK fI a b]]) (r:=i64 (u0 [fI ((a.map i64).length:Int) ((b.map i64).length:Int),fK fI a b])) c2 rfl (by simp[cg,cP]) trivial ?_
 refine ca ?_
 first|exact rfl|trivial
def xm (w:List Int):List (List Int)->List Int
 |[]=>w
 |x::r=>xm (if HA x w<0 then x else w) r
abbrev clW:AV:= .fn (.func 60) [] []
abbrev lK (l:List (List Int)):List AV:=l.map c8
theorem GS {l:List (List Int)} {i:Nat} (h:i<l.length) (d:AV):(lK l).getD i d=c8 (l.getD i []):=dI c8 l i d h
theorem I8 {l:List (List Int)} {i:Nat} (h:i<l.length) (w:List Int):xm w (l.drop i)=xm (if HA (l.getD i []) w<0 then l.getD i [] else w) (l.drop (i+1)):=by
 rw[List.drop_eq_getElem_cons h,xm,show l.getD i []=l[i] by simp[List.getD,h]]
set_option maxHeartbeats 2000000 in
theorem NR {l:List (List Int)} (h0:0<l.length) (hl:l.length<=65536) (hw:∀w∈l,w.length<=1048576) {b:Nat} {H:Hp} {nx:Nat} (hb:∃d,cC H b=some (.row 31 1 d (lK l))) (hlt:b<nx):
 cT Tryz.prog 59 [.sl b l.length,clW] H nx (fun r H' n=>r=c8 (xm (l.getD 0 []) (l.drop 1))):=by
 obtain⟨d0,r0'⟩:=hb
 have a0:(lK l).length=l.length:=List.length_map _
 have e0:∀d,(lK l).getD (0:Int).toNat d=c8 (l.getD 0 []):=fun d=>GS h0 d
 refine aM aAY rfl ?_
 refine ca ?_
 clear e0
 refine aI (fun σ:Nat×List Int=>[(0, .sl b l.length),(1,clW),(5,c8 σ.2),(6,i64 σ.1)])
  (fun σ H2 n=>σ.1<=l.length/\σ.2.length<=1048576/\xm σ.2 (l.drop σ.1)=xm (l.getD 0 []) (l.drop 1)/\nx<=n/\cC H2 b=some (.row 31 1 d0 (lK l))) (fun σ=>l.length - σ.1) (1,l.getD 0 [])
  cJ ⟨by show 1<=l.length;omega,hw _ (cQ [] h0),rfl,cZ,cE⟩ ?_
 clear r0'
 rintro⟨i,w⟩ H2 n ⟨hi,hwl,hm,hn,r0'⟩
 dsimp only at hi hwl hm ⊢
 by_cases hil:i<l.length
 ·have e0:∀d,(lK l).getD ((i:Int)).toNat d=c8 (l.getD i []):=fun d=>by rw[Int.toNat_natCast];exact GS hil d
  have hxl:=hw _ (cQ [] hil)
  rw[I8 hil] at hm
  generalize l.getD i []=x at *
  have c0:=HB x w (by omega) (by omega)
  by_cases hc:HA x w<0
  ·rw[if_pos hc] at hm
   have r1:=decide_eq_true hc
   refine ca ?_
   exact⟨(i+1,x),by dsimp only;omega,cJ,by dsimp only;omega,hxl,hm,cZ,cE⟩
  ·rw[if_neg hc] at hm
   have r1:=decide_eq_false hc
   refine ca ?_
   exact⟨(i+1,w),by dsimp only;omega,cJ,by dsimp only;omega,hwl,hm,cZ,cE⟩
 ·obtain rfl:i=l.length:=by omega
  rw[List.drop_length,xm] at hm
  refine ca ?_
  exact⟨by rw[<-hm]⟩
theorem LA {u:cF} {l:List cm} (hf:jX u l):∀i,i<l.length->(om l i).length<=i:=by
 intro i
 induction i using Nat.strongRecOn with
 |_ i ih=>
  intro hi
  by_cases h0:i=0
  ·subst h0
   rw[vi (by rw[hf.first];show ¬(0:Int)<=-1;omega)]
   exact Nat.le_refl _
  ·obtain⟨k,t,h1,h2,h3,h4⟩:=hf.LG i (by omega) hi
   have hfr:(l.getD i default).from_=k:=by rw[h4]
   rw[yi hf hi (by rw[hfr];omega),hfr,Int.toNat_natCast,List.length_cons]
   have:=ih k h1 (by omega)
   omega
theorem J6 {u:cF} (hu:u.Wf) {most:Int} (h0:(eY u most).1=0) {e:dC} (he:e∈gM u most):∃i,i<(eY u most).2.length/\fk u (eY u most).2 e (eY u most).2.length=some i/\((eY u most).2.getD i default).m.stuck u=true/\((eY u most).2.getD i default).m.end_ u=e/\e.ended=false:=by
 unfold gM at he
 rw[if_pos h0] at he
 obtain⟨h1,h2⟩:=List.mem_filter.1 he
 obtain⟨i,g1,g2,g3,g4⟩:=QB h1
 exact⟨i,g1,g2,g3,g4,by simpa using h2⟩
theorem PG {u:cF} (hu:u.Wf) {most:Int} (h0:(eY u most).1=0):cj u/\jX u (eY u most).2/\(eY u most).2.length<=65536:=by
 obtain⟨hr,hm,l,hs,he⟩:=FH hu h0
 obtain⟨hf,h2,_⟩:=mD hu hr (by omega) hs
 rw[he]
 exact⟨hr,hf,by omega⟩
noncomputable def qt (u:cF) (most:Int) (e:dC):List Int:=kx (eY u most).2 (fk u (eY u most).2 e (eY u most).2.length)
theorem KG {u:cF} (hu:u.Wf) {most:Int} (h0:(eY u most).1=0) {e:dC} (he:e∈gM u most):Pure Tryz.prog 58 [u.av,i64 most,e.av] (fun r=>r= .dQ [c8 (qt u most e),bl true,i64 0])/\(qt u most e).length<=65536:=by
 obtain⟨hr,hf,hl⟩:=PG hu h0
 obtain⟨i,g1,g2,g3,g4,g5⟩:=J6 hu h0 he
 obtain⟨q1,q2⟩:=hf.ok i g1
 have hm:=q1.ml
 have hs:=hr.qD
 have c:=O2 u hu most e (by rw[<-g4];show(((eY u most).2.getD i default).m.cW).length * 16<=_;omega) (by rw[<-g4];show(((eY u most).2.getD i default).m.mem).length * 8<=_;omega)
 unfold wv at c
 rw[if_pos h0,g2] at c
 refine⟨?_, ?_⟩
 ·unfold qt;rw[g2];exact c
 ·unfold qt;rw[g2]
  show((om _ i).reverse).length<=_
  have:=LA hf i g1
  rw[List.length_reverse];omega
noncomputable def wy (u:cF) (most:Int):List (List Int):=(gM u most).map (qt u most)
noncomputable def yN (u:cF) (most:Int):List Int:=xm ((wy u most).getD 0 []) ((wy u most).drop 1)
theorem E0 {u:cF} (hu:u.Wf) {most:Int} (h0:(eY u most).1=0):(gM u most).length<=65536:=by
 have hll:=FG hu h0
 have hel:=zA u (eY u most).2
 unfold gM;rw[if_pos h0]
 exact Nat.le_trans (List.length_filter_le _ _) (by omega)
theorem jy (l:List Int) (b:Bool) (e:Int):cP 0 (.dQ [c8 l,bl b,i64 e]):=by
 simp[cP,cg,cL]
set_option maxHeartbeats 2000000 in
theorem O1 (u:cF) (hu:u.Wf) (most:Int) (h0:(eY u most).1=0) (hne:gM u most≠[]):Pure Tryz.prog 25 [u.av,i64 most] (fun r=>r= .dQ [c8 (yN u most),bl true,i64 0]):=by
 have c0:=yJ u hu most
 rw[h0] at c0
 have hsl:=E0 hu h0
 have hwp:=fun e he=>KG (e:=e) hu h0 he
 have hpos:0<(gM u most).length:=List.length_pos_iff.2 hne
 unfold yN wy
 generalize gM u most=es at *
 have a0:(es.map dC.av).length=es.length:=List.length_map _
 refine cz ?_ (jy _ _ _)
 refine aM TV rfl ?_
 refine ca ?_
 simp only[List.length_map]
 refine aV (fun i:Nat=>[(2, .pt 0 1 0 0),(1,i64 most),(9, .sl 17 i),(24,j1 es),(25,i64 es.length),(26,i64 i)])
  (fun i H n=>i<=es.length/\18<=n/\(∃d,cC H 0=some (.row 25 3 d [u.av]))/\∃d,cC H 17=some (.row 31 1 d (lK ((es.take i).map (qt u most))))) (fun i=>es.length - i) 0
  ⟨_,_,_,Rt.nil 9 31 1 (by omega) rfl,cJ,Nat.zero_le _,cZ,⟨_,cE⟩,⟨_,cE⟩⟩ ?_
 rintro i H n ⟨hi,hn,⟨d0,r0⟩,⟨d1,r1⟩⟩
 have a1:(lK ((es.take i).map (qt u most))).length=i:=by
  unfold lK;rw[List.length_map,List.length_map,List.length_take];omega
 by_cases hil:i<es.length
 ·have e0:∀d,(es.map dC.av).getD ((i:Int)).toNat d=(es.getD i default).av:=fun d=>by rw[Int.toNat_natCast];exact iR hil d
  have hmem:=cQ (default:dC) hil
  obtain⟨c1,hwl⟩:=hwp _ hmem
  have hnx:(es.take (i+1)).map (qt u most)=(es.take i).map (qt u most)++[qt u most (es.getD i default)]:=by
   rw[List.take_succ_eq_append_getElem hil,List.map_append];simp[List.getD,hil]
  refine ca ?_
  exact⟨i+1,by omega,_,_,_,Rt.refl _ _ _,cJ,by omega,cZ,⟨_,cE⟩,⟨_,by rw[hnx];unfold lK;rw[List.map_append];exact cE⟩⟩
 ·obtain rfl:i=es.length:=by omega
  rw[List.take_length] at r1
  have hlen:(es.map (qt u most)).length=es.length:=List.length_map _
  have hmin:=fun(H:Hp) (nx:Nat)=>NR (H:=H) (nx:=nx) (l:=es.map (qt u most)) (b:=17) (by omega) (by omega) (fun w hw=>by
   obtain⟨e,he,rfl⟩:=List.mem_map.1 hw
   have:=(hwp e he).2
   omega)
  rw[hlen] at hmin
  refine ca ?_
  refine aJ (hmin _ _ ⟨d1, ?_⟩ cZ) ?_
  ·exact cE
  rintro _ H2 n2 rfl
  refine ca ?_
  exact⟨rfl⟩
theorem aAv (u:cF) (hu:u.Wf) (most:Int):Pure Tryz.prog 25 [u.av,i64 most] (fun r=>r= .dQ [c8 (yN u most),bl (decide (gM u most≠[])),i64 (eY u most).1]):=by
 by_cases h0:(eY u most).1=0
 ·by_cases hne:gM u most=[]
  ·have c0:=yJ u hu most
   rw[hne,h0] at c0
   have hw:yN u most=[]:=by unfold yN wy;rw[hne];rfl
   rw[hw,h0,decide_eq_false (fun h=>h hne)]
   have key:Pure Tryz.prog 25 [u.av,i64 most] (fun r=>r= .dQ [.sc (.slice none 0 0),bl false,i64 0]):=by
    refine aG TV rfl ?_
    refine ca ?_
    refine aI (fun _:Nat=>[(9, .sc (.slice none 0 0)),(25,i64 0),(26,i64 0)]) (fun _ H n=>True) (fun _=>0) 0 cJ trivial ?_
    rintro _ H n _
    refine ca ?_
    first|exact rfl|trivial
   refine iH key (jy _ _ _) fun c=>dY.dQ (.cons (dY.ja _ _ _ _) (.cons (fun _ h=>h) (.cons (fun _ h=>h) .nil)))
  ·rw[h0,decide_eq_true hne]
   exact O1 u hu most h0 hne
 ·have hs:gM u most=[]:=by unfold gM;rw[if_neg h0]
  have hw:yN u most=[]:=by unfold yN wy;rw[hs];rfl
  rw[hw,decide_eq_false (fun h=>h hs)]
  have c0:=yJ u hu most
  have key:Pure Tryz.prog 25 [u.av,i64 most] (fun r=>r= .dQ [.sc (.slice none 0 0),bl false,i64 (eY u most).1]):=by
   generalize gM u most=es at *
   generalize (eY u most).1=er at *
   refine aG TV rfl ?_
   refine ca ?_
   first|exact rfl|trivial
  refine iH key (jy _ _ _) fun c=>dY.dQ (.cons (dY.ja _ _ _ _) (.cons (fun _ h=>h) (.cons (fun _ h=>h) .nil)))
end Go.Proofs.YtjopoheligmmoaaGreatDoor
namespace Go.dA
open Go.RowKit
set_option linter.unusedSimpArgs false
set_option linter.unusedVariables false
theorem cT.TJ {P:Program} {f:FuncId} {args args2:List AV} {e:TypeId} {sz:Nat} {es cs:List AV} (ot:kY cs) (h:cT P f args2 [] 0 (fun r1 H1 _=>∃b d0,r1= .dQ (.sl b es.length::cs)/\cC H1 b=some (.row e sz d0 es))) (hfl:∀i,i<es.length->fu (es.getD i .any)) (d:AV) {H:Hp} {id:Nat} (ha:args.map (df H 6)=args2) (hfa:cg 0 args2):
 kS P f args H id (fun r' H''=>r'= .dQ (.sl id es.length::cs)/\H''=dW H (some (id, .row e sz d es))):=by
 refine⟨h.1,fun w0 c vs hS hH hid hv=> ?_⟩
 have hS0:du c.w ⟨fun _=>none,cC [],fun _=>False,c.w,c.M0⟩:=⟨Below.refl _ _,hS.lW,fun b e sz d es he=>by simp[cC] at he,fun b b' k k' blk o z o' z' hk=>by simp[cC] at hk⟩
 subst ha
 have hv':ct ⟨fun _=>none,cC [],fun _=>False,c.w,c.M0⟩ (args.map (df H 6)) vs:=jz hS hH hfa hv
 refine(h.2 c.w _ vs hS0 rfl (fun _ h=>h.elim) hv').mono ?_
 rintro en w' ⟨v,r1,H1,nx',ρ,U,he,⟨b,d0,rfl,hb⟩,hU,hS',_,hvr⟩
 rw[VR] at hvr
 obtain⟨us,hus,hvr⟩:=hvr
 rw[ct] at hvr
 obtain⟨x,v3,hx3,hvr,hv3⟩:=hvr
 rw[VR] at hvr
 obtain⟨_,ad,cap,hvv,hrr⟩:=hvr
 obtain⟨_,hr2⟩:=hrr _ _ _ _ hb
 have hr3:=hr2 rfl
 obtain⟨_,hz,hor⟩:=hS'.jo b _ _ _ _ hb (sa hr3)
 have hbel:=hS'.below
 obtain⟨s1,s2⟩:=hS.world hbel
 have hHeq:cC (dW H (some (id, .row e sz d es)))=fR c.H id (some (.row e sz d es)):=by rw[dh,hH]
 have fin:∀c2:Cx,VR c2 (.sl id es.length) x->VR c2 (.dQ (.sl id es.length::cs)) v:=fun c2 h2=>by
  rw[VR]
  refine⟨us,hus, ?_⟩
  rw[hx3,ct]
  exact⟨x,v3,rfl,h2,lX ot hv3⟩
 rcases hor with⟨h0,hes⟩|⟨blk,o,z,hρ,hlow,⟨arr,harr,hsz⟩,hlz,hrow⟩
 ·subst hes
  obtain⟨p1,p2⟩:=s1.DZ (b:=id) (e:=e) (sz:=sz) d hz hid
  refine⟨v,_,_,fR c.ρ id none,he,⟨rfl,rfl⟩, ?_, ?_,fin _ ?_⟩
  ·rw[hHeq];exact p1
  ·rw[hHeq];exact s2.trans p2
  ·rw[hHeq,VR]
   refine⟨.inr rfl,ad,cap,hvv,fun e' sz' d' es' he'=> ?_⟩
   simp only[jJ,dS,Option.some.injEq,fD.row.injEq] at he'
   obtain⟨rfl,rfl,rfl,rfl⟩:=he'
   refine⟨Nat.le_refl _,fun _=> .inl ⟨by simp[jJ], ?_⟩⟩
   rcases hr3 with⟨_,h2,h3⟩|⟨blk,o,z,h2,_⟩
   ·exact⟨h2,h3⟩
   ·rw[h0] at h2;cases h2
 ·obtain⟨p1,p2⟩:=hS.p6 (b:=id) (e:=e) (sz:=sz) d (es:=es) (w':=w') (blk:=blk) (o:=o) (z:=z) hz (.inl hid) (.inl hlow) hbel.os hbel.tape hbel.output hbel.size (fun k hk _=>hbel.block k hk) harr hsz hlz (fun hle i hi=>by
   obtain⟨y,x1,x2⟩:=dv hrow i hi
   refine⟨y,x1,lY ?_ x2⟩
   have:=hfl i hi
   simpa[List.getD,hi] using this)
  refine⟨v,_,_,fR c.ρ id (some (blk,o,z)),he,⟨rfl,rfl⟩, ?_, ?_,fin _ ?_⟩
  ·rw[hHeq];exact p1
  ·rw[hHeq];exact p2
  ·rw[hHeq,VR]
   refine⟨.inr rfl,ad,cap,hvv,fun e' sz' d' es' he'=> ?_⟩
   simp only[jJ,dS,Option.some.injEq,fD.row.injEq] at he'
   obtain⟨rfl,rfl,rfl,rfl⟩:=he'
   refine⟨by omega,fun _=> .inr ⟨blk,o,z,by simp[jJ], ?_⟩⟩
   rcases hr3 with⟨h2,_,_⟩|⟨blk',o',z',h2,h3,h4,h5,h6⟩
   ·rw[hρ] at h2;cases h2
   ·rw[hρ] at h2;cases h2
    exact⟨h3,h4,h5,h6⟩
theorem cT.P6 {P:Program} {f:FuncId} {args args2:List AV} {e:TypeId} {sz:Nat} {es cs:List AV} (ot:kY cs) (h:cT P f args2 [] 0 (fun r1 H1 _=>∃b d0,r1= .dQ (.sl b es.length::cs)/\cC H1 b=some (.row e sz d0 es))) (hfl:∀i,i<es.length->fu (es.getD i .any)) {H:Hp} {nx:Nat} (ha:args.map (df H 6)=args2) (hfa:cg 0 args2):
 cT P f args H nx (fun r H' n=>r= .dQ (.sl nx es.length::cs)/\H'=(nx,some (.row e sz .any es))::H/\n=nx+1):=
 (kS.toN (h.TJ ot hfl .any ha hfa)).mono fun r H' n ⟨⟨h1,h2⟩,h3⟩=>⟨h1,h2,h3⟩
end Go.dA
namespace Go.Proofs.YtjopoheligmmoaaGreatDoor
open Go Go.dA Go.Proofs
set_option linter.unusedSimpArgs false
set_option linter.unusedVariables false
set_option maxRecDepth 8000
theorem EJ (l m:List Int) (hl:l.length * 8<=140737488351232) (hm:m.length * 8<=140737488351232):Pure Tryz.prog 44 [eP l,eP m] (fun r=>r=bl (decide (l=m))):=by
 refine aG YL rfl ?_
 unfold eP
 repeat' (first|refine aQ ?_|exact aC|with_reducible refine aB ?_ ?_|(apply aA;(·exact cK))|refine aH ?_|((with_reducible refine aE ?_ ?_)<;>intro hc<;>try(exfalso;omega)))
 ·refine dw (Eq.symm ?_)
  exact decide_eq_false fun e=>hc (by rw[e])
 ·have hlm:l.length=m.length:=by omega
  refine aI (fun i:Nat=>[(0,eP l),(1,eP m),(5,i64 i)])
   (fun i H n=>i<=l.length/\∀j,j<i->l.getD j 0=m.getD j 0) (fun i=>l.length - i) 0 cJ ⟨Nat.zero_le _,fun _ h=>by omega⟩ ?_
  unfold eP
  rintro i H n ⟨hi,hall⟩
  by_cases hil:i<l.length
  ·have e1:=lg (l:=l) hil
   have e2:=lg (l:=m) (i:=i) (by omega)
   repeat' (first|refine aQ ?_|exact aC|with_reducible refine aB ?_ ?_|(apply aA;(·(first|exact e1 _|exact e2 _|exact cK)))|refine aH ?_|((with_reducible refine aE ?_ ?_)<;>intro hc<;>try(exfalso;omega)))
   ·refine dw (Eq.symm ?_)
    exact decide_eq_false fun e=>hc (by rw[e])
   ·refine⟨i+1,by omega,cJ,by omega,fun j hj=> ?_⟩
    by_cases hji:j=i
    ·subst hji;exact hc
    ·exact hall j (by omega)
  ·have:i=l.length:=by omega
   subst this
   repeat' (first|refine aQ ?_|exact aC|with_reducible refine aB ?_ ?_|(apply aA;(·exact cK))|refine aH ?_|((with_reducible refine aE ?_ ?_)<;>intro hc<;>try(exfalso;omega)))
   refine dw (Eq.symm ?_)
   refine decide_eq_true (List.ext_getElem hlm fun j h1 h2=> ?_)
   have:=hall j h1
   simpa[List.getD,h1,h2] using this
theorem k8 (l m:List Int) (hl:l.length * 8<=140737488351232) (hm:m.length * 8<=140737488351232):Pure Tryz.prog 18 [c8 l,c8 m] (fun r=>r=bl (decide (l=m))):=by
 have c0:=EJ l m hl hm
 unfold eP at c0
 refine aG aAB rfl ?_
 refine ca ?_
 first|exact rfl|trivial
def VQ (k th nx o:Int):Node:=⟨k,0,0,th,⟨false,0,0⟩,⟨false,0,0⟩,nx,0,o⟩
def UW (name:List UInt8) (a b:Int):cG:=⟨⟨name.toArray⟩,0,0,[VQ 5 a 1 0,VQ 5 b 2 1,VQ 6 b 3 2,VQ 6 a 4 3,VQ 9 0 0 4]⟩
def nN:cF:=⟨[],[⟨⟨(List.toArray [108])⟩,0,0⟩,⟨⟨(List.toArray [109])⟩,0,0⟩],[UW [97] 0 1,UW [98] 1 0]⟩
theorem tZ (name:List UInt8) (a b:Int):Pure Tryz.prog 47 [.sc (.string ⟨(List.toArray name)⟩),i64 a,i64 b] (fun r=>r=(UW name a b).av):=by
 refine cz ?_ (by simp[cP,cL])
 refine aM aAU rfl ?_
 refine ca ?_
 exact⟨rfl⟩
theorem qA:cj nN:=jG.1 (by decide+kernel)
theorem yy:nN.Wf:=by
 have hd:∀d∈nN.cI,d.Wf:=fun d h=>by
  simp only[nN,List.mem_cons,List.not_mem_nil,or_false] at h
  rcases h with rfl|rfl<;>exact⟨by decide+kernel,by decide+kernel,by decide+kernel⟩
 refine⟨fun _ h=>by simp[nN] at h,by simp[nN],hd,by simp[nN],fun g hg=> ?_,by simp[nN]⟩
 simp only[nN,List.mem_cons,List.not_mem_nil,or_false] at hg
 rcases hg with rfl|rfl<;>
 ·refine⟨by decide+kernel,by decide+kernel,by decide+kernel,fun n hn=> ?_,by decide+kernel⟩
  simp only[UW,List.mem_cons,List.not_mem_nil,or_false] at hn
  rcases hn with rfl|rfl|rfl|rfl|rfl<;>
   exact⟨by decide+kernel,by decide+kernel,by decide+kernel,by decide+kernel,⟨by decide+kernel,by decide+kernel⟩,⟨by decide+kernel,by decide+kernel⟩,by decide+kernel,by decide+kernel,by decide+kernel⟩
theorem yx:dK nN=[⟨0,1,0,1⟩,⟨1,0,1,1⟩]:=by decide+kernel
theorem PW:fB nN=fun h=>if h=0 then[1] else if h=1 then[0] else[]:=by
 funext h
 unfold fB
 rw[yx]
 have e:je [⟨0,1,0,1⟩,⟨1,0,1,1⟩] h=if h=0 then[1] else if h=1 then[0] else[]:=by
  unfold je
  simp only[List.foldl_cons,List.foldl_nil]
  by_cases h0:h=0
  ·subst h0;simp
  ·by_cases h1:h=1
   ·subst h1;simp
   ·have e0:¬(0:Int)=h:=fun e=>h0 e.symm
    have e1:¬(1:Int)=h:=fun e=>h1 e.symm
    simp[h0,h1,e0,e1]
 rw[e]
 unfold eU
 split
 ·simp
 ·split<;>simp
theorem PX:jU nN=some [0,1]:=by
 unfold jU
 rw[PW]
 decide+kernel
theorem PV:uK nN (jT nN (eH nN) [0,1])=some [0,1]:=by decide+kernel
def O7:List cm:=(iM nN 99).getD []
theorem S7:iM nN 99=some O7:=by
 have h:(iM nN 99).isSome=true:=by decide+kernel
 unfold O7
 cases hs:iM nN 99 with
 |none=>rw[hs] at h;cases h
 |some l=>rfl
def UU:dC:=⟨[],[],false⟩
theorem PU:∀e∈dn nN O7 O7.length,e.ended=true\/e=UU:=by decide+kernel
theorem S8:UU∈dn nN O7 O7.length:=by decide+kernel
theorem S9:kx O7 (fk nN O7 UU O7.length)=[0,1]:=by decide+kernel
theorem FN:eY nN 99=(0,O7):=by rw[pn qA (by decide),show(99:Int).toNat=99 from rfl,S7]
theorem NM {u:cF} {l:List cm} {x:dC} (h:∀e∈dn u l l.length,e.ended=true\/e=x) (hx:x∈dn u l l.length) (hx2:x.ended=false):nV (ir u l)=[x]:=by
 have h1:=(x7 u l).filter fun e=> !e.ended
 change (nV (ir u l)).Pairwise _ at h1
 have h2:∀e,e∈nV (ir u l)↔e=x:=fun e=>by
  unfold nV
  rw[List.mem_filter,vu]
  constructor
  ·rintro⟨q1,q2⟩
   rcases h e q1 with h3|h3
   ·rw[h3] at q2;cases q2
   ·exact h3
  ·rintro rfl
   exact⟨hx,by rw[hx2];rfl⟩
 cases hl:nV (ir u l) with
 |nil=>exact absurd ((h2 x).2 rfl) (by rw[hl];simp)
 |cons a t=>
  rw[hl] at h1 h2
  have ha:=(h2 a).1 (by simp)
  subst ha
  cases t with
  |nil=>rfl
  |cons b t=>
   have hb:=(h2 b).1 (by simp)
   subst hb
   have:=(List.pairwise_cons.1 h1).1 b (by simp)
   rw[(kU.zero _ _).2 rfl] at this
   omega
theorem tY:gM nN 99=[UU]:=by
 unfold gM
 rw[FN]
 rw[if_pos rfl]
 exact NM PU S8 rfl
theorem PY:yN nN 99=[0,1]:=by
 unfold yN wy
 rw[tY]
 show qt nN 99 UU=[0,1]
 unfold qt
 rw[FN]
 exact S9
abbrev LN:AV:= .agg [.sc (.slice none 0 0),cq nN.cI,dy nN.cD]
theorem tX (c:Cx):dY c c LN nN.av:=dA.dY.agg (.cons (dA.dY.ja c c 3 .any) (.cons (fun _ h=>h) (.cons (fun _ h=>h) .nil)))
theorem SH (u:cF) (hu:u.Wf) (hr:cj u):Pure Tryz.prog 15 [u.av] (fun r=>r= .dQ [c8 ((jU u).getD []),bl (jU u).isSome,i64 0]):=by
 have key:Pure Tryz.prog 15 [u.av] (fun r=>r=match jU u with|none=> .dQ [.sc (.slice none 0 0),bl false,i64 0]|some w=> .dQ [c8 w,bl true,i64 0]):=by
  refine cz ((JR u hu hr).mono ?_) (by split<;>simp[cP,cg,cL])
  intro r H n h
  unfold KU at h
  cases hq:jU u with
  |none=>rw[hq] at h;dsimp only at h ⊢;rw[h];rfl
  |some w=>
   rw[hq] at h
   obtain⟨b,d,rfl,hb⟩:=h
   show AV.dQ [dA.df H 5 (.sl b w.length),bl true,i64 0]=_
   rw[dN (k:=4) hb (by simp),cr _ ((cL _ _).2 fun _ _=>by simp[cP])]
 refine iH key (jy _ _ _) fun c=> ?_
 cases jU u with
 |none=>exact dY.dQ (.cons (dY.ja _ _ _ _) (.cons (fun _ h=>h) (.cons (fun _ h=>h) .nil)))
 |some w=>exact fun _ h=>h
theorem LO {H:Hp} {nx:Nat} {b:Nat} (hb:∃d,cC H b=some (.row 3 1 d [i64 0,i64 1])):cT Tryz.prog 21 [LN, .sl b 2] H nx (fun r H' n=>r= .dQ [.sl nx 2,bl true,i64 0]/\H'=(nx,some (.row 3 1 .any [i64 0,i64 1]))::H/\n=nx+1):=by
 have h:=IU nN yy qA [0,1] (by decide)
 have h2:=cT.args (bs:=[LN,c8 [0,1]]) h fun c=> .cons (tX c) (.cons (fun _ h=>h) .nil)
 obtain⟨d,hb⟩:=hb
 refine cT.P6 (es:=[i64 0,i64 1]) (cs:=[bl true,i64 0]) (args2:=[LN,c8 [0,1]]) (by simp[kY]) (h2.mono ?_) ?_ ?_ ?_
 ·intro r H1 n1 hR
  unfold FB at hR
  rw[PV] at hR
  exact hR
 ·intro i hi
  match i,hi with
  |0,_=>trivial
  |1,_=>trivial
 ·show[dA.df H 6 LN,dA.df H 6 (.sl b [i64 0,i64 1].length)]=_
  rw[dX _ (show cP 0 LN by simp[cP,cg,cL]),dN (k:=5) hb rfl]
  rfl
 ·simp[cP,cg,cL]
theorem xY {H:Hp} {b:Nat} {d:AV} (hb:cC H b=some (.row 3 1 d [i64 0,i64 1])):dA.df H 6 (.sl b 2)=c8 [0,1]:=by
 show dA.df H 6 (.sl b [i64 0,i64 1].length)=_
 rw[dN (k:=5) hb rfl]
 rfl
theorem CG {H:Hp} {x y a b:AV} (h1:dA.df H 6 x=a) (h2:dA.df H 6 y=b):[x,y].map (dA.df H 6)=[a,b]:=by
 subst h1 h2
 rfl
theorem FO {H:Hp}:dA.df H 6 (c8 [0,1])=c8 [0,1]:=dX _ (by simp[cP,cg,cL])
theorem sE:Pure Tryz.prog 20 [] (fun r=>r=bl true):=by
 have c0:Pure Tryz.prog 47 [.sc (.string ⟨⟨[⟨⟨⟨97,by decide⟩⟩⟩]⟩⟩),i64 0,i64 1] (fun r=>r=(UW [97] 0 1).av):=tZ [97] 0 1
 have c1:Pure Tryz.prog 47 [.sc (.string ⟨⟨[⟨⟨⟨98,by decide⟩⟩⟩]⟩⟩),i64 1,i64 0] (fun r=>r=(UW [98] 1 0).av):=tZ [98] 1 0
 refine cz ?_ (by simp[cP])
 refine bD aAD rfl ?_
 refine WL.cut ?_
 refine ca ?_
 refine⟨_,_,_,Rt.refl _ _ _,WL.cut ?_⟩
 refine ca ?_
 refine⟨[(1, .pt 6 1 0 0)],_,_,Rt.trans (Rt.wk (Wk.ig (cb:=6) (ku [3,4] _) 5 .any rfl fun b q hq=>rz hq)) (Rt.less cJ),WL.last ?_⟩
 refine ak (b:=6) (q:=some (.row 25 3 .any [LN])) rfl ?_
 intro H2 r3
 have c0:Pure Tryz.prog 13 [LN] (fun r=>r= .dQ [eV (dK nN),i64 0]):=Pure.args (pK nN yy qA) fun c=> .cons (tX c) .nil
 have c1:Pure Tryz.prog 15 [LN] (fun r=>r= .dQ [c8 [0,1],bl true,i64 0]):=Pure.args (by have:=SH nN yy qA;rw[PX] at this;exact this) fun c=> .cons (tX c) .nil
 have c2:Pure Tryz.prog 25 [LN,i64 99] (fun r=>r= .dQ [c8 [0,1],bl true,i64 0]):=Pure.args (by have:=aAv nN yy 99;rw[PY,tY,FN] at this;exact this) fun c=> .cons (tX c) (.cons (fun _ h=>h) .nil)
 have c3:Pure Tryz.prog 23 [LN,i64 99] (fun r=>r= .dQ [j1 [UU],i64 0]):=Pure.args (by have:=yJ nN yy 99;rw[tY,FN] at this;exact this) fun c=> .cons (tX c) (.cons (fun _ h=>h) .nil)
 refine ca ?_
 refine aJ (LO ⟨_,cE⟩) ?_
 rintro _ H3 n3 ⟨rfl,rfl,rfl⟩
 rw[yx]
 refine ca ?_
 refine aW (args2:=[c8 [0,1],c8 [0,1]]) (k8 [0,1] [0,1] (by decide) (by decide)) (CG FO (xY cE)) (by simp[cg,cP,cL]) trivial ?_
 refine ca ?_
 refine aW (args2:=[c8 [0,1],c8 [0,1]]) (k8 [0,1] [0,1] (by decide) (by decide)) (CG (xY cE) (xY cE)) (by simp[cg,cP,cL]) trivial ?_
 refine ca ?_
 refine aW (args2:=[c8 [0,1],c8 [0,1]]) (k8 [0,1] [0,1] (by decide) (by decide)) (CG FO (xY cE)) (by simp[cg,cP,cL]) trivial ?_
 refine ca ?_
 first|exact rfl|exact⟨rfl⟩|trivial
structure SN (u:cF) (w:List Int):Prop where
 pos:0<w.length
 on:∀i,i<w.length->∃e∈dK u,e.held=w.getD i 0/\e.taken=w.getD ((i+1)%w.length) 0
 self:1<w.length->∀e∈dK u,e.held≠e.taken
 nd:w.Nodup
 least:∀i,i<w.length->w.getD 0 0<=w.getD i 0
 inn:∀x∈w,0<=x/\x<u.cI.length
theorem GK {u:cF} (hr:cj u) {w:List Int} (h:jU u=some w):SN u w:=by
 unfold jU at h
 obtain⟨f,h1,h2,h3⟩:=jw h
 have hin:∀x,∀y∈fB u x,0<=y/\y<(u.cI.length:Int):=fun x=>uM hr x
 obtain⟨p1,p2,p3,p4,p5⟩:=(iO (lead:=fB u) (n:=u.cI.length) (first:=(f:Int)) hin (by omega)).1 w h2
 have key:∀c,nE (fB u) c->0<=c.getD 0 0->c.getD 0 0<u.cI.length->w.length<=c.length/\(c.length<=w.length->(f:Int)<=c.getD 0 0):=fun c hc c0 c1=>by
  obtain⟨g,hg⟩:∃g:Nat,c.getD 0 0=g:=⟨(c.getD 0 0).toNat,by omega⟩
  have hs:=iO (lead:=fB u) (n:=u.cI.length) (first:=(g:Int)) hin (by omega)
  cases hb:mE (fB u) u.cI.length (g:Int) with
  |none=>exact absurd hg (hs.2 hb c hc)
  |some l=>
   have q1:=(hs.1 l hb).2.2.2.2 c hc hg
   have q2:=h3 g (by omega) l hb
   exact⟨by omega,fun hle=>by have:=q2.2 (by omega);omega⟩
 refine⟨p2.pos,fun i hi=> ?_,fun hlt e he hself=> ?_,p3,fun i hi=> ?_,p4⟩
 ·obtain⟨e,e1,e2,e3⟩:=oM.1 (p2.on i hi)
  exact⟨e,e1,e2,e3⟩
 ·have hin:=(qC hr he).1
  have hc:nE (fB u) [e.held]:=⟨by simp,fun i hi=>by
   have:i=0:=by simp at hi;omega
   subst this
   exact oM.2 ⟨e,he,rfl,by simpa using hself.symm⟩⟩
  have:=(key _ hc (by simpa using hin.1) (by simpa using hin.2)).1
  simp at this
  omega
 ·obtain⟨d,d1,d2,d3⟩:=p2.iX hi
  have hm:=p4 _ (cQ 0 hi)
  have:=(key d d1 (by rw[d2];exact hm.1) (by rw[d2];exact hm.2)).2 (by omega)
  rw[d2] at this
  rw[p1];exact this
theorem x6 {E:List dO} {j:Nat} (h:j<E.length) (d:AV):(E.map dO.av).getD j d=(E.getD j default).av:=dI dO.av E j d h
theorem N9 (u:cF) (hu:u.Wf) (hr:¬cj u):Pure Tryz.prog 15 [u.av] (fun r=>r= .dQ [.sc (.slice none 0 0),bl false,i64 60]):=
 cz ((OC u hu hr).mono fun r H n h=>by rw[h];rfl) (by simp[cP,cg])
section
section
variable {u:cF} {m:MS}
def KV (u:cF) (m:MS):Prop:=(∀t,t<u.cD.length->m.ly u (t:Nat)≠0)/\∃t,t<u.cD.length/\m.ly u (t:Nat)≠70
theorem KV.aBL (hr:cj u) (h:xF u m) (hs:KV u m):∃l,uK u m=some l:=by
 obtain⟨h1,t,h2,h3⟩:=hs
 exact EY hr h h1 h2 h3
theorem fg.next {l:List Int} (hk:fg u m l) {i:Nat} (hi:i<l.length):(m.node u (l.getD i 0).toNat).kind=5/\m.hold.getD (m.node u (l.getD i 0).toNat).cV.toNat 0=l.getD ((i+1)%l.length) 0:=by
 have h1:=hk.ring.on i hi
 have h3:=hk.ring.nn _ (cQ 0 (Nat.mod_lt (i+1) hk.ring.pos))
 unfold ew at h1
 split at h1
 ·rename_i h5
  exact⟨h5,h1⟩
 ·omega
end
end
end Go.Proofs.YtjopoheligmmoaaGreatDoor
namespace Go.dA
open Go.RowKit
set_option linter.unusedSimpArgs false
set_option linter.unusedVariables false
end Go.dA
namespace Go.Proofs.YtjopoheligmmoaaGreatDoor
open Go Go.dA Go.Proofs
set_option linter.unusedSimpArgs false
set_option linter.unusedVariables false
set_option maxRecDepth 8000
def gG (f:Nat->AV) (n i:Nat):List AV:=(List.range n).map fun j=>if j<i then f j else i64 0
@[simp] theorem HT (f:Nat->AV) (n i:Nat):(gG f n i).length=n:=by simp[gG]
theorem CR (f:Nat->AV) (n:Nat):gG f n 0=List.replicate n (i64 0):=by
 apply List.ext_getElem (by simp)
 intro j h1 h2
 simp[gG]
theorem HU (f:Nat->AV) {n i:Nat} (h:i<n):(gG f n i).set i (f i)=gG f n (i+1):=by
 apply List.ext_getElem (by simp)
 intro j h1 h2
 simp only[gG,List.getElem_set,List.getElem_map,List.getElem_range]
 by_cases e:i=j
 ·subst e;simp
 ·rw[if_neg e]
  by_cases h3:j<i
  ·rw[if_pos h3,if_pos (by omega)]
  ·rw[if_neg h3,if_neg (by omega)]
theorem CQ (f:Nat->AV) {n i:Nat} (h:i<n) (d:AV):(gG f n i).getD i d=i64 0:=by
 simp[gG,List.getD,h]
theorem uf (l:List dO) (hl:l.length<=1048576):Pure Tryz.prog 17 [eV l,eV l] (fun r=>r=bl true):=by
 have a0:(l.map dO.av).length=l.length:=List.length_map _
 refine aG aAA rfl ?_
 refine ca ?_
 refine aI (fun i:Nat=>[(0,eV l),(1,eV l),(5,i64 i)]) (fun i H n=>i<=l.length) (fun i=>l.length - i) 0 cJ (Nat.zero_le _) ?_
 rintro i H n hi
 by_cases hil:i<l.length
 ·have e0:∀d,(l.map dO.av).getD ((i:Int)).toNat d=(l.getD i default).av:=fun d=>by rw[Int.toNat_natCast];exact x6 hil d
  refine ca ?_
  exact⟨i+1,by omega,cJ,by omega⟩
 ·obtain rfl:i=l.length:=by omega
  refine ca ?_
  first|exact rfl|trivial
set_option maxHeartbeats 4000000 in
theorem L4 {E:List dO} {n:Nat} (hE:∀e∈E,(0<=e.held/\e.held<n)/\0<=e.taken/\e.taken<n) (hn:n<=16) (hEl:E.length<=1048576) {to:Nat} (ht:to<n):Pure Tryz.prog 42 [eV E,i64 n,i64 to] (fun r=>r=c8 (rO E n to)):=by
 have a0:(E.map dO.av).length=E.length:=List.length_map _
 refine cz ?_ (by simp[cP,cL])
 refine aM aAQ rfl ?_
 refine ca ?_
 simp only[Int.toNat_natCast]
 refine aI (fun σ:Nat×Nat=>[(0,eV E),(1,i64 n),(2,i64 to),(7, .sl σ.1 n),(8,i64 σ.2)]) (fun σ H m=>σ.2<=n/\σ.1<m/\∃d,cC H σ.1=some (.row 3 1 d (gG (fun _=>i64 (-1)) n σ.2))) (fun σ=>n - σ.2) (_,0)
  cJ ⟨Nat.zero_le _,cZ,⟨_,by rw[CR];exact cE⟩⟩ ?_
 rintro⟨b,i⟩ H m ⟨hi,hb,⟨d0,r0'⟩⟩
 dsimp only at hi hb r0' ⊢
 by_cases hil:i<n
 ·have e1:∀d,(gG (fun _=>i64 (-1)) n i).getD ((i:Int)).toNat d=i64 0:=fun d=>by rw[Int.toNat_natCast];exact CQ _ hil d
  have hset:(gG (fun _=>i64 (-1)) n i).set i (i64 (-1))=gG (fun _=>i64 (-1)) n (i+1):=HU _ hil
  have aF:(gG (fun _=>i64 (-1)) n i).length=n:=HT ..
  refine ca ?_
  exact⟨(b,i+1),by dsimp only;omega,cJ,by dsimp only;omega,cZ,⟨_,by dsimp only;rw[<-hset];exact cE⟩⟩
 ·obtain rfl:i=n:=by omega
  have hrep:gG (fun _=>i64 (-1)) i i=(List.replicate i (-1:Int)).map i64:=by
   apply List.ext_getElem (by simp)
   intro j h1 h2
   simp at h1
   simp[gG,h1]
  rw[hrep] at r0'
  have aR:((List.replicate i (-1:Int)).map i64).length=i:=by simp
  have e1:∀d,((List.replicate i (-1:Int)).map i64).getD ((to:Int)).toNat d=i64 (-1):=fun d=>by
   rw[Int.toNat_natCast]
   simp[List.getD,ht]
  have hset:((List.replicate i (-1:Int)).map i64).set to (i64 0)=((List.replicate i (-1:Int)).set to 0).map i64:=by rw[List.map_set]
  refine ca ?_
  refine aI (fun r:Nat=>[(0,eV E),(1,i64 i),(7, .sl b i),(9,i64 r)]) (fun r H m=>r<=i/\b<m/\∃d,cC H b=some (.row 3 1 d ((oq E ((List.replicate i (-1)).set to 0) r).map i64))) (fun r=>i - r) 0
   cJ ⟨Nat.zero_le _,cZ,⟨_,by rw[oq,<-hset];exact cE⟩⟩ ?_
  clear r0' e1
  rintro r H2 m2 ⟨hr,hb2,⟨d1,r1'⟩⟩
  by_cases hrl:r<i
  ·refine ca ?_
   refine aI (fun q:Nat=>[(0,eV E),(1,i64 i),(7, .sl b i),(9,i64 r),(10,i64 q)]) (fun q H m=>q<=E.length/\b<m/\∃d,cC H b=some (.row 3 1 d (((E.take q).foldl (gN r) (oq E ((List.replicate i (-1)).set to 0) r)).map i64))) (fun q=>E.length - q) 0
    cJ ⟨Nat.zero_le _,cZ,⟨_,cE⟩⟩ ?_
   clear r1'
   rintro q H3 m3 ⟨hq,hb3,⟨d2,r2'⟩⟩
   by_cases hql:q<E.length
   ·have e0:∀d,(E.map dO.av).getD ((q:Int)).toNat d=(E.getD q default).av:=fun d=>by rw[Int.toNat_natCast];exact x6 hql d
    obtain⟨⟨h1,h2⟩,h3,h4⟩:=hE _ (cQ default hql)
    have hlen:((E.take q).foldl (gN r) (oq E ((List.replicate i (-1)).set to 0) r)).length=i:=by rw[oH,(rQ hE ht r).len]
    have hnx:(E.take (q+1)).foldl (gN r) (oq E ((List.replicate i (-1)).set to 0) r)=gN r ((E.take q).foldl (gN r) (oq E ((List.replicate i (-1)).set to 0) r)) (E.getD q default):=by
     rw[List.take_succ_eq_append_getElem hql,List.foldl_append]
     simp[List.getD,hql]
    generalize (E.take q).foldl (gN r) (oq E ((List.replicate i (-1)).set to 0) r)=cur at *
    generalize E.getD q default=e at *
    have aU:(cur.map i64).length=i:=by rw[List.length_map,hlen]
    have e1:∀d,(cur.map i64).getD e.held.toNat d=i64 (cur.getD e.held.toNat 0):=fun d=>dI i64 cur _ d (by omega)
    have e2:∀d,(cur.map i64).getD e.taken.toNat d=i64 (cur.getD e.taken.toNat 0):=fun d=>dI i64 cur _ d (by omega)
    rw[show gN (r:Int) cur e=if cur.getD e.held.toNat 0<0/\cur.getD e.taken.toNat 0=r then cur.set e.held.toNat ((r:Int)+1) else cur from rfl] at hnx
    by_cases g1:cur.getD e.held.toNat 0<0
    ·have r0:=decide_eq_true g1
     by_cases g2:cur.getD e.taken.toNat 0=r
     ·have r1:=decide_eq_true g2
      rw[if_pos ⟨g1,g2⟩] at hnx
      refine ca ?_
      exact⟨q+1,by omega,cJ,by omega,cZ,⟨_,by rw[hnx,List.map_set];exact cE⟩⟩
     ·have r1:=decide_eq_false g2
      rw[if_neg fun h=>g2 h.2] at hnx
      refine ca ?_
      exact⟨q+1,by omega,cJ,by omega,cZ,⟨_,by rw[hnx];exact cE⟩⟩
    ·have r0:=decide_eq_false g1
     rw[if_neg fun h=>g1 h.1] at hnx
     refine ca ?_
     exact⟨q+1,by omega,cJ,by omega,cZ,⟨_,by rw[hnx];exact cE⟩⟩
   ·obtain rfl:q=E.length:=by omega
    rw[List.take_length] at r2'
    refine ca ?_
    exact⟨r+1,by omega,cJ,by omega,cZ,⟨_,cE⟩⟩
  ·obtain rfl:r=i:=by omega
   refine ca ?_
   refine⟨?_⟩
   have hlen:=(rQ hE ht r).len
   show dA.df _ 6 (.sl b r)=_
   rw[dN (k:=5) cE (by rw[List.length_map,hlen]),cr _ ((cL _ _).2 fun _ _=>by simp[cP])]
   rfl
set_option maxHeartbeats 4000000 in
theorem qY {E:List dO} {n:Nat} (hE:∀e∈E,(0<=e.held/\e.held<n)/\0<=e.taken/\e.taken<n) (hn:n<=16) (hEl:E.length<=1048576) {d:List Int} (hd:d.length=n) (frm:Int):Pure Tryz.prog 43 [eV E,c8 d,i64 frm] (fun r=>r=i64 (AL E d frm)):=by
 have a0:(E.map dO.av).length=E.length:=List.length_map _
 have a1:(d.map i64).length=n:=by rw[List.length_map,hd]
 refine aG aAR rfl ?_
 refine ca ?_
 refine aI (fun q:Nat=>[(0,eV E),(1,c8 d),(2,i64 frm),(7,i64 ((E.take q).foldl (iu d frm) (-1))),(8,i64 q)]) (fun q H m=>q<=E.length/\-1<=(E.take q).foldl (iu d frm) (-1)/\(E.take q).foldl (iu d frm) (-1)<n) (fun q=>E.length - q) 0
  cJ ⟨Nat.zero_le _,Int.le_refl _,by show(-1:Int)<n;omega⟩ ?_
 rintro q H m ⟨hq,hb0,hb1⟩
 by_cases hql:q<E.length
 ·have e0:∀d,(E.map dO.av).getD ((q:Int)).toNat d=(E.getD q default).av:=fun d=>by rw[Int.toNat_natCast];exact x6 hql d
  obtain⟨⟨h1,h2⟩,h3,h4⟩:=hE _ (cQ default hql)
  have hnx:(E.take (q+1)).foldl (iu d frm) (-1)=iu d frm ((E.take q).foldl (iu d frm) (-1)) (E.getD q default):=by
   rw[List.take_succ_eq_append_getElem hql,List.foldl_append]
   simp[List.getD,hql]
  generalize (E.take q).foldl (iu d frm) (-1)=b at *
  generalize E.getD q default=e at *
  have e1:∀x,(d.map i64).getD e.taken.toNat x=i64 (d.getD e.taken.toNat 0):=fun x=>dI i64 d _ x (by omega)
  rw[show iu d frm b e=if e.held=frm/\0<=d.getD e.taken.toNat 0/\(b<0\/d.getD e.taken.toNat 0<d.getD b.toNat 0\/d.getD e.taken.toNat 0=d.getD b.toNat 0/\e.taken<b) then e.taken else b from rfl] at hnx
  by_cases g1:e.held=frm
  ·have r0:=decide_eq_true g1
   by_cases g2:0<=d.getD e.taken.toNat 0
   ·have r1:=decide_eq_true g2
    by_cases g3:b<0
    ·have r2:=decide_eq_true g3
     rw[if_pos ⟨g1,g2, .inl g3⟩] at hnx
     refine ca ?_
     exact⟨q+1,by omega,by rw[hnx];exact cJ,by omega,by rw[hnx];omega,by rw[hnx];omega⟩
    ·have r2:=decide_eq_false g3
     have e2:∀x,(d.map i64).getD b.toNat x=i64 (d.getD b.toNat 0):=fun x=>dI i64 d _ x (by omega)
     by_cases g4:d.getD e.taken.toNat 0<d.getD b.toNat 0
     ·have r3:=decide_eq_true g4
      rw[if_pos ⟨g1,g2, .inr (.inl g4)⟩] at hnx
      refine ca ?_
      exact⟨q+1,by omega,by rw[hnx];exact cJ,by omega,by rw[hnx];omega,by rw[hnx];omega⟩
     ·have r3:=decide_eq_false g4
      refine ca ?_
      by_cases g5:d.getD e.taken.toNat 0=d.getD b.toNat 0
      ·by_cases g6:e.taken<b
       ·rw[if_pos ⟨g1,g2, .inr (.inr ⟨g5,g6⟩)⟩] at hnx
        refine aY (fun _=> ?_) fun hc=> ?_
        ·refine ca ?_
         exact⟨q+1,by omega,by rw[hnx];exact cJ,by omega,by rw[hnx];omega,by rw[hnx];omega⟩
        ·simp[g5,g6,-List.getD_eq_getElem?_getD] at hc
       ·rw[if_neg fun h=>h.2.2.elim g3 fun h=>h.elim g4 fun h=>g6 h.2] at hnx
        refine aY (fun hc=> ?_) fun _=> ?_
        ·simp[g5,g6,-List.getD_eq_getElem?_getD] at hc
        ·refine ca ?_
         exact⟨q+1,by omega,by rw[hnx];exact cJ,by omega,by rw[hnx];omega,by rw[hnx];omega⟩
      ·rw[if_neg fun h=>h.2.2.elim g3 fun h=>h.elim g4 fun h=>g5 h.1] at hnx
       refine aY (fun hc=> ?_) fun _=> ?_
       ·simp[g5,-List.getD_eq_getElem?_getD] at hc
       ·refine ca ?_
        exact⟨q+1,by omega,by rw[hnx];exact cJ,by omega,by rw[hnx];omega,by rw[hnx];omega⟩
   ·have r1:=decide_eq_false g2
    rw[if_neg fun h=>g2 h.2.1] at hnx
    refine ca ?_
    exact⟨q+1,by omega,by rw[hnx];exact cJ,by omega,by rw[hnx];omega,by rw[hnx];omega⟩
  ·have r0:=decide_eq_false g1
   rw[if_neg fun h=>g1 h.1] at hnx
   refine ca ?_
   exact⟨q+1,by omega,by rw[hnx];exact cJ,by omega,by rw[hnx];omega,by rw[hnx];omega⟩
 ·obtain rfl:q=E.length:=by omega
  rw[List.take_length]
  refine ca ?_
  first|exact rfl|trivial
end Go.Proofs.YtjopoheligmmoaaGreatDoor
