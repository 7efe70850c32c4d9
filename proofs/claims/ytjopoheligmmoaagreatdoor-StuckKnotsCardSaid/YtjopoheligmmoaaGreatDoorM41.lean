import Derived.Test.YtjopoheligmmoaaGreatDoorM39
import Derived.Test.YtjopoheligmmoaaGreatDoorM37
import Derived.Test.YtjopoheligmmoaaGreatDoorM40
import Derived.Test.YtjopoheligmmoaaGreatDoorM35
import Derived.Test.YtjopoheligmmoaaGreatDoorM30
import Derived.Test.YtjopoheligmmoaaGreatDoorM33
import Derived.Test.YtjopoheligmmoaaGreatDoorM25
namespace Go.cu
open Go.RowKit
set_option linter.unusedSimpArgs false
set_option linter.unusedVariables false
theorem cS.rt {P:Program} {f:FuncId} {args:List AV} {H:Hp} {nx:Nat} {R R2:AV->Hp->Nat->Prop} (h:cS P f args H nx R) (hR:∀r H' n,R r H' n->∃fr2 H2 n2,Rt [(0,r)] H' n fr2 H2 n2/\R2 (cp fr2 0) H2 n2):cS P f args H nx R2:=by
 refine⟨h.1,fun w0 c vs a1 a2 a3 a4=>(h.2 w0 c vs a1 a2 a3 a4).mono ?_⟩
 rintro e w' ⟨v,r,H',nx',ρ,U,rfl,hRr,hU,hS,hle,hv⟩
 obtain⟨fr2,H2,n2,hw,hR2⟩:=hR r H' nx' hRr
 have hh:Holds w0 c.M0 ⟨ρ,bu H',U,w',c.M0⟩ nx' 1 [(0,r)] H' nx' ⟨#[v],[]⟩ w':=by
  refine⟨rfl,rfl,ρ,U,hU,hS,fun t=> ?_,⟨hU,Cx.le.refl _⟩⟩
  by_cases ht:t=0
  ·subst ht;exact hv
  ·have:cp [(0,r)] t= .any:=by simp[cp,ht]
   rw[this];exact dV.any _ _ _ _ (by rw[VR];trivial)
 obtain⟨_,_,ρ2,U2,k1,k2,k3,k4⟩:=hw _ _ _ _ _ _ _ hh
 exact⟨v,_,H2,n2,ρ2,U2,rfl,hR2,k1,k2,hle.trans k4.2,k3 0⟩
theorem cS.NY {P:Program} {f:FuncId} {args:List AV} {e:TypeId} {sz:Nat} {es cs:List AV} (qP:mD cs) (h:cS P f args [] 0 (fun r1 H1 _=>∃b d0,r1= .dD (.sl b es.length::cs)/\bu H1 b=some (.row e sz d0 es))) (hes:cX 0 es) (d:AV) {H:Hp} {id:Nat} (hfa:cX 0 args):
 kj P f args H id (fun r' H''=>r'= .dD (.sl id es.length::cs)/\H''=dS H (some (id, .row e sz d es))):=by
 refine⟨h.1,fun w0 c vs hS hH hid hv=> ?_⟩
 have hS0:du c.w ⟨fun _=>none,bu [],fun _=>False,c.w,c.M⟩:=⟨Below.refl _ _,hS.fit,fun b e sz d es he=>by simp[bu] at he,fun b b' k k' blk o z o' z' hk=>by simp[bu] at hk⟩
 have hv':ct ⟨fun _=>none,bu [],fun _=>False,c.w,c.M⟩ args vs:=ct.nI (fun _ h=>h) hfa hv
 refine(h.2 c.w _ vs hS0 rfl (fun _ h=>h.elim) hv').mono ?_
 rintro en w' ⟨v,r1,H1,nx',ρ,U,he,⟨b,d0,rfl,hb⟩,hU,hS',_,hvr⟩
 rw[VR] at hvr
 obtain⟨us,hus,hvr⟩:=hvr
 rw[ct] at hvr
 obtain⟨x,v3,hx3,hvr,hv3⟩:=hvr
 have fin:∀c2:Cx,VR c2 (.sl id es.length) x->VR c2 (.dD (.sl id es.length::cs)) v:=fun c2 h2=>by
  rw[VR]
  refine⟨us,hus, ?_⟩
  rw[hx3,ct]
  exact⟨x,v3,rfl,h2,nT qP hv3⟩
 rw[VR] at hvr
 obtain⟨_,ad,cap,hvv,hrr⟩:=hvr
 obtain⟨_,hr2⟩:=hrr _ _ _ _ hb
 have hr3:=hr2 rfl
 obtain⟨_,hz,hor⟩:=hS'.jz b _ _ _ _ hb (uB hr3)
 have hbel:=hS'.below
 obtain⟨s1,s2⟩:=hS.world hbel
 have hHeq:bu (dS H (some (id, .row e sz d es)))=fM c.H id (some (.row e sz d es)):=by rw[dj,hH]
 rcases hor with⟨h0,hes0⟩|⟨blk,o,z,hρ,hlow,⟨arr,harr,hsz⟩,hlz,hrow⟩
 ·subst hes0
  obtain⟨p1,p2⟩:=s1.HD (b:=id) (e:=e) (sz:=sz) d hz hid
  refine⟨v,_,_,fM c.ρ id none,he,⟨rfl,rfl⟩, ?_, ?_,fin _ ?_⟩
  ·rw[hHeq];exact p1
  ·rw[hHeq];exact s2.trans p2
  ·rw[hHeq,VR]
   refine⟨.inr rfl,ad,cap,hvv,fun e' sz' d' es' he'=> ?_⟩
   simp only[jQ,dU,Option.some.injEq,fC.row.injEq] at he'
   obtain⟨rfl,rfl,rfl,rfl⟩:=he'
   refine⟨Nat.le_refl _,fun _=> .inl ⟨by simp[jQ], ?_⟩⟩
   rcases hr3 with⟨_,h2,h3⟩|⟨blk,o,z,h2,_⟩
   ·exact⟨h2,h3⟩
   ·rw[h0] at h2;cases h2
 ·obtain⟨p1,p2⟩:=hS.py (b:=id) (e:=e) (sz:=sz) d (es:=es) (w':=w') (blk:=blk) (o:=o) (z:=z) hz (.inl hid) (.inl hlow) hbel.os hbel.tape hbel.output hbel.size (fun k hk _=>hbel.block k hk) harr hsz hlz (fun hle i hi=>by
   obtain⟨y,x1,x2⟩:=dz hrow i hi
   refine⟨y,x1, ?_⟩
   refine VR.gm (n:=0) ?_ ?_ x2
   ·refine⟨fun b hb=>absurd hb (Nat.not_lt_zero _),fun q hq _=>⟨rfl,fun hm=>hq ?_⟩,fun b hb=>absurd hb (Nat.not_lt_zero _)⟩
    rcases hm with hm|⟨b',k',o',z',h1,h2⟩
    ·exact Or.inl (show c.M q from Or.inl hm)
    ·dsimp only at h1 h2
     by_cases e:b'=id
     ·subst e
      rw[dU] at h2
      cases h2
      exact Or.inr ⟨b,_,_,_,hb,hρ⟩
     ·simp only[fM,if_neg e] at h1 h2
      exact Or.inl (show c.M q from Or.inr ⟨b',k',o',z',h1,h2⟩)
   ·have hx4:es.getD i .any=es[i]:=by simp[List.getD,hi]
    rw[hx4]
    exact ma hes _ (List.getElem_mem hi))
  refine⟨v,_,_,fM c.ρ id (some (blk,o,z)),he,⟨rfl,rfl⟩, ?_, ?_,fin _ ?_⟩
  ·rw[hHeq];exact p1
  ·rw[hHeq];exact p2
  ·rw[hHeq,VR]
   refine⟨.inr rfl,ad,cap,hvv,fun e' sz' d' es' he'=> ?_⟩
   simp only[jQ,dU,Option.some.injEq,fC.row.injEq] at he'
   obtain⟨rfl,rfl,rfl,rfl⟩:=he'
   refine⟨by omega,fun _=> .inr ⟨blk,o,z,by simp[jQ], ?_⟩⟩
   rcases hr3 with⟨h2,_,_⟩|⟨blk',o',z',h2,h3,h4,h5,h6⟩
   ·rw[hρ] at h2;cases h2
   ·rw[hρ] at h2;cases h2
    exact⟨h3,h4,h5,h6⟩
theorem cS.J2 {P:Program} {f:FuncId} {args:List AV} {e:TypeId} {sz:Nat} {es cs:List AV} (qP:mD cs) (h:cS P f args [] 0 (fun r1 H1 _=>∃b d0,r1= .dD (.sl b es.length::cs)/\bu H1 b=some (.row e sz d0 es))) (hes:cX 0 es) (hfa:cX 0 args) {H:Hp} {nx:Nat}:
 cS P f args H nx (fun r H' n=>r= .dD (.sl nx es.length::cs)/\H'=(nx,some (.row e sz .any es))::H/\n=nx+1):=
 (kj.Y9 (h.NY qP hes .any hfa)).mono fun r H' n ⟨⟨h1,h2⟩,h3⟩=>⟨h1,h2,h3⟩
end Go.cu
namespace Go.Proofs.YtjopoheligmmoaaGreatDoor
open Go Go.cu Go.Proofs
set_option linter.unusedSimpArgs false
set_option linter.unusedVariables false
set_option maxRecDepth 8000
set_option maxHeartbeats 4000000 in
theorem yG (o:Nat) (l:List cx) (hl:l.length<=65536) (hok:∀e∈l,e.cJ.length<9223372036854775807/\e.mem.length<9223372036854775807) (H:Hp) (nx:Nat) (ho:o<nx) (hr:∃d,bu H o=some (.row 105 3 d (l.map cx.av))):
 cS Tryz.prog 97 [.sl o l.length, .fn (.func 98) [] []] H nx (fun r H' n=>nx<=n/\(∀y,y<nx->y≠o->bu H' y=bu H y)/\(r= .sl o l.length/\(lZ l l.length).length=l.length/\(∃d,bu H' o=some (.row 105 3 d ((lZ l l.length).map cx.av)))\/∃es:List AV,r= .sv o l.length 0 (lZ l l.length).length/\es.length=l.length/\(lZ l l.length).length<=l.length/\es.take (lZ l l.length).length=(lZ l l.length).map cx.av/\∃d,bu H' o=some (.row 105 3 d es))):=by
 obtain⟨d0,r0'⟩:=hr
 have a0:(l.map cx.av).length=l.length:=by simp
 have same:∀i j,i<l.length->j<l.length->Pure Tryz.prog 98 [(l.getD i default).av,(l.getD j default).av] (fun r=>r=bl (decide (l.getD i default=l.getD j default))):=fun i j hi hj=>by
  obtain⟨p1,p2⟩:=hok _ (cT default hi)
  have:=ot (l.getD i default) (l.getD j default) p1 p2
  simpa only[qZ] using this
 refine aI WI rfl ?_
 by_cases h2:l.length<2
 ·refine cV ?_
  have:lZ l l.length=l:=by
   match l,h2 with
   |[],_=>rfl
   |[x],_=>rfl
  rw[this]
  exact⟨⟨cZ,fun y y1 y2=>cC, .inl ⟨rfl,rfl,d0,bx⟩⟩⟩
 ·refine cV ?_
  refine aN (fun i:Nat=>[(0, .sl o l.length),(1, .fn (.func 98) [] []),(5,i64 i)]) (fun i H2 n=>1<=i/\i<=l.length/\nx<=n/\bu H2 o=some (.row 105 3 d0 (l.map cx.av))/\lZ l i=l.take i/\∀y,y<nx->y≠o->bu H2 y=bu H y) (fun i=>l.length - i) 1 cH ⟨Nat.le_refl _,by omega,cZ,bx,by rw[lZ];cases l with|nil=>simp at h2|cons x t=>rfl,fun y y1 y2=>cC⟩ ?_
  clear r0'
  rintro i H2 n ⟨hi1,hi,hn,r0',hdd,hkp⟩
  by_cases hil:i<l.length
  ·have e0:∀d,(l.map cx.av).getD ((i:Int)).toNat d=(l.getD i default).av:=fun d=>by rw[Int.toNat_natCast];exact iJ hil d
   have e1:∀d,(l.map cx.av).getD ((i:Int) - 1).toNat d=(l.getD (i - 1) default).av:=fun d=>by rw[show((i:Int) - 1).toNat=i - 1 by omega];exact iJ (by omega) d
   have c0:=same i (i - 1) hil (by omega)
   have hsu:=pO l hi1
   by_cases he:l.getD i default=l.getD (i - 1) default
   ·rw[decide_eq_true he] at c0
    rw[if_pos he] at hsu
    refine cV ?_
    refine aN (fun σ:Nat×Nat×List cx=>[(0, .sl o l.length),(1, .fn (.func 98) [] []),(5,i64 σ.1),(6, .sv o l.length i (l.length - i)),(7,i64 σ.2.1)])
     (fun σ H2 n=>1<=σ.2.1/\i+σ.2.1<=l.length/\i<=σ.1/\σ.1+1<=i+σ.2.1/\σ.2.2.length=l.length/\(∀q,σ.1<=q->σ.2.2.getD q default=l.getD q default)/\σ.2.2.take σ.1=lZ l (i+σ.2.1)/\nx<=n/\(∃d,bu H2 o=some (.row 105 3 d (σ.2.2.map cx.av)))/\∀y,y<nx->y≠o->bu H2 y=bu H y) (fun σ=>l.length - σ.2.1) (i,1,l) cH
     ⟨Nat.le_refl _,by show i+1<=l.length;omega,Nat.le_refl _,Nat.le_refl _,rfl,fun _ _=>rfl,by dsimp only;rw[hsu,hdd],cZ,⟨_,bx⟩,fun y y1 y2=>Eq.trans cC (hkp y y1 y2)⟩ ?_
    clear c0 e0 e1 hsu hdd r0' hn hkp
    rintro⟨k,j,es⟩ H3 n ⟨hj1,hj,hik,hkj,hel,hsame,hdd,hn,⟨d1,r1'⟩,hkp⟩
    dsimp only at hj1 hj hik hkj hel hsame hdd r1' ⊢
    have a1:(es.map cx.av).length=l.length:=by simp[hel]
    by_cases hjl:j<l.length - i
    ·have e0:∀d,(es.map cx.av).getD (i+((j:Int)).toNat) d=(l.getD (i+j) default).av:=fun d=>by rw[Int.toNat_natCast,iJ (by omega) d,hsame _ (by omega)]
     have e1:∀d,(es.map cx.av).getD (i+((j:Int) - 1).toNat) d=(l.getD (i+j - 1) default).av:=fun d=>by rw[show i+((j:Int) - 1).toNat=i+j - 1 by omega,iJ (by omega) d,hsame _ (by omega)]
     have e2:∀d,(es.map cx.av).getD ((k:Int)).toNat d=(es.getD k default).av:=fun d=>by rw[Int.toNat_natCast];exact iJ (by omega) d
     have c0:=same (i+j) (i+j - 1) (by omega) (by omega)
     have hsu:=pO l (k:=i+j) (by omega)
     by_cases he2:l.getD (i+j) default=l.getD (i+j - 1) default
     ·rw[decide_eq_true he2] at c0
      rw[if_pos he2] at hsu
      refine cV ?_
      exact⟨(k,j+1,es),by dsimp only;omega,cH,by dsimp only;omega,by dsimp only;omega,hik,by dsimp only;omega,hel,hsame,by dsimp only;rw[<-Nat.add_assoc,hsu];exact hdd,cZ,⟨d1,bx⟩,fun y y1 y2=>Eq.trans cC (hkp y y1 y2)⟩
     ·rw[decide_eq_false he2] at c0
      rw[if_neg he2] at hsu
      refine cV ?_
      refine⟨(k+1,j+1,es.set k (l.getD (i+j) default)),by dsimp only;omega,cH,by dsimp only;omega,by dsimp only;omega,by dsimp only;omega,by dsimp only;omega,by simp[hel],fun q hq=> ?_, ?_,cZ,⟨d1,by dsimp only;rw[List.map_set];exact bx⟩,fun y y1 y2=>Eq.trans cC (hkp y y1 y2)⟩
      ·have hq:k+1<=q:=hq
       dsimp only
       rw[getD_set_ne (by omega)];exact hsame q (by omega)
      ·dsimp only
       rw[<-Nat.add_assoc,hsu,kb (by omega),hdd]
    ·obtain rfl:j=l.length - i:=by omega
     rw[show i+(l.length - i)=l.length by omega] at hdd
     refine cV ?_
     rw[Int.toNat_natCast]
     have hkl:k<=l.length:=by omega
     have hkd:(lZ l l.length).length=k:=by rw[<-hdd,List.length_take,hel];omega
     generalize hZ:List.replicate (l.length - k) (gC true [Value.slice none 0 0,Value.slice none 0 0,Value.bool false])=Z
     have hZl:Z.length=l.length - k:=by rw[<-hZ];simp
     rw[hkd]
     refine⟨⟨cZ,fun y y1 y2=>Eq.trans cC (hkp y y1 y2), .inr ⟨(es.map cx.av).take k++Z++(es.map cx.av).drop (k+(l.length - k)),rfl, ?_,hkl, ?_,d1,bx⟩⟩⟩
     ·simp[hZl,hel];omega
     ·rw[List.append_assoc,List.take_append_of_le_length (by simp;omega),List.take_take,Nat.min_self,<-List.map_take,hdd]
   ·rw[decide_eq_false he] at c0
    rw[if_neg he] at hsu
    refine cV ?_
    refine⟨i+1,by omega,cH,by omega,by omega,cZ,bx, ?_,fun y y1 y2=>Eq.trans cC (hkp y y1 y2)⟩
    rw[hsu,hdd,List.take_succ_eq_append_getElem hil,show l.getD i default=l[i] by simp[List.getD,hil]]
  ·obtain rfl:i=l.length:=by omega
   rw[List.take_length] at hdd
   refine cV ?_
   rw[hdd]
   exact⟨⟨cZ,fun y y1 y2=>Eq.trans cC (hkp y y1 y2), .inl ⟨rfl,rfl,d0,bx⟩⟩⟩
theorem uY (o:Nat) (l:List cx) (hl:l.length<=65536) (hok:∀e∈l,e.cJ.length<9223372036854775807/\e.mem.length<9223372036854775807) (H:Hp) (nx:Nat) (ho:o<nx) (hr:∃d,bu H o=some (.row 105 3 d (l.map cx.av))):
 cS Tryz.prog 97 [.sl o l.length, .fn (.func 98) [] []] H nx (fun r H' n=>∃b,r= .sl b (lZ l l.length).length/\(b=o\/nx<=b)/\b<n/\nx<=n/\(∃d,bu H' b=some (.row 105 3 d ((lZ l l.length).map cx.av)))/\∀y,y<nx->y≠o->bu H' y=bu H y):=by
 refine(yG o l hl hok H nx ho hr).rt ?_
 rintro r H' n ⟨hn,hk,⟨rfl,h1,h2⟩|⟨es,rfl,h1,h2,h3,d,h4⟩⟩
 ·exact⟨_,H',n,Rt.refl _ _ _,o,by rw[h1];rfl, .inl rfl,by omega,hn,h2,hk⟩
 ·refine⟨_,_,n+1,Rt.part 0 rfl h4 h1 (by omega),n,rfl, .inr hn,by omega,by omega,⟨.any, ?_⟩,fun y y1 y2=> ?_⟩
  ·rw[List.drop_zero,h3];exact cY _ _ _
  ·exact(cN (by omega)).trans ((cN y2).trans (hk y y1 y2))
set_option maxHeartbeats 2000000 in
theorem FP (u:bz) (hu:u.Wf) (most:Int) (h0:(eS u most).1=0):cS Tryz.prog 54 [u.av,i64 most] [] 0 (fun r H n=>∃b d,r= .dD [.sl b (iX u (eS u most).2).length,i64 0]/\bu H b=some (.row 105 3 d ((iX u (eS u most).2).map cx.av))):=by
 refine aI V8 rfl ?_
 by_cases hr:ca u
 ·by_cases hm:1<=most/\most<=65536
  ·rw[pH hr hm] at h0 ⊢
   refine cV ?_
   let l:=(iG u most.toNat).getD []
   let I:Nat->Hp->Prop:=fun k H=>(∃d,bu H 0=some (.row 25 3 d [u.av]))/\(∃d,bu H 3=some (.row 41 1 d [.sl 7 (di u l k).length]))/\(∃d,bu H 7=some (.row 105 3 d ((di u l k).map cx.av)))
   refine aF (R:=fun r H n=>8<=n/\x8 u most I r H) (JE (b:=3) 105 3 (by omega) (by omega) (d:=gC false [.slice none 0 0]) (te:=41) ?_ fun H2 q1 q2 q3=> ?_) ?_
   ·exact bx
   ·refine(sS u hu hr most hm _ [.pt 0 1 0 0, .pt 3 1 0 0] H2 8 I ?_ ?_ ?_).mono fun r H n h=>⟨h.1,h.short⟩
    ·exact⟨⟨_,(q3 0 (by omega) (by omega)).trans bx⟩,⟨_,q1⟩,⟨_,q2⟩⟩
    ·rintro k H H' ⟨⟨d0,p0⟩,⟨d1,p1⟩,⟨d2,p2⟩⟩ hk
     exact⟨⟨d0,(hk 0 (by omega)).trans p0⟩,⟨d1,(hk 3 (by omega)).trans p1⟩,⟨d2,(hk 7 (by omega)).trans p2⟩⟩
    ·intro l' hl' k H n hk hn ⟨p0,p1,p2⟩
     have hll:l=l':=by show(iG u most.toNat).getD []=l';rw[hl'];rfl
     rw[hll] at p1 p2
     obtain⟨hf,hlm,_⟩:=lU hu hr (by omega) hl'
     refine(D6 hr hf (by omega) hk (ub:=0) (ob:=3) (o:=7) (by omega) (by omega) (by omega) (by omega) p0 p1 p2).mono ?_
     rintro _ H' n' ⟨s1,s2,s3,s4⟩
     obtain⟨d0,p0⟩:=p0
     refine⟨⟨⟨d0,(s4 0 (by omega) (by omega) (by omega)).trans p0⟩, ?_, ?_⟩,s3,fun y y1 y2=>s4 y y2 (by omega) (by omega)⟩
     ·rw[hll];exact s1
     ·rw[hll];exact s2
   rintro r H' n' ⟨hn,hA⟩
   revert hA
   unfold x8
   cases hs:iG u most.toNat with
   |none=>rw[hs] at h0;cases h0
   |some l'=>
    rintro⟨rfl,⟨d0,p0⟩,⟨d1,p1⟩,p2⟩
    have hll:l=l':=by show(iG u most.toNat).getD []=l';rw[hs];rfl
    rw[hll] at p1 p2
    obtain⟨hf,hlm,_⟩:=lU hu hr (by omega) hs
    have hin:=vI hr hf (by omega) l'.length
    have hlen:=l5 u l' l'.length
    refine cV ?_
    refine aF (vx 7 (di u l' l'.length) hin (by omega) _ _ p2 cZ) ?_
    rintro r H3 n3 ⟨⟨d5,r5⟩,hn3,hk3⟩
    have r6:=(hk3 3 cZ (by omega)).trans p1
    have hsl:(gI gY (di u l' l'.length)).length=(di u l' l'.length).length:=nr _ _
    refine cV ?_
    rw[<-hsl]
    refine aF (uY 7 (gI gY (di u l' l'.length)) (by omega) (fun e he=>hin e ((lu _ _).mem_iff.1 he)) _ _ cZ ⟨d5,r5⟩) ?_
    rintro r H4 n4 ⟨b,rfl,hb,hbn,hn4,⟨d6,r6⟩,hk4⟩
    refine cV ?_
    dsimp only
    have hE:iX u l'=lZ (gI gY (di u l' l'.length)) (gI gY (di u l' l'.length)).length:=by rw[hsl];rfl
    rw[hE]
    exact⟨⟨b,d6,rfl,bx⟩⟩
  ·rw[lT hr hm] at h0;cases h0
 ·rw[pG hr] at h0;cases h0
def u6 (f:cx->Bool):List cx->Nat->Int
 |[],_=>-1
 |e::l,k=>if f e=true then k else u6 f l (k+1)
theorem tO (f:cx->Bool):∀(l:List cx) (k:Nat),u6 f l k=-1/\(∀x∈l,f x=false)\/∃i:Nat,u6 f l k=(k+i:Nat)/\i<l.length/\(∀x∈l.take i,f x=false)/\f (l.getD i default)=true
 |[],k=> .inl ⟨rfl,fun x hx=>by cases hx⟩
 |e::l,k=>by
  rw[u6]
  split
  ·rename_i h
   exact .inr ⟨0,rfl,by simp,by simp,h⟩
  ·rename_i h
   simp only[Bool.not_eq_true] at h
   rcases tO f l (k+1) with⟨h1,h2⟩|⟨i,h1,h2,h3,h4⟩
   ·refine .inl ⟨h1,fun x hx=> ?_⟩
    rcases List.mem_cons.1 hx with rfl|hx
    ·exact h
    ·exact h2 x hx
   ·refine .inr ⟨i+1,by rw[h1];congr 1;omega,by simpa using h2,fun x hx=> ?_,h4⟩
    rw[List.take_succ_cons] at hx
    rcases List.mem_cons.1 hx with rfl|hx
    ·exact h
    ·exact h3 x hx
theorem GJ (f:cx->Bool) {l:List cx} {i:Nat} (h:i<l.length) (k:Nat):u6 f (l.drop i) k=if f (l.getD i default)=true then(k:Int) else u6 f (l.drop (i+1)) (k+1):=by
 rw[List.drop_eq_getElem_cons h,u6,show l.getD i default=l[i] by simp[List.getD,h]]
theorem qH (e:cx):Pure Tryz.prog 56 [e.av] (fun r=>r=bl e.ended):=by
 refine aD YC rfl ?_
 refine cV ?_
 first|exact rfl|trivial
theorem yo (l:List cx) (hl:l.length<=65536):Pure Tryz.prog 99 [jO l, .fn (.func 56) [] []] (fun r=>r=i64 (u6 cx.ended l 0)):=by
 refine aD Y1 rfl ?_
 refine cV ?_
 rw[List.length_map]
 refine aN (fun i:Nat=>[(0,jO l),(1, .fn (.func 56) [] []),(7,i64 l.length),(8,i64 i)])
  (fun i H2 n=>i<=l.length/\u6 cx.ended (l.drop i) i=u6 cx.ended l 0) (fun i=>l.length - i) 0
  cH ⟨Nat.zero_le _,rfl⟩ ?_
 rintro i H2 n ⟨hi,hix⟩
 have a0:(l.map cx.av).length=l.length:=List.length_map _
 by_cases hil:i<l.length
 ·have e0:∀d,(l.map cx.av).getD ((i:Int)).toNat d=(l.getD i default).av:=fun d=>by rw[Int.toNat_natCast];exact iJ hil d
  rw[GJ _ hil] at hix
  have c0:=qH (l.getD i default)
  generalize l.getD i default=x at *
  cases hx:x.ended with
  |true=>
   rw[hx] at c0
   rw[if_pos hx] at hix
   rw[<-hix]
   refine cV ?_
   first|exact rfl|trivial
  |false=>
   rw[hx] at c0
   rw[if_neg (by rw[hx];simp)] at hix
   refine cV ?_
   exact⟨i+1,by omega,cH,by omega,hix⟩
 ·obtain rfl:i=l.length:=by omega
  rw[List.drop_length] at hix
  rw[<-hix]
  refine cV ?_
  first|exact rfl|trivial
def mn (l:List cx):List cx:=l.filter fun e=> !e.ended
abbrev PU:AV:= .fn (.func 56) [] []
theorem A6:Pure Tryz.prog 55 [.sc (.slice none 0 0),PU] (fun r=>r= .sc (.slice none 0 0)):=by
 have c0:Pure Tryz.prog 99 [.sc (.slice none 0 0),PU] (fun r=>r=i64 (-1)):=
  Pure.args (yo [] (by decide)) fun c=> .cons (cu.dV.jw c c 3 .any) (.cons (fun _ h=>h) .nil)
 refine aD V9 rfl ?_
 refine cV ?_
 first|exact rfl|trivial
theorem IF {H:Hp} {b:Nat} {d:AV} {l:List cx} (h:bu H b=some (.row 105 3 d (l.map cx.av))):[AV.sl b l.length,PU].map (cu.dX H 6)=[jO l,PU]:=by
 show[cu.dX H 6 (.sl b l.length),cu.dX H 6 PU]=_
 rw[dI (k:=5) h (by simp),cn _ (iK l),dM _ (show cK 0 PU by simp[cK,cX])]
set_option maxHeartbeats 4000000 in
theorem yJ {l:List cx} (hl:l.length<=65536) {b:Nat} {H:Hp} {nx:Nat} (hb:∃d,bu H b=some (.row 105 3 d (l.map cx.av))) (hlt:b<nx):
 cS Tryz.prog 55 [.sl b l.length,PU] H nx (fun r H' n=>cu.dX H' 5 r=jO (mn l)/\∃b m,r= .sl b m\/∃q,r= .sv b m 0 q):=by
 obtain⟨d0,r0'⟩:=hb
 have a0:(l.map cx.av).length=l.length:=List.length_map _
 have qP:=tO cx.ended l 0
 refine aI V9 rfl ?_
 refine cV ?_
 refine aR (yo l hl) (IF (d:=d0) bx) (by simp only[cX,cK];exact⟨iK l,⟨trivial,trivial⟩,trivial⟩) (by simp[gN]) ?_
 rcases qP with⟨h1,h2⟩|⟨i,h1,hil,h2,h3⟩
 ·rw[h1]
  refine cV ?_
  refine⟨?_,_,_, .inl rfl⟩
  have:mn l=l:=by
   unfold mn
   rw[List.filter_eq_self]
   intro e he
   rw[h2 e he];rfl
  rw[this]
  show cu.dX _ 5 (.sl b l.length)=_
  rw[dI (k:=4) bx a0,cn _ (iK l)]
 ·rw[h1,Nat.zero_add]
  have hst:(l.take (i+1)).filter (fun e=> !e.ended)=l.take i:=by
   rw[List.take_succ_eq_append_getElem hil,List.filter_append]
   have e1:(l.take i).filter (fun e=> !e.ended)=l.take i:=by
    rw[List.filter_eq_self]
    intro e he
    rw[h2 e he];rfl
   have e2:l[i]=l.getD i default:=by simp[List.getD,hil]
   rw[e1,e2,List.filter_cons,h3]
   simp
  refine cV ?_
  refine aN (fun σ:Nat×Nat×List cx=>[(0, .sl b l.length),(1,PU),(5,i64 σ.1),(6,i64 σ.2.1)])
   (fun σ H2 n=>σ.1+1<=σ.2.1/\σ.2.1<=l.length/\σ.2.2.length=l.length/\(∀q,σ.2.1<=q->σ.2.2.getD q default=l.getD q default)/\σ.2.2.take σ.1=(l.take σ.2.1).filter (fun e=> !e.ended)/\nx<=n/\(∃d,bu H2 b=some (.row 105 3 d (σ.2.2.map cx.av)))) (fun σ=>l.length - σ.2.1) (i,i+1,l)
   cH ⟨Nat.le_refl _,by show i+1<=l.length;omega,rfl,fun _ _=>rfl,hst.symm,cZ,⟨_,bx⟩⟩ ?_
  clear r0' hst h1 h2 h3
  rintro⟨k,j,es⟩ H3 n ⟨hkj,hj,hel,hsame,hdd,hn,⟨d0,r0'⟩⟩
  dsimp only at hkj hj hel hsame hdd r0' ⊢
  have a1:(es.map cx.av).length=l.length:=by simp[hel]
  by_cases hjl:j<l.length
  ·have e0:∀d,(es.map cx.av).getD ((j:Int)).toNat d=(l.getD j default).av:=fun d=>by rw[Int.toNat_natCast,iJ (by omega) d,hsame _ (by omega)]
   have e2:∀d,(es.map cx.av).getD ((k:Int)).toNat d=(es.getD k default).av:=fun d=>by rw[Int.toNat_natCast];exact iJ (by omega) d
   have hnx:(l.take (j+1)).filter (fun e=> !e.ended)=(l.take j).filter (fun e=> !e.ended)++(if(l.getD j default).ended=true then[] else[l.getD j default]):=by
    rw[List.take_succ_eq_append_getElem hjl,List.filter_append,show l.getD j default=l[j] by simp[List.getD,hjl]]
    congr 1
    rw[List.filter_cons]
    cases l[j].ended<;>rfl
   have c0:=qH (l.getD j default)
   generalize l.getD j default=x at *
   cases hx:x.ended with
   |true=>
    rw[hx] at c0
    rw[if_pos hx,List.append_nil] at hnx
    refine cV ?_
    exact⟨(k,j+1,es),by dsimp only;omega,cH,by dsimp only;omega,by dsimp only;omega,hel,fun q hq=>hsame q (by dsimp only at hq;omega),by dsimp only;rw[hnx];exact hdd,cZ,⟨d0,bx⟩⟩
   |false=>
    rw[hx] at c0
    rw[if_neg (by rw[hx];simp)] at hnx
    refine cV ?_
    refine⟨(k+1,j+1,es.set k x),by dsimp only;omega,cH,by dsimp only;omega,by dsimp only;omega,by simp[hel],fun q hq=> ?_, ?_,cZ,⟨d0,by dsimp only;rw[List.map_set];exact bx⟩⟩
    ·have hq:j+1<=q:=hq
     dsimp only
     rw[getD_set_ne (by omega)];exact hsame q (by omega)
    ·dsimp only
     rw[hnx,kb (by omega),hdd]
  ·obtain rfl:j=l.length:=by omega
   rw[List.take_length] at hdd
   refine cV ?_
   refine⟨?_,_,_, .inr ⟨_,rfl⟩⟩
   rw[Int.toNat_natCast]
   have hkl:k<=l.length:=by omega
   generalize hZ:List.replicate (l.length - k) (gC true [Value.slice none 0 0,Value.slice none 0 0,Value.bool false])=Z
   have hZl:Z.length=l.length - k:=by rw[<-hZ];simp
   have hr2:∀G:Hp,(∃d,bu G b=some (.row 105 3 d ((es.map cx.av).take k++Z++(es.map cx.av).drop (k+(l.length - k)))))->cu.dX G 5 (.sv b l.length 0 (k - 0))=jO (mn l):=by
    rintro G ⟨d,hG⟩
    rw[J3 (k:=4) hG (by simp[hZl,hel];omega),List.drop_zero,Nat.sub_zero,List.append_assoc,List.take_append_of_le_length (by simp;omega),List.take_take,Nat.min_self,<-List.map_take,hdd,cn _ (iK _)]
    rfl
   exact hr2 _ ⟨d0,bx⟩
noncomputable def gF (u:bz) (most:Int):List cx:=if(eS u most).1=0 then mn (iX u (eS u most).2) else[]
theorem yM (u:bz) (l:List cc):(iX u l).length<=l.length:=Nat.le_trans (D3 _ _) (l5 u l l.length)
theorem DV {u:bz} (hu:u.Wf) {most:Int} (h0:(eS u most).1=0):ca u/\(1<=most/\most<=65536)/\∃l,iG u most.toNat=some l/\(eS u most).2=l:=by
 by_cases hr:ca u
 ·by_cases hm:1<=most/\most<=65536
  ·rw[pH hr hm] at h0 ⊢
   cases hs:iG u most.toNat with
   |none=>rw[hs] at h0;cases h0
   |some l=>exact⟨hr,hm,l,rfl,rfl⟩
  ·rw[lT hr hm] at h0;cases h0
 ·rw[pG hr] at h0;cases h0
theorem DU {u:bz} (hu:u.Wf) {most:Int} (h0:(eS u most).1=0):(eS u most).2.length<=65536:=by
 obtain⟨hr,hm,l,hs,he⟩:=DV hu h0
 obtain⟨_,h2,_⟩:=lU hu hr (by omega) hs
 rw[he];omega
theorem EB (l:List cx) (e:Int):cK 0 (.dD [jO l,i64 e]):=by
 have:=iK l
 simp[cK,cX,this]
set_option maxHeartbeats 1000000 in
theorem xW (u:bz) (hu:u.Wf) (most:Int):Pure Tryz.prog 23 [u.av,i64 most] (fun r=>r= .dD [jO (gF u most),i64 (eS u most).1]):=by
 have key:Pure Tryz.prog 23 [u.av,i64 most] (fun r=>r=if(eS u most).1=0 then .dD [jO (mn (iX u (eS u most).2)),i64 0] else .dD [.sc (.slice none 0 0),i64 (eS u most).1]):=by
  by_cases h0:(eS u most).1=0
  ·rw[if_pos h0]
   have hll:=DU hu h0
   have hel:=yM u (eS u most).2
   have hen:=FP u hu most h0
   have hfe:=iK (iX u (eS u most).2)
   generalize iX u (eS u most).2=es at *
   refine cm ?_ (EB _ _)
   refine aI V1 rfl ?_
   refine cV ?_
   refine aF (cS.J2 (e:=105) (sz:=3) (es:=es.map cx.av) (cs:=[i64 0]) (by simp[mD]) (by rw[List.length_map];exact hen) hfe (by simp[cK,cX,cD])) ?_
   rintro _ H1 n1 ⟨rfl,rfl,rfl⟩
   rw[List.length_map]
   refine cV ?_
   refine aF (yJ (b:=5) (l:=es) (by omega) ⟨.any, ?_⟩ ?_) ?_
   ·exact bx
   ·exact cZ
   rintro r H2 n2 ⟨hfz,b,m,hform⟩
   rcases hform with rfl|⟨q,rfl⟩
   all_goals
    refine cV ?_
    refine⟨?_⟩
    show AV.dD [cu.dX _ 5 _,i64 0]=_
    exact congrArg (fun x=>AV.dD [x,i64 0]) hfz
  ·rw[if_neg h0]
   have c0:=FQ u hu most
   unfold vG at c0
   rw[if_neg h0] at c0
   have c1:=A6
   generalize (eS u most).1=er at *
   refine aD V1 rfl ?_
   refine cV ?_
   first|exact rfl|trivial
 refine gB key (EB _ _) fun c=> ?_
 unfold gF
 by_cases h0:(eS u most).1=0
 ·rw[if_pos h0,if_pos h0,h0];exact fun _ h=>h
 ·rw[if_neg h0,if_neg h0]
  exact dV.dD (.cons (dV.jw _ _ _ _) (.cons (fun _ h=>h) .nil))
theorem w8 (l:List cx):∀k,∀e∈lZ l k,∃j,j<k/\e=l.getD j default
 |0,e,h=>by simp[lZ] at h
 |1,e,h=>by simp only[lZ,List.mem_cons,List.not_mem_nil,or_false] at h;exact⟨0,by omega,h⟩
 |k+2,e,h=>by
  rw[lZ] at h
  split at h
  ·obtain⟨j,h1,h2⟩:=w8 l (k+1) e h
   exact⟨j,by omega,h2⟩
  ·rcases List.mem_append.1 h with h|h
   ·obtain⟨j,h1,h2⟩:=w8 l (k+1) e h
    exact⟨j,by omega,h2⟩
   ·simp only[List.mem_cons,List.not_mem_nil,or_false] at h
    exact⟨k+1,by omega,h⟩
theorem sB (l:List cx):∀k j,j<k->l.getD j default∈lZ l k
 |0,j,h=>by omega
 |1,j,h=>by
  obtain rfl:j=0:=by omega
  simp[lZ]
 |k+2,j,h=>by
  rw[lZ]
  split
  ·rename_i e
   by_cases hj:j=k+1
   ·rw[hj,e];exact sB l (k+1) k (by omega)
   ·exact sB l (k+1) j (by omega)
  ·by_cases hj:j=k+1
   ·rw[hj];exact List.mem_append.2 (.inr (by simp))
   ·exact List.mem_append.2 (.inl (sB l (k+1) j (by omega)))
theorem xI {α:Type} {R:α->α->Prop} {l:List α} (h:l.Pairwise R) (d:α) {i j:Nat} (hi:i<j) (hj:j<l.length):R (l.getD i d) (l.getD j d):=by
 have:=List.pairwise_iff_getElem.1 h i j (by omega) hj hi
 simpa[List.getD,hj,show i<l.length by omega] using this
theorem oR {l:List cx} (h:l.Pairwise fun x y=>vk gY x y=true):∀k,k<=l.length->(lZ l k).Pairwise fun x y=>gY x y<0
 |0,_=>by simp[lZ]
 |1,_=>by simp[lZ]
 |k+2,hk=>by
  rw[lZ]
  split
  ·exact oR h (k+1) (by omega)
  ·rename_i hne
   refine List.pairwise_append.2 ⟨oR h (k+1) (by omega),by simp,fun a ha b hb=> ?_⟩
   simp only[List.mem_cons,List.not_mem_nil,or_false] at hb
   subst hb
   obtain⟨j,hj,rfl⟩:=w8 l _ a ha
   have h1:=xI h default (i:=j) (j:=k+1) (by omega) (by omega)
   have h2:vk gY (l.getD j default) (l.getD k default)=true:=by
    by_cases e:j=k
    ·rw[e];simp[vk,(kD.zero _ _).2 rfl]
    ·exact xI h default (by omega) (by omega)
   have h3:=xI h default (i:=k) (j:=k+1) (by omega) (by omega)
   have h4:gY (l.getD j default) (l.getD (k+1) default)≠0:=fun e=>by
    have e1:=(kD.zero _ _).1 e
    rw[<-e1] at h3
    have:=kD.EH h3 h2
    exact hne (by rw[this,<-e1])
   simp only[vk,decide_eq_true_eq] at h1
   omega
theorem BB {u:bz} {l:List cc} {e:cx}:e∈di u l l.length↔∃i,i<l.length/\(l.getD i default).m.stuck u=true/\e=(l.getD i default).m.end_ u:=by
 unfold di
 rw[List.take_length,List.mem_filterMap]
 constructor
 ·rintro⟨f,hf,he⟩
  obtain⟨i,hi,rfl⟩:=List.mem_iff_getElem.1 hf
  split at he
  ·rename_i hs
   cases he
   refine⟨i,hi, ?_⟩
   rw[show l.getD i default=l[i] by simp[List.getD,hi]]
   exact⟨hs,rfl⟩
  ·cases he
 ·rintro⟨i,hi,hs,rfl⟩
  refine⟨l.getD i default,cT default hi, ?_⟩
  rw[if_pos hs]
theorem vH {u:bz} {l:List cc} {e:cx}:e∈iX u l↔e∈di u l l.length:=by
 have hp:=lu gY (di u l l.length)
 unfold iX
 constructor
 ·intro h
  obtain⟨j,hj,rfl⟩:=w8 _ _ _ h
  exact hp.mem_iff.1 (cT default (by rw[hp.length_eq];exact hj))
 ·intro h
  obtain⟨j,hj,rfl⟩:=List.mem_iff_getElem.1 (hp.mem_iff.2 h)
  have:=sB (gI gY (di u l l.length)) (di u l l.length).length j (by rw[<-hp.length_eq];exact hj)
  rwa[show(gI gY (di u l l.length)).getD j default=(gI gY (di u l l.length))[j] by simp[List.getD,hj]] at this
theorem wa (u:bz) (l:List cc):(iX u l).Pairwise fun x y=>gY x y<0:=by
 unfold iX
 refine oR (kD.sorted _) _ ?_
 rw[nr]
 exact Nat.le_refl _
theorem GK {l l':List cc} (h:l<+:l') {k:List UInt8} (hk:k∈jr l):k∈jr l':=by
 obtain⟨t,rfl⟩:=h
 simp only[jr,List.map_append,List.mem_append]
 exact .inl hk
theorem J4 {l l':List cc} (h:l<+:l') {k:Nat} (hk:k<l.length):l'.getD k default=l.getD k default:=by
 obtain⟨t,rfl⟩:=h
 simp[List.getD,List.getElem?_append,hk]
def DQ (u:bz) (l:List cc) (k t:Nat):Prop:=(l.getD k default).m.ja u t=0->iU ((l.getD k default).m.step u t).1∈jr l
theorem DQ.pre {u:bz} {l l':List cc} {k t:Nat} (h:DQ u l k t) (hk:k<l.length) (hp:l<+:l'):DQ u l' k t:=by
 unfold DQ at *
 rw[J4 hp hk]
 exact fun hb=>GK hp (h hb)
end Go.Proofs.YtjopoheligmmoaaGreatDoor
namespace Go.Proofs.YtjopoheligmmoaaGreatDoor
open Go Go.cu Go.Proofs
open Go.Lib (decDigits itoa)
set_option linter.unusedSimpArgs false
set_option linter.unusedVariables false
end Go.Proofs.YtjopoheligmmoaaGreatDoor
namespace Go.Proofs.YtjopoheligmmoaaGreatDoor
open Go Go.cu Go.Proofs
set_option linter.unusedSimpArgs false
set_option linter.unusedVariables false
set_option maxRecDepth 8000
theorem N4 {u:bz} {l:List cc} {e:cx} (h:e∈iX u l):∃i,i<l.length/\fg u l e l.length=some i/\(l.getD i default).m.stuck u=true/\(l.getD i default).m.end_ u=e:=by
 obtain⟨i,hi,h1,h2⟩:=BB.1 (vH.1 h)
 cases hh:fg u l e l.length with
 |none=>
  exfalso
  unfold fg at hh
  have:=List.find?_eq_none.1 hh i (List.mem_range.2 hi)
  rw[h1,h2,(kD.zero _ _).2 rfl] at this
  simp at this
 |some j=>
  refine⟨j,KN hh,rfl, ?_⟩
  unfold fg at hh
  have:=List.find?_some hh
  simp only[Bool.and_eq_true,decide_eq_true_eq] at this
  exact⟨this.1,(kD.zero _ _).1 this.2⟩
theorem AU (a b:List Int) (ha:a.length<9223372036854775807):Pure Tryz.prog 63 [cR a,cR b] (fun r=>r=i64 (fD ew a b)):=by
 refine aD YH rfl ?_
 refine cV ?_
 rw[List.length_map]
 refine aN (fun i:Nat=>[(0,cR a),(1,cR b),(9,cR a),(10,i64 a.length),(11,i64 i)]) (fun i H n=>i<=a.length/\i<=b.length/\fD ew a b=fD ew (a.drop i) (b.drop i)) (fun i=>a.length - i) 0 cH ⟨Nat.zero_le _,Nat.zero_le _,rfl⟩ ?_
 rintro i H n ⟨hi,hib,ho⟩
 rw[ho]
 have a0:(a.map i64).length=a.length:=by simp
 have a1:(b.map i64).length=b.length:=by simp
 by_cases hil:i<a.length
 ·have e0:=fun d=>ints_at hil d
  by_cases hbl:i<b.length
  ·have e1:=fun d=>ints_at hbl d
   have hd:=w3 ew 0 hil hbl
   have c0:=sd (a.getD i 0) (b.getD i 0)
   generalize a.getD i 0=p at *
   generalize b.getD i 0=q at *
   by_cases hz:ew p q=0
   ·have r0:=hz
    rw[if_pos hz] at hd
    refine cV ?_
    exact⟨i+1,by omega,cH,by omega,by omega,hd⟩
   ·have r0:=decide_eq_true hz
    rw[if_neg hz] at hd
    refine cV ?_
    rw[hd]
  ·rw[sh ew hil (by omega)]
   refine cV ?_
   first|exact rfl|trivial
 ·obtain rfl:i=a.length:=by omega
  rw[sf ew (Nat.le_refl _) hib]
  by_cases h:a.length<b.length
  ·rw[if_pos h]
   refine cV ?_
   first|exact rfl|trivial
  ·rw[if_neg h]
   refine cV ?_
   first|exact rfl|trivial
def FH (a b:List Int):Int:=tn [ew a.length b.length,fD ew a b]
theorem FI (a b:List Int) (ha:a.length<9223372036854775807) (hb:b.length<9223372036854775807):Pure Tryz.prog 60 [cR a,cR b] (fun r=>r=i64 (FH a b)):=by
 have e:FH a b=tn [ew ((a.map i64).length:Int) ((b.map i64).length:Int),fD ew a b]:=by
  unfold FH;rw[List.length_map,List.length_map]
 rw[e]
 have c0:=sd ((a.map i64).length:Int) ((b.map i64).length:Int)
 have c1:=AU a b ha
 have c2:=xG [ew ((a.map i64).length:Int) ((b.map i64).length:Int),fD ew a b] (by simp)
 refine aD YF rfl ?_
 refine cV ?_
 refine aR (args2:=[cR [ew ((a.map i64).length:Int) ((b.map i64).length:Int),fD ew a b]]) (r:=i64 (tn [ew ((a.map i64).length:Int) ((b.map i64).length:Int),fD ew a b])) c2 rfl (by simp[cX,cK]) trivial ?_
 refine cV ?_
 first|exact rfl|trivial
def wz (w:List Int):List (List Int)->List Int
 |[]=>w
 |x::r=>wz (if FH x w<0 then x else w) r
abbrev ZD:AV:= .fn (.func 60) [] []
abbrev kd (l:List (List Int)):List AV:=l.map cR
theorem E0 {l:List (List Int)} {i:Nat} (h:i<l.length) (d:AV):(kd l).getD i d=cR (l.getD i []):=dN cR l i d h
theorem G1 {l:List (List Int)} {i:Nat} (h:i<l.length) (w:List Int):wz w (l.drop i)=wz (if FH (l.getD i []) w<0 then l.getD i [] else w) (l.drop (i+1)):=by
 rw[List.drop_eq_getElem_cons h,wz,show l.getD i []=l[i] by simp[List.getD,h]]
set_option maxHeartbeats 2000000 in
theorem LA {l:List (List Int)} (h0:0<l.length) (hl:l.length<=65536) (hw:∀w∈l,w.length<=1048576) {b:Nat} {H:Hp} {nx:Nat} (hb:∃d,bu H b=some (.row 31 1 d (kd l))) (hlt:b<nx):
 cS Tryz.prog 59 [.sl b l.length,ZD] H nx (fun r H' n=>r=cR (wz (l.getD 0 []) (l.drop 1))):=by
 obtain⟨d0,r0'⟩:=hb
 have a0:(kd l).length=l.length:=List.length_map _
 have e0:∀d,(kd l).getD (0:Int).toNat d=cR (l.getD 0 []):=fun d=>E0 h0 d
 refine aI YE rfl ?_
 refine cV ?_
 clear e0
 refine aN (fun σ:Nat×List Int=>[(0, .sl b l.length),(1,ZD),(5,cR σ.2),(6,i64 σ.1)])
  (fun σ H2 n=>σ.1<=l.length/\σ.2.length<=1048576/\wz σ.2 (l.drop σ.1)=wz (l.getD 0 []) (l.drop 1)/\nx<=n/\bu H2 b=some (.row 31 1 d0 (kd l))) (fun σ=>l.length - σ.1) (1,l.getD 0 [])
  cH ⟨by show 1<=l.length;omega,hw _ (cT [] h0),rfl,cZ,bx⟩ ?_
 clear r0'
 rintro⟨i,w⟩ H2 n ⟨hi,hwl,hm,hn,r0'⟩
 dsimp only at hi hwl hm ⊢
 by_cases hil:i<l.length
 ·have e0:∀d,(kd l).getD ((i:Int)).toNat d=cR (l.getD i []):=fun d=>by rw[Int.toNat_natCast];exact E0 hil d
  have hxl:=hw _ (cT [] hil)
  rw[G1 hil] at hm
  generalize l.getD i []=x at *
  have c0:=FI x w (by omega) (by omega)
  by_cases hc:FH x w<0
  ·rw[if_pos hc] at hm
   have r1:=decide_eq_true hc
   refine cV ?_
   exact⟨(i+1,x),by dsimp only;omega,cH,by dsimp only;omega,hxl,hm,cZ,bx⟩
  ·rw[if_neg hc] at hm
   have r1:=decide_eq_false hc
   refine cV ?_
   exact⟨(i+1,w),by dsimp only;omega,cH,by dsimp only;omega,hwl,hm,cZ,bx⟩
 ·obtain rfl:i=l.length:=by omega
  rw[List.drop_length,wz] at hm
  refine cV ?_
  exact⟨by rw[<-hm]⟩
theorem JC {u:bz} {l:List cc} (hf:jL u l):∀i,i<l.length->(oC l i).length<=i:=by
 intro i
 induction i using Nat.strongRecOn with
 |_ i ih=>
  intro hi
  by_cases h0:i=0
  ·subst h0
   rw[ux (by rw[hf.first];show ¬(0:Int)<=-1;omega)]
   exact Nat.le_refl _
  ·obtain⟨k,t,h1,h2,h3,h4⟩:=hf.JF i (by omega) hi
   have hfr:(l.getD i default).from_=k:=by rw[h4]
   rw[xu hf hi (by rw[hfr];omega),hfr,Int.toNat_natCast,List.length_cons]
   have:=ih k h1 (by omega)
   omega
theorem H8 {u:bz} (hu:u.Wf) {most:Int} (h0:(eS u most).1=0) {e:cx} (he:e∈gF u most):∃i,i<(eS u most).2.length/\fg u (eS u most).2 e (eS u most).2.length=some i/\((eS u most).2.getD i default).m.stuck u=true/\((eS u most).2.getD i default).m.end_ u=e/\e.ended=false:=by
 unfold gF at he
 rw[if_pos h0] at he
 obtain⟨h1,h2⟩:=List.mem_filter.1 he
 obtain⟨i,g1,g2,g3,g4⟩:=N4 h1
 exact⟨i,g1,g2,g3,g4,by simpa using h2⟩
theorem M8 {u:bz} (hu:u.Wf) {most:Int} (h0:(eS u most).1=0):ca u/\jL u (eS u most).2/\(eS u most).2.length<=65536:=by
 obtain⟨hr,hm,l,hs,he⟩:=DV hu h0
 obtain⟨hf,h2,_⟩:=lU hu hr (by omega) hs
 rw[he]
 exact⟨hr,hf,by omega⟩
noncomputable def qL (u:bz) (most:Int) (e:cx):List Int:=kR (eS u most).2 (fg u (eS u most).2 e (eS u most).2.length)
theorem IH {u:bz} (hu:u.Wf) {most:Int} (h0:(eS u most).1=0) {e:cx} (he:e∈gF u most):Pure Tryz.prog 58 [u.av,i64 most,e.av] (fun r=>r= .dD [cR (qL u most e),bl true,i64 0])/\(qL u most e).length<=65536:=by
 obtain⟨hr,hf,hl⟩:=M8 hu h0
 obtain⟨i,g1,g2,g3,g4,g5⟩:=H8 hu h0 he
 obtain⟨q1,q2⟩:=hf.ok i g1
 have hm:=q1.ml
 have hs:=hr.oW
 have c:=MO u hu most e (by rw[<-g4];show(((eS u most).2.getD i default).m.cJ).length * 16<=_;omega) (by rw[<-g4];show(((eS u most).2.getD i default).m.mem).length * 8<=_;omega)
 unfold wB at c
 rw[if_pos h0,g2] at c
 refine⟨?_, ?_⟩
 ·unfold qL;rw[g2];exact c
 ·unfold qL;rw[g2]
  show((oC _ i).reverse).length<=_
  have:=JC hf i g1
  rw[List.length_reverse];omega
noncomputable def wC (u:bz) (most:Int):List (List Int):=(gF u most).map (qL u most)
noncomputable def xY (u:bz) (most:Int):List Int:=wz ((wC u most).getD 0 []) ((wC u most).drop 1)
theorem DJ {u:bz} (hu:u.Wf) {most:Int} (h0:(eS u most).1=0):(gF u most).length<=65536:=by
 have hll:=DU hu h0
 have hel:=yM u (eS u most).2
 unfold gF;rw[if_pos h0]
 exact Nat.le_trans (List.length_filter_le _ _) (by omega)
theorem fx (l:List Int) (b:Bool) (e:Int):cK 0 (.dD [cR l,bl b,i64 e]):=by
 simp[cK,cX,cD]
set_option maxHeartbeats 2000000 in
theorem MN (u:bz) (hu:u.Wf) (most:Int) (h0:(eS u most).1=0) (hne:gF u most≠[]):Pure Tryz.prog 25 [u.av,i64 most] (fun r=>r= .dD [cR (xY u most),bl true,i64 0]):=by
 have c0:=xW u hu most
 rw[h0] at c0
 have hsl:=DJ hu h0
 have hwp:=fun e he=>IH (e:=e) hu h0 he
 have hpos:0<(gF u most).length:=List.length_pos_iff.2 hne
 unfold xY wC
 generalize gF u most=es at *
 have a0:(es.map cx.av).length=es.length:=List.length_map _
 refine cm ?_ (fx _ _ _)
 refine aI RN rfl ?_
 refine cV ?_
 simp only[List.length_map]
 refine aS (fun i:Nat=>[(2, .pt 0 1 0 0),(1,i64 most),(9, .sl 17 i),(24,jO es),(25,i64 es.length),(26,i64 i)])
  (fun i H n=>i<=es.length/\18<=n/\(∃d,bu H 0=some (.row 25 3 d [u.av]))/\∃d,bu H 17=some (.row 31 1 d (kd ((es.take i).map (qL u most))))) (fun i=>es.length - i) 0
  ⟨_,_,_,Rt.nil 9 31 1 (by omega) rfl,cH,Nat.zero_le _,cZ,⟨_,bx⟩,⟨_,bx⟩⟩ ?_
 rintro i H n ⟨hi,hn,⟨d0,r0⟩,⟨d1,r1⟩⟩
 have a1:(kd ((es.take i).map (qL u most))).length=i:=by
  unfold kd;rw[List.length_map,List.length_map,List.length_take];omega
 by_cases hil:i<es.length
 ·have e0:∀d,(es.map cx.av).getD ((i:Int)).toNat d=(es.getD i default).av:=fun d=>by rw[Int.toNat_natCast];exact iJ hil d
  have hmem:=cT (default:cx) hil
  obtain⟨c1,hwl⟩:=hwp _ hmem
  have hnx:(es.take (i+1)).map (qL u most)=(es.take i).map (qL u most)++[qL u most (es.getD i default)]:=by
   rw[List.take_succ_eq_append_getElem hil,List.map_append];simp[List.getD,hil]
  refine cV ?_
  exact⟨i+1,by omega,_,_,_,Rt.refl _ _ _,cH,by omega,cZ,⟨_,bx⟩,⟨_,by rw[hnx];unfold kd;rw[List.map_append];exact bx⟩⟩
 ·obtain rfl:i=es.length:=by omega
  rw[List.take_length] at r1
  have hlen:(es.map (qL u most)).length=es.length:=List.length_map _
  have hmin:=fun(H:Hp) (nx:Nat)=>LA (H:=H) (nx:=nx) (l:=es.map (qL u most)) (b:=17) (by omega) (by omega) (fun w hw=>by
   obtain⟨e,he,rfl⟩:=List.mem_map.1 hw
   have:=(hwp e he).2
   omega)
  rw[hlen] at hmin
  refine cV ?_
  refine aF (hmin _ _ ⟨d1, ?_⟩ cZ) ?_
  ·exact bx
  rintro _ H2 n2 rfl
  refine cV ?_
  exact⟨rfl⟩
theorem ZB (u:bz) (hu:u.Wf) (most:Int):Pure Tryz.prog 25 [u.av,i64 most] (fun r=>r= .dD [cR (xY u most),bl (decide (gF u most≠[])),i64 (eS u most).1]):=by
 by_cases h0:(eS u most).1=0
 ·by_cases hne:gF u most=[]
  ·have c0:=xW u hu most
   rw[hne,h0] at c0
   have hw:xY u most=[]:=by unfold xY wC;rw[hne];rfl
   rw[hw,h0,decide_eq_false (fun h=>h hne)]
   have key:Pure Tryz.prog 25 [u.av,i64 most] (fun r=>r= .dD [.sc (.slice none 0 0),bl false,i64 0]):=by
    refine aD RN rfl ?_
    refine cV ?_
    refine aN (fun _:Nat=>[(9, .sc (.slice none 0 0)),(25,i64 0),(26,i64 0)]) (fun _ H n=>True) (fun _=>0) 0 cH trivial ?_
    rintro _ H n _
    refine cV ?_
    first|exact rfl|trivial
   refine gB key (fx _ _ _) fun c=>dV.dD (.cons (dV.jw _ _ _ _) (.cons (fun _ h=>h) (.cons (fun _ h=>h) .nil)))
  ·rw[h0,decide_eq_true hne]
   exact MN u hu most h0 hne
 ·have hs:gF u most=[]:=by unfold gF;rw[if_neg h0]
  have hw:xY u most=[]:=by unfold xY wC;rw[hs];rfl
  rw[hw,decide_eq_false (fun h=>h hs)]
  have c0:=xW u hu most
  have key:Pure Tryz.prog 25 [u.av,i64 most] (fun r=>r= .dD [.sc (.slice none 0 0),bl false,i64 (eS u most).1]):=by
   generalize gF u most=es at *
   generalize (eS u most).1=er at *
   refine aD RN rfl ?_
   refine cV ?_
   first|exact rfl|trivial
  refine gB key (fx _ _ _) fun c=>dV.dD (.cons (dV.jw _ _ _ _) (.cons (fun _ h=>h) (.cons (fun _ h=>h) .nil)))
end Go.Proofs.YtjopoheligmmoaaGreatDoor
namespace Go.cu
open Go.RowKit
set_option linter.unusedSimpArgs false
set_option linter.unusedVariables false
theorem cS.Q8 {P:Program} {f:FuncId} {args args2:List AV} {e:TypeId} {sz:Nat} {es cs:List AV} (qP:mD cs) (h:cS P f args2 [] 0 (fun r1 H1 _=>∃b d0,r1= .dD (.sl b es.length::cs)/\bu H1 b=some (.row e sz d0 es))) (hfl:∀i,i<es.length->gN (es.getD i .any)) (d:AV) {H:Hp} {id:Nat} (ha:args.map (dX H 6)=args2) (hfa:cX 0 args2):
 kj P f args H id (fun r' H''=>r'= .dD (.sl id es.length::cs)/\H''=dS H (some (id, .row e sz d es))):=by
 refine⟨h.1,fun w0 c vs hS hH hid hv=> ?_⟩
 have hS0:du c.w ⟨fun _=>none,bu [],fun _=>False,c.w,c.M0⟩:=⟨Below.refl _ _,hS.l7,fun b e sz d es he=>by simp[bu] at he,fun b b' k k' blk o z o' z' hk=>by simp[bu] at hk⟩
 subst ha
 have hv':ct ⟨fun _=>none,bu [],fun _=>False,c.w,c.M0⟩ (args.map (dX H 6)) vs:=lB hS hH hfa hv
 refine(h.2 c.w _ vs hS0 rfl (fun _ h=>h.elim) hv').mono ?_
 rintro en w' ⟨v,r1,H1,nx',ρ,U,he,⟨b,d0,rfl,hb⟩,hU,hS',_,hvr⟩
 rw[VR] at hvr
 obtain⟨us,hus,hvr⟩:=hvr
 rw[ct] at hvr
 obtain⟨x,v3,hx3,hvr,hv3⟩:=hvr
 rw[VR] at hvr
 obtain⟨_,ad,cap,hvv,hrr⟩:=hvr
 obtain⟨_,hr2⟩:=hrr _ _ _ _ hb
 have hr3:=hr2 rfl
 obtain⟨_,hz,hor⟩:=hS'.jz b _ _ _ _ hb (uB hr3)
 have hbel:=hS'.below
 obtain⟨s1,s2⟩:=hS.world hbel
 have hHeq:bu (dS H (some (id, .row e sz d es)))=fM c.H id (some (.row e sz d es)):=by rw[dj,hH]
 have fin:∀c2:Cx,VR c2 (.sl id es.length) x->VR c2 (.dD (.sl id es.length::cs)) v:=fun c2 h2=>by
  rw[VR]
  refine⟨us,hus, ?_⟩
  rw[hx3,ct]
  exact⟨x,v3,rfl,h2,nT qP hv3⟩
 rcases hor with⟨h0,hes⟩|⟨blk,o,z,hρ,hlow,⟨arr,harr,hsz⟩,hlz,hrow⟩
 ·subst hes
  obtain⟨p1,p2⟩:=s1.HD (b:=id) (e:=e) (sz:=sz) d hz hid
  refine⟨v,_,_,fM c.ρ id none,he,⟨rfl,rfl⟩, ?_, ?_,fin _ ?_⟩
  ·rw[hHeq];exact p1
  ·rw[hHeq];exact s2.trans p2
  ·rw[hHeq,VR]
   refine⟨.inr rfl,ad,cap,hvv,fun e' sz' d' es' he'=> ?_⟩
   simp only[jQ,dU,Option.some.injEq,fC.row.injEq] at he'
   obtain⟨rfl,rfl,rfl,rfl⟩:=he'
   refine⟨Nat.le_refl _,fun _=> .inl ⟨by simp[jQ], ?_⟩⟩
   rcases hr3 with⟨_,h2,h3⟩|⟨blk,o,z,h2,_⟩
   ·exact⟨h2,h3⟩
   ·rw[h0] at h2;cases h2
 ·obtain⟨p1,p2⟩:=hS.py (b:=id) (e:=e) (sz:=sz) d (es:=es) (w':=w') (blk:=blk) (o:=o) (z:=z) hz (.inl hid) (.inl hlow) hbel.os hbel.tape hbel.output hbel.size (fun k hk _=>hbel.block k hk) harr hsz hlz (fun hle i hi=>by
   obtain⟨y,x1,x2⟩:=dz hrow i hi
   refine⟨y,x1,mc ?_ x2⟩
   have:=hfl i hi
   simpa[List.getD,hi] using this)
  refine⟨v,_,_,fM c.ρ id (some (blk,o,z)),he,⟨rfl,rfl⟩, ?_, ?_,fin _ ?_⟩
  ·rw[hHeq];exact p1
  ·rw[hHeq];exact p2
  ·rw[hHeq,VR]
   refine⟨.inr rfl,ad,cap,hvv,fun e' sz' d' es' he'=> ?_⟩
   simp only[jQ,dU,Option.some.injEq,fC.row.injEq] at he'
   obtain⟨rfl,rfl,rfl,rfl⟩:=he'
   refine⟨by omega,fun _=> .inr ⟨blk,o,z,by simp[jQ], ?_⟩⟩
   rcases hr3 with⟨h2,_,_⟩|⟨blk',o',z',h2,h3,h4,h5,h6⟩
   ·rw[hρ] at h2;cases h2
   ·rw[hρ] at h2;cases h2
    exact⟨h3,h4,h5,h6⟩
theorem cS.NZ {P:Program} {f:FuncId} {args args2:List AV} {e:TypeId} {sz:Nat} {es cs:List AV} (qP:mD cs) (h:cS P f args2 [] 0 (fun r1 H1 _=>∃b d0,r1= .dD (.sl b es.length::cs)/\bu H1 b=some (.row e sz d0 es))) (hfl:∀i,i<es.length->gN (es.getD i .any)) {H:Hp} {nx:Nat} (ha:args.map (dX H 6)=args2) (hfa:cX 0 args2):
 cS P f args H nx (fun r H' n=>r= .dD (.sl nx es.length::cs)/\H'=(nx,some (.row e sz .any es))::H/\n=nx+1):=
 (kj.Y9 (h.Q8 qP hfl .any ha hfa)).mono fun r H' n ⟨⟨h1,h2⟩,h3⟩=>⟨h1,h2,h3⟩
end Go.cu
namespace Go.Proofs.YtjopoheligmmoaaGreatDoor
open Go Go.cu Go.Proofs
set_option linter.unusedSimpArgs false
set_option linter.unusedVariables false
set_option maxRecDepth 8000
theorem C5 (l m:List Int) (hl:l.length * 8<=140737488351232) (hm:m.length * 8<=140737488351232):Pure Tryz.prog 44 [eu l,eu m] (fun r=>r=bl (decide (l=m))):=by
 refine aD V3 rfl ?_
 unfold eu
 repeat' (first|refine aQ ?_|exact aC|with_reducible refine aB ?_ ?_|(apply aA;(·exact cL))|refine aH ?_|((with_reducible refine aE ?_ ?_)<;>intro hc<;>try(exfalso;omega)))
 ·refine eK (Eq.symm ?_)
  exact decide_eq_false fun e=>hc (by rw[e])
 ·have hlm:l.length=m.length:=by omega
  refine aN (fun i:Nat=>[(0,eu l),(1,eu m),(5,i64 i)])
   (fun i H n=>i<=l.length/\∀j,j<i->l.getD j 0=m.getD j 0) (fun i=>l.length - i) 0 cH ⟨Nat.zero_le _,fun _ h=>by omega⟩ ?_
  unfold eu
  rintro i H n ⟨hi,hall⟩
  by_cases hil:i<l.length
  ·have e1:=lJ (l:=l) hil
   have e2:=lJ (l:=m) (i:=i) (by omega)
   repeat' (first|refine aQ ?_|exact aC|with_reducible refine aB ?_ ?_|(apply aA;(·(first|exact e1 _|exact e2 _|exact cL)))|refine aH ?_|((with_reducible refine aE ?_ ?_)<;>intro hc<;>try(exfalso;omega)))
   ·refine eK (Eq.symm ?_)
    exact decide_eq_false fun e=>hc (by rw[e])
   ·refine⟨i+1,by omega,cH,by omega,fun j hj=> ?_⟩
    by_cases hji:j=i
    ·subst hji;exact hc
    ·exact hall j (by omega)
  ·have:i=l.length:=by omega
   subst this
   repeat' (first|refine aQ ?_|exact aC|with_reducible refine aB ?_ ?_|(apply aA;(·exact cL))|refine aH ?_|((with_reducible refine aE ?_ ?_)<;>intro hc<;>try(exfalso;omega)))
   refine eK (Eq.symm ?_)
   refine decide_eq_true (List.ext_getElem hlm fun j h1 h2=> ?_)
   have:=hall j h1
   simpa[List.getD,h1,h2] using this
theorem kF (l m:List Int) (hl:l.length * 8<=140737488351232) (hm:m.length * 8<=140737488351232):Pure Tryz.prog 18 [cR l,cR m] (fun r=>r=bl (decide (l=m))):=by
 have c0:=C5 l m hl hm
 unfold eu at c0
 refine aD XY rfl ?_
 refine cV ?_
 first|exact rfl|trivial
def TE (k th nx o:Int):Node:=⟨k,0,0,th,⟨false,0,0⟩,⟨false,0,0⟩,nx,0,o⟩
def SP (name:List UInt8) (a b:Int):cF:=⟨⟨name.toArray⟩,0,0,[TE 5 a 1 0,TE 5 b 2 1,TE 6 b 3 2,TE 6 a 4 3,TE 9 0 0 4]⟩
def mX:bz:=⟨[],[⟨⟨(List.toArray [108])⟩,0,0⟩,⟨⟨(List.toArray [109])⟩,0,0⟩],[SP [97] 0 1,SP [98] 1 0]⟩
theorem sk (name:List UInt8) (a b:Int):Pure Tryz.prog 47 [.sc (.string ⟨(List.toArray name)⟩),i64 a,i64 b] (fun r=>r=(SP name a b).av):=by
 refine cm ?_ (by simp[cK,cD])
 refine aI X9 rfl ?_
 refine cV ?_
 exact⟨rfl⟩
theorem pN:ca mX:=jc.1 (by decide+kernel)
theorem yI:mX.Wf:=by
 have hd:∀d∈mX.cB,d.Wf:=fun d h=>by
  simp only[mX,List.mem_cons,List.not_mem_nil,or_false] at h
  rcases h with rfl|rfl<;>exact⟨by decide+kernel,by decide+kernel,by decide+kernel⟩
 refine⟨fun _ h=>by simp[mX] at h,by simp[mX],hd,by simp[mX],fun g hg=> ?_,by simp[mX]⟩
 simp only[mX,List.mem_cons,List.not_mem_nil,or_false] at hg
 rcases hg with rfl|rfl<;>
 ·refine⟨by decide+kernel,by decide+kernel,by decide+kernel,fun n hn=> ?_,by decide+kernel⟩
  simp only[SP,List.mem_cons,List.not_mem_nil,or_false] at hn
  rcases hn with rfl|rfl|rfl|rfl|rfl<;>
   exact⟨by decide+kernel,by decide+kernel,by decide+kernel,by decide+kernel,⟨by decide+kernel,by decide+kernel⟩,⟨by decide+kernel,by decide+kernel⟩,by decide+kernel,by decide+kernel,by decide+kernel⟩
theorem yH:df mX=[⟨0,1,0,1⟩,⟨1,0,1,1⟩]:=by decide+kernel
theorem NN:gG mX=fun h=>if h=0 then[1] else if h=1 then[0] else[]:=by
 funext h
 unfold gG
 rw[yH]
 have e:ji [⟨0,1,0,1⟩,⟨1,0,1,1⟩] h=if h=0 then[1] else if h=1 then[0] else[]:=by
  unfold ji
  simp only[List.foldl_cons,List.foldl_nil]
  by_cases h0:h=0
  ·subst h0;simp
  ·by_cases h1:h=1
   ·subst h1;simp
   ·have e0:¬(0:Int)=h:=fun e=>h0 e.symm
    have e1:¬(1:Int)=h:=fun e=>h1 e.symm
    simp[h0,h1,e0,e1]
 rw[e]
 unfold eR
 split
 ·simp
 ·split<;>simp
theorem NO:rY mX=some [0,1]:=by
 unfold rY
 rw[NN]
 decide+kernel
theorem NM:gR mX (fB mX (cr mX) [0,1])=some [0,1]:=by decide+kernel
def MV:List cc:=(iG mX 99).getD []
theorem QX:iG mX 99=some MV:=by
 have h:(iG mX 99).isSome=true:=by decide+kernel
 unfold MV
 cases hs:iG mX 99 with
 |none=>rw[hs] at h;cases h
 |some l=>rfl
def SO:cx:=⟨[],[],false⟩
theorem NL:∀e∈di mX MV MV.length,e.ended=true\/e=SO:=by decide+kernel
theorem QY:SO∈di mX MV MV.length:=by decide+kernel
theorem QZ:kR MV (fg mX MV SO MV.length)=[0,1]:=by decide+kernel
theorem D0:eS mX 99=(0,MV):=by rw[pH pN (by decide),show(99:Int).toNat=99 from rfl,QX]
theorem K4 {u:bz} {l:List cc} {x:cx} (h:∀e∈di u l l.length,e.ended=true\/e=x) (hx:x∈di u l l.length) (hx2:x.ended=false):mn (iX u l)=[x]:=by
 have h1:=(wa u l).filter fun e=> !e.ended
 change (mn (iX u l)).Pairwise _ at h1
 have h2:∀e,e∈mn (iX u l)↔e=x:=fun e=>by
  unfold mn
  rw[List.mem_filter,vH]
  constructor
  ·rintro⟨q1,q2⟩
   rcases h e q1 with h3|h3
   ·rw[h3] at q2;cases q2
   ·exact h3
  ·rintro rfl
   exact⟨hx,by rw[hx2];rfl⟩
 cases hl:mn (iX u l) with
 |nil=>exact absurd ((h2 x).2 rfl) (by rw[hl];simp)
 |cons a t=>
  rw[hl] at h1 h2
  have ha:=(h2 a).1 (by simp)
  subst ha
  cases t with
  |nil=>rfl
  |cons b t=>
   have hb:=(h2 b).1 (by simp)
   subst hb
   have:=(List.pairwise_cons.1 h1).1 b (by simp)
   rw[(kD.zero _ _).2 rfl] at this
   omega
theorem sj:gF mX 99=[SO]:=by
 unfold gF
 rw[D0]
 rw[if_pos rfl]
 exact K4 NL QY rfl
theorem NP:xY mX 99=[0,1]:=by
 unfold xY wC
 rw[sj]
 show qL mX 99 SO=[0,1]
 unfold qL
 rw[D0]
 exact QZ
abbrev JK:AV:= .agg [.sc (.slice none 0 0),cE mX.cB,cW mX.bw]
theorem si (c:Cx):dV c c JK mX.av:=cu.dV.agg (.cons (cu.dV.jw c c 3 .any) (.cons (fun _ h=>h) (.cons (fun _ h=>h) .nil)))
theorem WR (u:bz) (hu:u.Wf) (hr:ca u):Pure Tryz.prog 15 [u.av] (fun r=>r= .dD [cR ((rY u).getD []),bl (rY u).isSome,i64 0]):=by
 have key:Pure Tryz.prog 15 [u.av] (fun r=>r=match rY u with|none=> .dD [.sc (.slice none 0 0),bl false,i64 0]|some w=> .dD [cR w,bl true,i64 0]):=by
  refine cm ((HH u hu hr).mono ?_) (by split<;>simp[cK,cX,cD])
  intro r H n h
  unfold IW at h
  cases hq:rY u with
  |none=>rw[hq] at h;dsimp only at h ⊢;rw[h];rfl
  |some w=>
   rw[hq] at h
   obtain⟨b,d,rfl,hb⟩:=h
   show AV.dD [cu.dX H 5 (.sl b w.length),bl true,i64 0]=_
   rw[dI (k:=4) hb (by simp),cn _ ((cD _ _).2 fun _ _=>by simp[cK])]
 refine gB key (fx _ _ _) fun c=> ?_
 cases rY u with
 |none=>exact dV.dD (.cons (dV.jw _ _ _ _) (.cons (fun _ h=>h) (.cons (fun _ h=>h) .nil)))
 |some w=>exact fun _ h=>h
theorem TU (u:bz) (hu:u.Wf) (hr:ca u) (w:List Int) (hw:w.length<=1048576):Pure Tryz.prog 21 [u.av,cR w] (fun r=>r= .dD [cR ((gR u (fB u (cr u) w)).getD []),bl (gR u (fB u (cr u) w)).isSome,i64 0]):=by
 have key:Pure Tryz.prog 21 [u.av,cR w] (fun r=>r=match gR u (fB u (cr u) w) with|none=> .dD [.sc (.slice none 0 0),bl false,i64 0]|some w=> .dD [cR w,bl true,i64 0]):=by
  refine cm ((vj u hu hr w hw).mono ?_) (by split<;>simp[cK,cX,cD])
  intro r H n h
  unfold xe at h
  cases hq:gR u (fB u (cr u) w) with
  |none=>rw[hq] at h;dsimp only at h ⊢;rw[h];rfl
  |some w=>
   rw[hq] at h
   obtain⟨b,d,rfl,hb⟩:=h
   show AV.dD [cu.dX H 5 (.sl b w.length),bl true,i64 0]=_
   rw[dI (k:=4) hb (by simp),cn _ ((cD _ _).2 fun _ _=>by simp[cK])]
 refine gB key (fx _ _ _) fun c=> ?_
 cases gR u (fB u (cr u) w) with
 |none=>exact dV.dD (.cons (dV.jw _ _ _ _) (.cons (fun _ h=>h) (.cons (fun _ h=>h) .nil)))
 |some w=>exact fun _ h=>h
theorem JL {H:Hp} {nx:Nat} {b:Nat} (hb:∃d,bu H b=some (.row 3 1 d [i64 0,i64 1])):cS Tryz.prog 21 [JK, .sl b 2] H nx (fun r H' n=>r= .dD [.sl nx 2,bl true,i64 0]/\H'=(nx,some (.row 3 1 .any [i64 0,i64 1]))::H/\n=nx+1):=by
 have h:=vj mX yI pN [0,1] (by decide)
 have h2:=cS.args (bs:=[JK,cR [0,1]]) h fun c=> .cons (si c) (.cons (fun _ h=>h) .nil)
 obtain⟨d,hb⟩:=hb
 refine cS.NZ (es:=[i64 0,i64 1]) (cs:=[bl true,i64 0]) (args2:=[JK,cR [0,1]]) (by simp[mD]) (h2.mono ?_) ?_ ?_ ?_
 ·intro r H1 n1 hR
  unfold xe at hR
  rw[NM] at hR
  exact hR
 ·intro i hi
  match i,hi with
  |0,_=>trivial
  |1,_=>trivial
 ·show[cu.dX H 6 JK,cu.dX H 6 (.sl b [i64 0,i64 1].length)]=_
  rw[dM _ (show cK 0 JK by simp[cK,cX,cD]),dI (k:=5) hb rfl]
  rfl
 ·simp[cK,cX,cD]
theorem w7 {H:Hp} {b:Nat} {d:AV} (hb:bu H b=some (.row 3 1 d [i64 0,i64 1])):cu.dX H 6 (.sl b 2)=cR [0,1]:=by
 show cu.dX H 6 (.sl b [i64 0,i64 1].length)=_
 rw[dI (k:=5) hb rfl]
 rfl
theorem A5 {H:Hp} {x y a b:AV} (h1:cu.dX H 6 x=a) (h2:cu.dX H 6 y=b):[x,y].map (cu.dX H 6)=[a,b]:=by
 subst h1 h2
 rfl
theorem D1 {H:Hp}:cu.dX H 6 (cR [0,1])=cR [0,1]:=dM _ (by simp[cK,cX,cD])
theorem xw:Pure Tryz.prog 20 [] (fun r=>r=bl true):=by
 have c0:Pure Tryz.prog 47 [.sc (.string ⟨⟨[⟨⟨⟨97,by decide⟩⟩⟩]⟩⟩),i64 0,i64 1] (fun r=>r=(SP [97] 0 1).av):=sk [97] 0 1
 have c1:Pure Tryz.prog 47 [.sc (.string ⟨⟨[⟨⟨⟨98,by decide⟩⟩⟩]⟩⟩),i64 1,i64 0] (fun r=>r=(SP [98] 1 0).av):=sk [98] 1 0
 refine cm ?_ (by simp[cK])
 refine au XZ rfl ?_
 refine WL.cut ?_
 refine cV ?_
 refine⟨_,_,_,Rt.refl _ _ _,WL.cut ?_⟩
 refine cV ?_
 refine⟨[(1, .pt 6 1 0 0)],_,_,Rt.trans (Rt.wk (Wk.iT (cb:=6) (kQ [3,4] _) 5 .any rfl fun b q hq=>qv hq)) (Rt.less cH),WL.last ?_⟩
 refine af (b:=6) (q:=some (.row 25 3 .any [JK])) rfl ?_
 intro H2 r3
 have c0:Pure Tryz.prog 13 [JK] (fun r=>r= .dD [w9 (df mX),i64 0]):=Pure.args (su mX yI pN) fun c=> .cons (si c) .nil
 have c1:Pure Tryz.prog 15 [JK] (fun r=>r= .dD [cR [0,1],bl true,i64 0]):=Pure.args (by have:=WR mX yI pN;rw[NO] at this;exact this) fun c=> .cons (si c) .nil
 have c2:Pure Tryz.prog 25 [JK,i64 99] (fun r=>r= .dD [cR [0,1],bl true,i64 0]):=Pure.args (by have:=ZB mX yI 99;rw[NP,sj,D0] at this;exact this) fun c=> .cons (si c) (.cons (fun _ h=>h) .nil)
 have c3:Pure Tryz.prog 23 [JK,i64 99] (fun r=>r= .dD [jO [SO],i64 0]):=Pure.args (by have:=xW mX yI 99;rw[sj,D0] at this;exact this) fun c=> .cons (si c) (.cons (fun _ h=>h) .nil)
 refine cV ?_
 refine aF (JL ⟨_,bx⟩) ?_
 rintro _ H3 n3 ⟨rfl,rfl,rfl⟩
 rw[yH]
 refine cV ?_
 refine aR (args2:=[cR [0,1],cR [0,1]]) (kF [0,1] [0,1] (by decide) (by decide)) (A5 D1 (w7 bx)) (by simp[cX,cK,cD]) trivial ?_
 refine cV ?_
 refine aR (args2:=[cR [0,1],cR [0,1]]) (kF [0,1] [0,1] (by decide) (by decide)) (A5 (w7 bx) (w7 bx)) (by simp[cX,cK,cD]) trivial ?_
 refine cV ?_
 refine aR (args2:=[cR [0,1],cR [0,1]]) (kF [0,1] [0,1] (by decide) (by decide)) (A5 D1 (w7 bx)) (by simp[cX,cK,cD]) trivial ?_
 refine cV ?_
 first|exact rfl|exact⟨rfl⟩|trivial
section
section
variable {u:bz} {m:MS}
def IX (u:bz) (m:MS):Prop:=(∀t,t<u.bw.length->m.ja u (t:Nat)≠0)/\∃t,t<u.bw.length/\m.ja u (t:Nat)≠70
theorem IX.ZN (hr:ca u) (h:uQ u m) (hs:IX u m):∃l,gR u m=some l:=by
 obtain⟨h1,t,h2,h3⟩:=hs
 exact DH hr h h1 h2 h3
theorem fT.next {l:List Int} (hk:fT u m l) {i:Nat} (hi:i<l.length):(m.node u (l.getD i 0).toNat).kind=5/\m.hold.getD (m.node u (l.getD i 0).toNat).cG.toNat 0=l.getD ((i+1)%l.length) 0:=by
 have h1:=hk.ring.on i hi
 have h3:=hk.ring.nn _ (cT 0 (Nat.mod_lt (i+1) hk.ring.pos))
 unfold dJ at h1
 split at h1
 ·rename_i h5
  exact⟨h5,h1⟩
 ·omega
end
end
section
open Classical in
noncomputable def jI (u:bz) (w:List Int):Int:=if ca u then(if w.length<=1048576 then 0 else 3) else 60
open Classical in
noncomputable def gn (u:bz) (w:List Int):Option (List Int):=if jI u w=0 then gR u (fB u (cr u) w) else none
theorem KS (u:bz) (hu:u.Wf) (w:List Int):Pure Tryz.prog 21 [u.av,cR w] (fun r=>r= .dD [cR ((gn u w).getD []),bl (gn u w).isSome,i64 (jI u w)]):=by
 have nilR:∀(e:Int) (c:Cx),dV c c (.dD [.sc (.slice none 0 0),bl false,i64 e]) (.dD [cR [],bl false,i64 e]):=fun e c=>dV.dD (.cons (dV.jw _ _ _ _) (.cons (fun _ h=>h) (.cons (fun _ h=>h) .nil)))
 by_cases hr:ca u
 ·by_cases hw:w.length<=1048576
  ·have hE:jI u w=0:=by unfold jI;rw[if_pos hr,if_pos hw]
   have hQ:gn u w=gR u (fB u (cr u) w):=by unfold gn;rw[if_pos hE]
   rw[hE,hQ]
   exact TU u hu hr w hw
  ·have hE:jI u w=3:=by unfold jI;rw[if_pos hr,if_neg hw]
   have hQ:gn u w=none:=by unfold gn;rw[hE];rfl
   rw[hE,hQ]
   refine gB (cm ((GM u hu hr w (by omega)).mono fun r H n h=>by rw[h];rfl) (by simp[cK,cX])) (fx _ _ _) fun c=>nilR 3 c
 ·have hE:jI u w=60:=by unfold jI;rw[if_neg hr]
  have hQ:gn u w=none:=by unfold gn;rw[hE];rfl
  rw[hE,hQ]
  exact gB (KT u hu hr w) (fx _ _ _) fun c=>nilR 60 c
end
section
structure PM (u:bz) (m:MS) (mr a s me ho pr:Nat) (ids:List Nat) (H:Hp):Prop where
 rM:∃d,bu H mr=some (.row 96 8 d [m.rows u a s me ho pr])
 rA:∃d,bu H a=some (.row 3 1 d (m.at_.map i64))
 rS:∃d,bu H s=some (.row 93 1 d (dR ids m.cA))
 rL:∀t,t<m.cA.length->∃d,bu H (ids.getD t 0)=some (.row 2 1 d ((m.cA.getD t []).map i64))
 rE:∃d,bu H me=some (.row 2 1 d (m.mem.map i64))
 rH:∃d,bu H ho=some (.row 3 1 d (m.hold.map i64))
 rP:∃d,bu H pr=some (.row 155 2 d (m.cJ.map dP.av))
 len:ids.length=m.cA.length
 nodup:(mr::a::s::me::ho::pr::ids).Nodup
abbrev ML.Nt (L:ML) (u:bz) (m:MS) (H:Hp):Prop:=PM u m L.mr L.a L.s L.me L.ho L.pr L.ids H
theorem PM.BK {u:bz} {m:MS} {mr a s me ho pr:Nat} {ids:List Nat} {H:Hp} (h:PM u m mr a s me ho pr ids H) (k:Nat):cu.dX H (k+4) (.pt mr 1 0 0)=m.fz u:=by
 obtain⟨d1,h1⟩:=h.rM
 obtain⟨d2,h2⟩:=h.rA
 obtain⟨d3,h3⟩:=h.rS
 obtain⟨d4,h4⟩:=h.rE
 obtain⟨d5,h5⟩:=h.rH
 obtain⟨d6,h6⟩:=h.rP
 have hsl:(dR ids m.cA).length=m.cA.length:=by unfold dR;rw[List.length_map,List.length_zip,h.len];simp
 have hs:(dR ids m.cA).map (cu.dX H (k+1))=m.cA.map cR:=by
  apply List.ext_getElem (by simp[hsl])
  intro t q1 q2
  have ht:t<m.cA.length:=by simpa using q2
  have hti:t<ids.length:=by rw[h.len];exact ht
  obtain⟨d,hd⟩:=h.rL t ht
  rw[show ids.getD t 0=ids[t] by simp[List.getD,hti],show m.cA.getD t []=m.cA[t] by simp[List.getD,ht]] at hd
  rw[List.getElem_map,List.getElem_map]
  simp only[dR,List.getElem_map,List.getElem_zip]
  rw[dI hd (by simp),cn _ ((cD _ _).2 fun _ _=>by simp[cK])]
 simp only[cu.dX,h1]
 simp only[List.length_cons,List.length_nil,if_true,List.map_cons,List.map_nil,MS.rows]
 rw[pS]
 simp only[List.map_cons,List.map_nil]
 rw[dI h2 (by simp),dI h3 hsl,dI h4 (by simp),dI h5 (by simp),dI h6 (by simp),hs]
 rw[cn _ ((cD _ _).2 fun _ _=>by simp[cK]),cn _ ((cD _ _).2 fun _ _=>by simp[cK]),cn _ ((cD _ _).2 fun _ _=>by simp[cK]),cn _ ((cD _ _).2 fun _ _=>by simp[cK])]
 rw[dM _ (show cK 0 (cE u.shared) by simp[cK,cD]),dM _ (show cK 0 (cE u.cB) by simp[cK,cD]),dM _ (show cK 0 (cW u.bw) by simp[cK,cD])]
 rfl
theorem PM.Q9 {u:bz} {m:MS} {mr a s me ho pr:Nat} {ids:List Nat} {H:Hp} (h:PM u m mr a s me ho pr ids H) (k:Nat):cu.dX H (k+3) (m.rows u a s me ho pr)=m.av u:=by
 obtain⟨d1,h1⟩:=h.rM
 obtain⟨d2,h2⟩:=h.rA
 obtain⟨d3,h3⟩:=h.rS
 obtain⟨d4,h4⟩:=h.rE
 obtain⟨d5,h5⟩:=h.rH
 obtain⟨d6,h6⟩:=h.rP
 have hsl:(dR ids m.cA).length=m.cA.length:=by unfold dR;rw[List.length_map,List.length_zip,h.len];simp
 have hs:(dR ids m.cA).map (cu.dX H (k+1))=m.cA.map cR:=by
  apply List.ext_getElem (by simp[hsl])
  intro t q1 q2
  have ht:t<m.cA.length:=by simpa using q2
  have hti:t<ids.length:=by rw[h.len];exact ht
  obtain⟨d,hd⟩:=h.rL t ht
  rw[show ids.getD t 0=ids[t] by simp[List.getD,hti],show m.cA.getD t []=m.cA[t] by simp[List.getD,ht]] at hd
  rw[List.getElem_map,List.getElem_map]
  simp only[dR,List.getElem_map,List.getElem_zip]
  rw[dI hd (by simp),cn _ ((cD _ _).2 fun _ _=>by simp[cK])]
 rw[MS.rows,pS]
 simp only[List.map_cons,List.map_nil]
 rw[dI h2 (by simp),dI h3 hsl,dI h4 (by simp),dI h5 (by simp),dI h6 (by simp),hs]
 rw[cn _ ((cD _ _).2 fun _ _=>by simp[cK]),cn _ ((cD _ _).2 fun _ _=>by simp[cK]),cn _ ((cD _ _).2 fun _ _=>by simp[cK]),cn _ ((cD _ _).2 fun _ _=>by simp[cK])]
 rw[dM _ (show cK 0 (cE u.shared) by simp[cK,cD]),dM _ (show cK 0 (cE u.cB) by simp[cK,cD]),dM _ (show cK 0 (cW u.bw) by simp[cK,cD])]
 rfl
section
variable {u:bz} {m:MS} {L:ML} {H H':Hp}
theorem ML.Nt.mem (h:L.Nt u m H):(∀x∈[L.a,L.s,L.me,L.ho,L.pr],x∈L.all):=by
 intro x hx
 simp only[List.mem_cons,List.not_mem_nil,or_false] at hx
 simp only[ML.all,List.mem_cons]
 omega
theorem ng (h:L.Nt u m H) {t:Nat} (ht:t<m.cA.length):L.it t∈L.all:=by
 have:L.it t∈L.ids:=eA (by rw[h.len];exact ht)
 simp only[ML.all,List.mem_cons]
 exact .inr (.inr (.inr (.inr (.inr (.inr this)))))
theorem RW (h:L.Nt u m H) {t s:Nat} (ht:t<m.cA.length) (hs:s<m.cA.length) (e:s≠t):L.it s≠L.it t:=by
 have h1:=(List.nodup_cons.1 (List.nodup_cons.1 (List.nodup_cons.1 (List.nodup_cons.1 (List.nodup_cons.1 (List.nodup_cons.1 h.nodup).2).2).2).2).2).2
 have hl:=h.len
 intro he
 have ht':t<L.ids.length:=by omega
 have hs':s<L.ids.length:=by omega
 have:L.ids[s]=L.ids[t]:=by simpa[ML.it,List.getD,ht',hs'] using he
 exact e ((List.getElem_inj h1).1 this)
theorem kZ (h:L.Nt u m H) {t:Nat} (ht:t<m.cA.length):L.PJ t:=by
 have hn:=h.nodup
 have hi:L.it t∈L.ids:=eA (by rw[h.len];exact ht)
 have hne:∀x,x∉L.ids->L.it t≠x:=fun x hx e=>hx (e▸hi)
 simp only[List.nodup_cons,List.mem_cons,not_or] at hn
 obtain⟨⟨a1,a2,a3,a4,a5,a6⟩,⟨b1,b2,b3,b4,b5⟩,⟨c1,c2,c3,c4⟩,⟨d1,d2,d3⟩,⟨e1,e2⟩,f1,_⟩:=hn
 exact⟨⟨a1,a2,a3,a4,a5,b1,b2,b3,b4,c1,c2,c3,d1,d2,e1⟩,hne _ a6,hne _ b5,hne _ c4,hne _ d3,hne _ e2,hne _ f1⟩
theorem ML.Nt.c8 (h:L.Nt u m H) (hk:∀y∈L.all,bu H' y=bu H y):L.Nt u m H':=by
 have hm:=h.mem
 obtain⟨d1,h1⟩:=h.rM
 obtain⟨d2,h2⟩:=h.rA
 obtain⟨d3,h3⟩:=h.rS
 obtain⟨d4,h4⟩:=h.rE
 obtain⟨d5,h5⟩:=h.rH
 obtain⟨d6,h6⟩:=h.rP
 refine⟨⟨d1,(hk _ (by simp)).trans h1⟩,⟨d2,(hk _ (hm _ (by simp))).trans h2⟩,⟨d3,(hk _ (hm _ (by simp))).trans h3⟩,fun t ht=> ?_,⟨d4,(hk _ (hm _ (by simp))).trans h4⟩,⟨d5,(hk _ (hm _ (by simp))).trans h5⟩,⟨d6,(hk _ (hm _ (by simp))).trans h6⟩,h.len,h.nodup⟩
 obtain⟨d,hd⟩:=h.rL t ht
 exact⟨d,(hk _ (ng h ht)).trans hd⟩
theorem ML.Nt.dw (h:L.Nt u m H) {t:Nat} (ht:t<m.cA.length) (k w:Int) (hit:∃d,bu H' (L.it t)=some (.row 2 1 d (((m.cA.getD t []).map i64).set k.toNat (i64 w)))) (hk:∀y∈L.all,y≠L.it t->bu H' y=bu H y):L.Nt u (m.dw t k w) H':=by
 obtain⟨-,n1,n2,n3,n4,n5,n6⟩:=kZ h ht
 have hm:=h.mem
 obtain⟨d1,h1⟩:=h.rM
 obtain⟨d2,h2⟩:=h.rA
 obtain⟨d3,h3⟩:=h.rS
 obtain⟨d4,h4⟩:=h.rE
 obtain⟨d5,h5⟩:=h.rH
 obtain⟨d6,h6⟩:=h.rP
 have hl:(m.dw t k w).cA.length=m.cA.length:=by simp[MS.dw]
 have hrow:dR L.ids (m.dw t k w).cA=dR L.ids m.cA:=by
  unfold dR MS.dw
  apply List.ext_getElem (by simp)
  intro i q1 q2
  simp only[List.getElem_map,List.getElem_zip,AV.sl.injEq,true_and]
  rw[List.getElem_set]
  have hi:i<m.cA.length:=by simp at q2;omega
  split
  ·rename_i e;subst e;rw[List.length_set];simp[List.getD,hi]
  ·rfl
 refine⟨⟨d1, ?_⟩,⟨d2,(hk _ (hm _ (by simp)) gl).trans h2⟩,⟨d3,by rw[hrow];exact(hk _ (hm _ (by simp)) gl).trans h3⟩,fun s hs=> ?_,⟨d4,(hk _ (hm _ (by simp)) gl).trans h4⟩,⟨d5,(hk _ (hm _ (by simp)) gl).trans h5⟩,⟨d6,(hk _ (hm _ (by simp)) gl).trans h6⟩,by rw[hl];exact h.len,h.nodup⟩
 ·rw[show(m.dw t k w).rows u L.a L.s L.me L.ho L.pr=m.rows u L.a L.s L.me L.ho L.pr by simp[MS.rows,MS.dw]]
  exact(hk _ (by simp) gl).trans h1
 ·rw[hl] at hs
  by_cases e:s=t
  ·subst e
   obtain⟨d,hd⟩:=hit
   refine⟨d,hd.trans ?_⟩
   rw[show(m.dw s k w).cA.getD s []=(m.cA.getD s []).set k.toNat w from ec hs,List.map_set]
  ·obtain⟨d,hd⟩:=h.rL s hs
   refine⟨d, ?_⟩
   rw[show(m.dw t k w).cA.getD s []=m.cA.getD s [] from getD_set_ne (Ne.symm e)]
   exact(hk _ (ng h hs) (RW h ht hs e)).trans hd
theorem ML.Nt.ft (h:L.Nt u m H) {t:Nat} (ht:t<m.cA.length) (k w:Int) (hme:∃d,bu H' L.me=some (.row 2 1 d ((m.mem.map i64).set k.toNat (i64 w)))) (hk:∀y∈L.all,y≠L.me->bu H' y=bu H y):L.Nt u { m with mem:=m.mem.set k.toNat w } H':=by
 obtain⟨⟨a1,a2,a3,a4,a5,b1,b2,b3,b4,c1,c2,c3,e1,e2,f1⟩,n1,n2,n3,n4,n5,n6⟩:=kZ h ht
 have hm:=h.mem
 obtain⟨d1,h1⟩:=h.rM
 obtain⟨d2,h2⟩:=h.rA
 obtain⟨d3,h3⟩:=h.rS
 obtain⟨d4,h4⟩:=hme
 obtain⟨d5,h5⟩:=h.rH
 obtain⟨d6,h6⟩:=h.rP
 refine⟨⟨d1, ?_⟩,⟨d2,(hk _ (hm _ (by simp)) gl).trans h2⟩,⟨d3,(hk _ (hm _ (by simp)) gl).trans h3⟩,fun s hs=> ?_,⟨d4,by rw[List.map_set];exact h4⟩,⟨d5,(hk _ (hm _ (by simp)) gl).trans h5⟩,⟨d6,(hk _ (hm _ (by simp)) gl).trans h6⟩,h.len,h.nodup⟩
 ·rw[show({ m with mem:=m.mem.set k.toNat w }:MS).rows u L.a L.s L.me L.ho L.pr=m.rows u L.a L.s L.me L.ho L.pr by simp[MS.rows]]
  exact(hk _ (by simp) gl).trans h1
 ·obtain⟨d,hd⟩:=h.rL s hs
  obtain⟨m1,m2,m3,m4,m5,m6⟩:=(kZ h hs).it
  exact⟨d,(hk _ (ng h hs) gl).trans hd⟩
theorem ML.Nt.yi (h:L.Nt u m H) {t:Nat} (ht:t<m.cA.length) (k w:Int) (hho:∃d,bu H' L.ho=some (.row 3 1 d ((m.hold.map i64).set k.toNat (i64 w)))) (hk:∀y∈L.all,y≠L.ho->bu H' y=bu H y):L.Nt u { m with hold:=m.hold.set k.toNat w } H':=by
 obtain⟨⟨a1,a2,a3,a4,a5,b1,b2,b3,b4,c1,c2,c3,e1,e2,f1⟩,n1,n2,n3,n4,n5,n6⟩:=kZ h ht
 have hm:=h.mem
 obtain⟨d1,h1⟩:=h.rM
 obtain⟨d2,h2⟩:=h.rA
 obtain⟨d3,h3⟩:=h.rS
 obtain⟨d4,h4⟩:=h.rE
 obtain⟨d5,h5⟩:=hho
 obtain⟨d6,h6⟩:=h.rP
 refine⟨⟨d1, ?_⟩,⟨d2,(hk _ (hm _ (by simp)) gl).trans h2⟩,⟨d3,(hk _ (hm _ (by simp)) gl).trans h3⟩,fun s hs=> ?_,⟨d4,(hk _ (hm _ (by simp)) gl).trans h4⟩,⟨d5,by rw[List.map_set];exact h5⟩,⟨d6,(hk _ (hm _ (by simp)) gl).trans h6⟩,h.len,h.nodup⟩
 ·rw[show({ m with hold:=m.hold.set k.toNat w }:MS).rows u L.a L.s L.me L.ho L.pr=m.rows u L.a L.s L.me L.ho L.pr by simp[MS.rows]]
  exact(hk _ (by simp) gl).trans h1
 ·obtain⟨d,hd⟩:=h.rL s hs
  obtain⟨m1,m2,m3,m4,m5,m6⟩:=(kZ h hs).it
  exact⟨d,(hk _ (ng h hs) gl).trans hd⟩
theorem ML.Nt.FA (h:L.Nt u m H) {t:Nat} (ht:t<m.cA.length) (k:Nat) (w:Int) (hat:∃d,bu H' L.a=some (.row 3 1 d ((m.at_.map i64).set k (i64 w)))) (hk:∀y∈L.all,y≠L.a->bu H' y=bu H y):L.Nt u { m with at_:=m.at_.set k w } H':=by
 obtain⟨⟨a1,a2,a3,a4,a5,b1,b2,b3,b4,c1,c2,c3,e1,e2,f1⟩,n1,n2,n3,n4,n5,n6⟩:=kZ h ht
 have hm:=h.mem
 obtain⟨d1,h1⟩:=h.rM
 obtain⟨d2,h2⟩:=hat
 obtain⟨d3,h3⟩:=h.rS
 obtain⟨d4,h4⟩:=h.rE
 obtain⟨d5,h5⟩:=h.rH
 obtain⟨d6,h6⟩:=h.rP
 refine⟨⟨d1, ?_⟩,⟨d2,by rw[List.map_set];exact h2⟩,⟨d3,(hk _ (hm _ (by simp)) gl).trans h3⟩,fun s hs=> ?_,⟨d4,(hk _ (hm _ (by simp)) gl).trans h4⟩,⟨d5,(hk _ (hm _ (by simp)) gl).trans h5⟩,⟨d6,(hk _ (hm _ (by simp)) gl).trans h6⟩,h.len,h.nodup⟩
 ·rw[show({ m with at_:=m.at_.set k w }:MS).rows u L.a L.s L.me L.ho L.pr=m.rows u L.a L.s L.me L.ho L.pr by simp[MS.rows]]
  exact(hk _ (by simp) gl).trans h1
 ·obtain⟨d,hd⟩:=h.rL s hs
  obtain⟨m1,m2,m3,m4,m5,m6⟩:=(kZ h hs).it
  exact⟨d,(hk _ (ng h hs) gl).trans hd⟩
theorem ML.Nt.CI (h:L.Nt u m H) {t:Nat} (ht:t<m.cA.length) (p:dP) (hmr:∃d,bu H' L.mr=some (.row 96 8 d [({ m with cJ:=m.cJ++[p] }:MS).rows u L.a L.s L.me L.ho L.pr])) (hpr:∃d,bu H' L.pr=some (.row 155 2 d (m.cJ.map dP.av++[p.av]))) (hk:∀y∈L.all,y≠L.pr->y≠L.mr->bu H' y=bu H y):L.Nt u { m with cJ:=m.cJ++[p] } H':=by
 obtain⟨⟨a1,a2,a3,a4,a5,b1,b2,b3,b4,c1,c2,c3,e1,e2,f1⟩,n1,n2,n3,n4,n5,n6⟩:=kZ h ht
 have hm:=h.mem
 obtain⟨d2,h2⟩:=h.rA
 obtain⟨d3,h3⟩:=h.rS
 obtain⟨d4,h4⟩:=h.rE
 obtain⟨d5,h5⟩:=h.rH
 obtain⟨d6,h6⟩:=hpr
 refine⟨hmr,⟨d2,(hk _ (hm _ (by simp)) gl gl).trans h2⟩,⟨d3,(hk _ (hm _ (by simp)) gl gl).trans h3⟩,fun s hs=> ?_,⟨d4,(hk _ (hm _ (by simp)) gl gl).trans h4⟩,⟨d5,(hk _ (hm _ (by simp)) gl gl).trans h5⟩,⟨d6,by rw[List.map_append];exact h6⟩,h.len,h.nodup⟩
 obtain⟨d,hd⟩:=h.rL s hs
 obtain⟨m1,m2,m3,m4,m5,m6⟩:=(kZ h hs).it
 exact⟨d,(hk _ (ng h hs) gl gl).trans hd⟩
end
end
end Go.Proofs.YtjopoheligmmoaaGreatDoor
