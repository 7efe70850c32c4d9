import Derived.Test.YtjopoheligmmoaaGreatDoorM37
import Derived.Test.YtjopoheligmmoaaGreatDoorM36
import Derived.Test.YtjopoheligmmoaaGreatDoorM38
import Derived.Test.YtjopoheligmmoaaGreatDoorM34
import Derived.Test.YtjopoheligmmoaaGreatDoorM30
import Derived.Test.YtjopoheligmmoaaGreatDoorM32
import Derived.Test.YtjopoheligmmoaaGreatDoorM25
import Derived.Test.YtjopoheligmmoaaGreatDoorM27
import Derived.Test.YtjopoheligmmoaaGreatDoorM29
namespace Go.cw
open Go.RowKit
set_option linter.unusedSimpArgs false
set_option linter.unusedVariables false
theorem cU.rt {P:Program} {f:FuncId} {args:List AV} {H:Hp} {nx:Nat} {R R2:AV->Hp->Nat->Prop} (h:cU P f args H nx R) (hR:∀r H' n,R r H' n->∃fr2 H2 n2,Rt [(0,r)] H' n fr2 H2 n2/\R2 (cq fr2 0) H2 n2):cU P f args H nx R2:=by
 refine⟨h.1,fun w0 c vs a1 a2 a3 a4=>(h.2 w0 c vs a1 a2 a3 a4).mono ?_⟩
 rintro e w' ⟨v,r,H',nx',ρ,U,rfl,hRr,hU,hS,hle,hv⟩
 obtain⟨fr2,H2,n2,hw,hR2⟩:=hR r H' nx' hRr
 have hh:Holds w0 c.M0 ⟨ρ,bt H',U,w',c.M0⟩ nx' 1 [(0,r)] H' nx' ⟨#[v],[]⟩ w':=by
  refine⟨rfl,rfl,ρ,U,hU,hS,fun t=> ?_,⟨hU,Cx.le.refl _⟩⟩
  by_cases ht:t=0
  ·subst ht;exact hv
  ·have:cq [(0,r)] t= .any:=by simp[cq,ht]
   rw[this];exact db.any _ _ _ _ (by rw[VR];trivial)
 obtain⟨_,_,ρ2,U2,k1,k2,k3,k4⟩:=hw _ _ _ _ _ _ _ hh
 exact⟨v,_,H2,n2,ρ2,U2,rfl,hR2,k1,k2,hle.trans k4.2,k3 0⟩
theorem cU.QE {P:Program} {f:FuncId} {args:List AV} {e:TypeId} {sz:Nat} {es cs:List AV} (qq:mi cs) (h:cU P f args [] 0 (fun r1 H1 _=>∃b d0,r1= .dI (.sl b es.length::cs)/\bt H1 b=some (.row e sz d0 es))) (hes:c8 0 es) (d:AV) {H:Hp} {id:Nat} (hfa:c8 0 args):
 lO P f args H id (fun r' H''=>r'= .dI (.sl id es.length::cs)/\H''=dS H (some (id, .row e sz d es))):=by
 refine⟨h.1,fun w0 c vs hS hH hid hv=> ?_⟩
 have hS0:dy c.w ⟨fun _=>none,bt [],fun _=>False,c.w,c.M⟩:=⟨Below.refl _ _,hS.fit,fun b e sz d es he=>by simp[bt] at he,fun b b' k k' blk o z o' z' hk=>by simp[bt] at hk⟩
 have hv':cu ⟨fun _=>none,bt [],fun _=>False,c.w,c.M⟩ args vs:=cu.nr (fun _ h=>h) hfa hv
 refine(h.2 c.w _ vs hS0 rfl (fun _ h=>h.elim) hv').mono ?_
 rintro en w' ⟨v,r1,H1,nx',ρ,U,he,⟨b,d0,rfl,hb⟩,hU,hS',_,hvr⟩
 rw[VR] at hvr
 obtain⟨us,hus,hvr⟩:=hvr
 rw[cu] at hvr
 obtain⟨x,v3,hx3,hvr,hv3⟩:=hvr
 have fin:∀c2:Cx,VR c2 (.sl id es.length) x->VR c2 (.dI (.sl id es.length::cs)) v:=fun c2 h2=>by
  rw[VR]
  refine⟨us,hus, ?_⟩
  rw[hx3,cu]
  exact⟨x,v3,rfl,h2,oJ qq hv3⟩
 rw[VR] at hvr
 obtain⟨_,ad,cap,hvv,hrr⟩:=hvr
 obtain⟨_,hr2⟩:=hrr _ _ _ _ hb
 have hr3:=hr2 rfl
 obtain⟨_,hz,hor⟩:=hS'.kO b _ _ _ _ hb (vI hr3)
 have hbel:=hS'.below
 obtain⟨s1,s2⟩:=hS.world hbel
 have hHeq:bt (dS H (some (id, .row e sz d es)))=fU c.H id (some (.row e sz d es)):=by rw[du,hH]
 rcases hor with⟨h0,hes0⟩|⟨blk,o,z,hρ,hlow,⟨arr,harr,hsz⟩,hlz,hrow⟩
 ·subst hes0
  obtain⟨p1,p2⟩:=s1.JM (b:=id) (e:=e) (sz:=sz) d hz hid
  refine⟨v,_,_,fU c.ρ id none,he,⟨rfl,rfl⟩, ?_, ?_,fin _ ?_⟩
  ·rw[hHeq];exact p1
  ·rw[hHeq];exact s2.trans p2
  ·rw[hHeq,VR]
   refine⟨.inr rfl,ad,cap,hvv,fun e' sz' d' es' he'=> ?_⟩
   simp only[j6,dV,Option.some.injEq,fH.row.injEq] at he'
   obtain⟨rfl,rfl,rfl,rfl⟩:=he'
   refine⟨Nat.le_refl _,fun _=> .inl ⟨by simp[j6], ?_⟩⟩
   rcases hr3 with⟨_,h2,h3⟩|⟨blk,o,z,h2,_⟩
   ·exact⟨h2,h3⟩
   ·rw[h0] at h2;cases h2
 ·obtain⟨p1,p2⟩:=hS.qc (b:=id) (e:=e) (sz:=sz) d (es:=es) (w':=w') (blk:=blk) (o:=o) (z:=z) hz (.inl hid) (.inl hlow) hbel.os hbel.tape hbel.output hbel.size (fun k hk _=>hbel.block k hk) harr hsz hlz (fun hle i hi=>by
   obtain⟨y,x1,x2⟩:=eC hrow i hi
   refine⟨y,x1, ?_⟩
   refine VR.gz (n:=0) ?_ ?_ x2
   ·refine⟨fun b hb=>absurd hb (Nat.not_lt_zero _),fun q hq _=>⟨rfl,fun hm=>hq ?_⟩,fun b hb=>absurd hb (Nat.not_lt_zero _)⟩
    rcases hm with hm|⟨b',k',o',z',h1,h2⟩
    ·exact Or.inl (show c.M q from Or.inl hm)
    ·dsimp only at h1 h2
     by_cases e:b'=id
     ·subst e
      rw[dV] at h2
      cases h2
      exact Or.inr ⟨b,_,_,_,hb,hρ⟩
     ·simp only[fU,if_neg e] at h1 h2
      exact Or.inl (show c.M q from Or.inr ⟨b',k',o',z',h1,h2⟩)
   ·have hx4:es.getD i .any=es[i]:=by simp[List.getD,hi]
    rw[hx4]
    exact nQ hes _ (List.getElem_mem hi))
  refine⟨v,_,_,fU c.ρ id (some (blk,o,z)),he,⟨rfl,rfl⟩, ?_, ?_,fin _ ?_⟩
  ·rw[hHeq];exact p1
  ·rw[hHeq];exact p2
  ·rw[hHeq,VR]
   refine⟨.inr rfl,ad,cap,hvv,fun e' sz' d' es' he'=> ?_⟩
   simp only[j6,dV,Option.some.injEq,fH.row.injEq] at he'
   obtain⟨rfl,rfl,rfl,rfl⟩:=he'
   refine⟨by omega,fun _=> .inr ⟨blk,o,z,by simp[j6], ?_⟩⟩
   rcases hr3 with⟨h2,_,_⟩|⟨blk',o',z',h2,h3,h4,h5,h6⟩
   ·rw[hρ] at h2;cases h2
   ·rw[hρ] at h2;cases h2
    exact⟨h3,h4,h5,h6⟩
theorem cU.MD {P:Program} {f:FuncId} {args:List AV} {e:TypeId} {sz:Nat} {es cs:List AV} (qq:mi cs) (h:cU P f args [] 0 (fun r1 H1 _=>∃b d0,r1= .dI (.sl b es.length::cs)/\bt H1 b=some (.row e sz d0 es))) (hes:c8 0 es) (hfa:c8 0 args) {H:Hp} {nx:Nat}:
 cU P f args H nx (fun r H' n=>r= .dI (.sl nx es.length::cs)/\H'=(nx,some (.row e sz .any es))::H/\n=nx+1):=
 (lO.toN (h.QE qq hes .any hfa)).mono fun r H' n ⟨⟨h1,h2⟩,h3⟩=>⟨h1,h2,h3⟩
end Go.cw
namespace Go.Proofs.YtjopoheligmmoaaGreatDoor
open Go Go.cw Go.Proofs
set_option linter.unusedSimpArgs false
set_option linter.unusedVariables false
set_option maxRecDepth 8000
set_option maxHeartbeats 4000000 in
theorem zK (o:Nat) (l:List cY) (hl:l.length<=65536) (hok:∀e∈l,e.cA.length<9223372036854775807/\e.mem.length<9223372036854775807) (H:Hp) (nx:Nat) (ho:o<nx) (hr:∃d,bt H o=some (.row 105 3 d (l.map cY.av))):
 cU Tryz.prog 97 [.sl o l.length, .fn (.func 98) [] []] H nx (fun r H' n=>nx<=n/\(∀y,y<nx->y≠o->bt H' y=bt H y)/\(r= .sl o l.length/\(mH l l.length).length=l.length/\(∃d,bt H' o=some (.row 105 3 d ((mH l l.length).map cY.av)))\/∃es:List AV,r= .sv o l.length 0 (mH l l.length).length/\es.length=l.length/\(mH l l.length).length<=l.length/\es.take (mH l l.length).length=(mH l l.length).map cY.av/\∃d,bt H' o=some (.row 105 3 d es))):=by
 obtain⟨d0,r0'⟩:=hr
 have a0:(l.map cY.av).length=l.length:=by simp
 have same:∀i j,i<l.length->j<l.length->Pure Tryz.prog 98 [(l.getD i default).av,(l.getD j default).av] (fun r=>r=bl (decide (l.getD i default=l.getD j default))):=fun i j hi hj=>by
  obtain⟨p1,p2⟩:=hok _ (cO default hi)
  have:=p9 (l.getD i default) (l.getD j default) p1 p2
  simpa only[rG] using this
 refine aJ Y8 rfl ?_
 by_cases h2:l.length<2
 ·refine cP ?_
  have:mH l l.length=l:=by
   match l,h2 with
   |[],_=>rfl
   |[x],_=>rfl
  rw[this]
  exact⟨⟨cX,fun y y1 y2=>cE, .inl ⟨rfl,rfl,d0,bu⟩⟩⟩
 ·refine cP ?_
  refine aF (fun i:Nat=>[(0, .sl o l.length),(1, .fn (.func 98) [] []),(5,i64 i)]) (fun i H2 n=>1<=i/\i<=l.length/\nx<=n/\bt H2 o=some (.row 105 3 d0 (l.map cY.av))/\mH l i=l.take i/\∀y,y<nx->y≠o->bt H2 y=bt H y) (fun i=>l.length - i) 1 cC ⟨Nat.le_refl _,by omega,cX,bu,by rw[mH];cases l with|nil=>simp at h2|cons x t=>rfl,fun y y1 y2=>cE⟩ ?_
  clear r0'
  rintro i H2 n ⟨hi1,hi,hn,r0',hdd,hkp⟩
  by_cases hil:i<l.length
  ·have e0:∀d,(l.map cY.av).getD ((i:Int)).toNat d=(l.getD i default).av:=fun d=>by rw[Int.toNat_natCast];exact hX hil d
   have e1:∀d,(l.map cY.av).getD ((i:Int) - 1).toNat d=(l.getD (i - 1) default).av:=fun d=>by rw[show((i:Int) - 1).toNat=i - 1 by omega];exact hX (by omega) d
   have c0:=same i (i - 1) hil (by omega)
   have hsu:=qF l hi1
   by_cases he:l.getD i default=l.getD (i - 1) default
   ·rw[decide_eq_true he] at c0
    rw[if_pos he] at hsu
    refine cP ?_
    refine aF (fun σ:Nat×Nat×List cY=>[(0, .sl o l.length),(1, .fn (.func 98) [] []),(5,i64 σ.1),(6, .sv o l.length i (l.length - i)),(7,i64 σ.2.1)])
     (fun σ H2 n=>1<=σ.2.1/\i+σ.2.1<=l.length/\i<=σ.1/\σ.1+1<=i+σ.2.1/\σ.2.2.length=l.length/\(∀q,σ.1<=q->σ.2.2.getD q default=l.getD q default)/\σ.2.2.take σ.1=mH l (i+σ.2.1)/\nx<=n/\(∃d,bt H2 o=some (.row 105 3 d (σ.2.2.map cY.av)))/\∀y,y<nx->y≠o->bt H2 y=bt H y) (fun σ=>l.length - σ.2.1) (i,1,l) cC
     ⟨Nat.le_refl _,by show i+1<=l.length;omega,Nat.le_refl _,Nat.le_refl _,rfl,fun _ _=>rfl,by dsimp only;rw[hsu,hdd],cX,⟨_,bu⟩,fun y y1 y2=>Eq.trans cE (hkp y y1 y2)⟩ ?_
    clear c0 e0 e1 hsu hdd r0' hn hkp
    rintro⟨k,j,es⟩ H3 n ⟨hj1,hj,hik,hkj,hel,hsame,hdd,hn,⟨d1,r1'⟩,hkp⟩
    dsimp only at hj1 hj hik hkj hel hsame hdd r1' ⊢
    have a1:(es.map cY.av).length=l.length:=by simp[hel]
    by_cases hjl:j<l.length - i
    ·have e0:∀d,(es.map cY.av).getD (i+((j:Int)).toNat) d=(l.getD (i+j) default).av:=fun d=>by rw[Int.toNat_natCast,hX (by omega) d,hsame _ (by omega)]
     have e1:∀d,(es.map cY.av).getD (i+((j:Int) - 1).toNat) d=(l.getD (i+j - 1) default).av:=fun d=>by rw[show i+((j:Int) - 1).toNat=i+j - 1 by omega,hX (by omega) d,hsame _ (by omega)]
     have e2:∀d,(es.map cY.av).getD ((k:Int)).toNat d=(es.getD k default).av:=fun d=>by rw[Int.toNat_natCast];exact hX (by omega) d
     have c0:=same (i+j) (i+j - 1) (by omega) (by omega)
     have hsu:=qF l (k:=i+j) (by omega)
     by_cases he2:l.getD (i+j) default=l.getD (i+j - 1) default
     ·rw[decide_eq_true he2] at c0
      rw[if_pos he2] at hsu
      refine cP ?_
      exact⟨(k,j+1,es),by dsimp only;omega,cC,by dsimp only;omega,by dsimp only;omega,hik,by dsimp only;omega,hel,hsame,by dsimp only;rw[<-Nat.add_assoc,hsu];exact hdd,cX,⟨d1,bu⟩,fun y y1 y2=>Eq.trans cE (hkp y y1 y2)⟩
     ·rw[decide_eq_false he2] at c0
      rw[if_neg he2] at hsu
      refine cP ?_
      refine⟨(k+1,j+1,es.set k (l.getD (i+j) default)),by dsimp only;omega,cC,by dsimp only;omega,by dsimp only;omega,by dsimp only;omega,by dsimp only;omega,by simp[hel],fun q hq=> ?_, ?_,cX,⟨d1,by dsimp only;rw[List.map_set];exact bu⟩,fun y y1 y2=>Eq.trans cE (hkp y y1 y2)⟩
      ·have hq:k+1<=q:=hq
       dsimp only
       rw[getD_set_ne (by omega)];exact hsame q (by omega)
      ·dsimp only
       rw[<-Nat.add_assoc,hsu,lL (by omega),hdd]
    ·obtain rfl:j=l.length - i:=by omega
     rw[show i+(l.length - i)=l.length by omega] at hdd
     refine cP ?_
     rw[Int.toNat_natCast]
     have hkl:k<=l.length:=by omega
     have hkd:(mH l l.length).length=k:=by rw[<-hdd,List.length_take,hel];omega
     generalize hZ:List.replicate (l.length - k) (gO true [Value.slice none 0 0,Value.slice none 0 0,Value.bool false])=Z
     have hZl:Z.length=l.length - k:=by rw[<-hZ];simp
     rw[hkd]
     refine⟨⟨cX,fun y y1 y2=>Eq.trans cE (hkp y y1 y2), .inr ⟨(es.map cY.av).take k++Z++(es.map cY.av).drop (k+(l.length - k)),rfl, ?_,hkl, ?_,d1,bu⟩⟩⟩
     ·simp[hZl,hel];omega
     ·rw[List.append_assoc,List.take_append_of_le_length (by simp;omega),List.take_take,Nat.min_self,<-List.map_take,hdd]
   ·rw[decide_eq_false he] at c0
    rw[if_neg he] at hsu
    refine cP ?_
    refine⟨i+1,by omega,cC,by omega,by omega,cX,bu, ?_,fun y y1 y2=>Eq.trans cE (hkp y y1 y2)⟩
    rw[hsu,hdd,List.take_succ_eq_append_getElem hil,show l.getD i default=l[i] by simp[List.getD,hil]]
  ·obtain rfl:i=l.length:=by omega
   rw[List.take_length] at hdd
   refine cP ?_
   rw[hdd]
   exact⟨⟨cX,fun y y1 y2=>Eq.trans cE (hkp y y1 y2), .inl ⟨rfl,rfl,d0,bu⟩⟩⟩
theorem vk (o:Nat) (l:List cY) (hl:l.length<=65536) (hok:∀e∈l,e.cA.length<9223372036854775807/\e.mem.length<9223372036854775807) (H:Hp) (nx:Nat) (ho:o<nx) (hr:∃d,bt H o=some (.row 105 3 d (l.map cY.av))):
 cU Tryz.prog 97 [.sl o l.length, .fn (.func 98) [] []] H nx (fun r H' n=>∃b,r= .sl b (mH l l.length).length/\(b=o\/nx<=b)/\b<n/\nx<=n/\(∃d,bt H' b=some (.row 105 3 d ((mH l l.length).map cY.av)))/\∀y,y<nx->y≠o->bt H' y=bt H y):=by
 refine(zK o l hl hok H nx ho hr).rt ?_
 rintro r H' n ⟨hn,hk,⟨rfl,h1,h2⟩|⟨es,rfl,h1,h2,h3,d,h4⟩⟩
 ·exact⟨_,H',n,Rt.refl _ _ _,o,by rw[h1];rfl, .inl rfl,by omega,hn,h2,hk⟩
 ·refine⟨_,_,n+1,Rt.part 0 rfl h4 h1 (by omega),n,rfl, .inr hn,by omega,by omega,⟨.any, ?_⟩,fun y y1 y2=> ?_⟩
  ·rw[List.drop_zero,h3];exact ca _ _ _
  ·exact(cN (by omega)).trans ((cN y2).trans (hk y y1 y2))
set_option maxHeartbeats 2000000 in
theorem HQ (u:bx) (hu:u.Wf) (most:Int) (h0:(dZ u most).1=0):cU Tryz.prog 54 [u.av,i64 most] [] 0 (fun r H n=>∃b d,r= .dI [.sl b (iG u (dZ u most).2).length,i64 0]/\bt H b=some (.row 105 3 d ((iG u (dZ u most).2).map cY.av))):=by
 refine aJ Y3 rfl ?_
 by_cases hr:cg u
 ·by_cases hm:1<=most/\most<=65536
  ·rw[mB hr hm] at h0 ⊢
   refine cP ?_
   let l:=(gP u most.toNat).getD []
   let I:Nat->Hp->Prop:=fun k H=>(∃d,bt H 0=some (.row 25 3 d [u.av]))/\(∃d,bt H 3=some (.row 41 1 d [.sl 7 (dU u l k).length]))/\(∃d,bt H 7=some (.row 105 3 d ((dU u l k).map cY.av)))
   refine aG (R:=fun r H n=>8<=n/\ye u most I r H) (LI (b:=3) 105 3 (by omega) (by omega) (d:=gO false [.slice none 0 0]) (te:=41) ?_ fun H2 q1 q2 q3=> ?_) ?_
   ·exact bu
   ·refine(tZ u hu hr most hm _ [.pt 0 1 0 0, .pt 3 1 0 0] H2 8 I ?_ ?_ ?_).mono fun r H n h=>⟨h.1,h.short⟩
    ·exact⟨⟨_,(q3 0 (by omega) (by omega)).trans bu⟩,⟨_,q1⟩,⟨_,q2⟩⟩
    ·rintro k H H' ⟨⟨d0,p0⟩,⟨d1,p1⟩,⟨d2,p2⟩⟩ hk
     exact⟨⟨d0,(hk 0 (by omega)).trans p0⟩,⟨d1,(hk 3 (by omega)).trans p1⟩,⟨d2,(hk 7 (by omega)).trans p2⟩⟩
    ·intro l' hl' k H n hk hn ⟨p0,p1,p2⟩
     have hll:l=l':=by show(gP u most.toNat).getD []=l';rw[hl'];rfl
     rw[hll] at p1 p2
     obtain⟨hf,hlm,_⟩:=jd hu hr (by omega) hl'
     refine(FZ hr hf (by omega) hk (ub:=0) (ob:=3) (o:=7) (by omega) (by omega) (by omega) (by omega) p0 p1 p2).mono ?_
     rintro _ H' n' ⟨s1,s2,s3,s4⟩
     obtain⟨d0,p0⟩:=p0
     refine⟨⟨⟨d0,(s4 0 (by omega) (by omega) (by omega)).trans p0⟩, ?_, ?_⟩,s3,fun y y1 y2=>s4 y y2 (by omega) (by omega)⟩
     ·rw[hll];exact s1
     ·rw[hll];exact s2
   rintro r H' n' ⟨hn,hA⟩
   revert hA
   unfold ye
   cases hs:gP u most.toNat with
   |none=>rw[hs] at h0;cases h0
   |some l'=>
    rintro⟨rfl,⟨d0,p0⟩,⟨d1,p1⟩,p2⟩
    have hll:l=l':=by show(gP u most.toNat).getD []=l';rw[hs];rfl
    rw[hll] at p1 p2
    obtain⟨hf,hlm,_⟩:=jd hu hr (by omega) hs
    have hin:=oH hr hf (by omega) l'.length
    have hlen:=kC u l' l'.length
    refine cP ?_
    refine aG (xJ 7 (dU u l' l'.length) hin (by omega) _ _ p2 cX) ?_
    rintro r H3 n3 ⟨⟨d5,r5⟩,hn3,hk3⟩
    have r6:=(hk3 3 cX (by omega)).trans p1
    have hsl:(gW eJ (dU u l' l'.length)).length=(dU u l' l'.length).length:=od _ _
    refine cP ?_
    rw[<-hsl]
    refine aG (vk 7 (gW eJ (dU u l' l'.length)) (by omega) (fun e he=>hin e ((mZ _ _).mem_iff.1 he)) _ _ cX ⟨d5,r5⟩) ?_
    rintro r H4 n4 ⟨b,rfl,hb,hbn,hn4,⟨d6,r6⟩,hk4⟩
    refine cP ?_
    dsimp only
    have hE:iG u l'=mH (gW eJ (dU u l' l'.length)) (gW eJ (dU u l' l'.length)).length:=by rw[hsl];rfl
    rw[hE]
    exact⟨⟨b,d6,rfl,bu⟩⟩
  ·rw[jL hr hm] at h0;cases h0
 ·rw[lV hr] at h0;cases h0
def vp (f:cY->Bool):List cY->Nat->Int
 |[],_=>-1
 |e::l,k=>if f e=true then k else vp f l (k+1)
theorem uZ (f:cY->Bool):∀(l:List cY) (k:Nat),vp f l k=-1/\(∀x∈l,f x=false)\/∃i:Nat,vp f l k=(k+i:Nat)/\i<l.length/\(∀x∈l.take i,f x=false)/\f (l.getD i default)=true
 |[],k=> .inl ⟨rfl,fun x hx=>by cases hx⟩
 |e::l,k=>by
  rw[vp]
  split
  ·rename_i h
   exact .inr ⟨0,rfl,by simp,by simp,h⟩
  ·rename_i h
   simp only[Bool.not_eq_true] at h
   rcases uZ f l (k+1) with⟨h1,h2⟩|⟨i,h1,h2,h3,h4⟩
   ·refine .inl ⟨h1,fun x hx=> ?_⟩
    rcases List.mem_cons.1 hx with rfl|hx
    ·exact h
    ·exact h2 x hx
   ·refine .inr ⟨i+1,by rw[h1];congr 1;omega,by simpa using h2,fun x hx=> ?_,h4⟩
    rw[List.take_succ_cons] at hx
    rcases List.mem_cons.1 hx with rfl|hx
    ·exact h
    ·exact h3 x hx
theorem IT (f:cY->Bool) {l:List cY} {i:Nat} (h:i<l.length) (k:Nat):vp f (l.drop i) k=if f (l.getD i default)=true then(k:Int) else vp f (l.drop (i+1)) (k+1):=by
 rw[List.drop_eq_getElem_cons h,vp,show l.getD i default=l[i] by simp[List.getD,h]]
theorem qk (e:cY):Pure Tryz.prog 56 [e.av] (fun r=>r=bl e.ended):=by
 refine aD aA0 rfl ?_
 refine cP ?_
 first|exact rfl|trivial
theorem zt (l:List cY) (hl:l.length<=65536):Pure Tryz.prog 99 [fI l, .fn (.func 56) [] []] (fun r=>r=i64 (vp cY.ended l 0)):=by
 refine aD aAt rfl ?_
 refine cP ?_
 rw[List.length_map]
 refine aF (fun i:Nat=>[(0,fI l),(1, .fn (.func 56) [] []),(7,i64 l.length),(8,i64 i)])
  (fun i H2 n=>i<=l.length/\vp cY.ended (l.drop i) i=vp cY.ended l 0) (fun i=>l.length - i) 0
  cC ⟨Nat.zero_le _,rfl⟩ ?_
 rintro i H2 n ⟨hi,hix⟩
 have a0:(l.map cY.av).length=l.length:=List.length_map _
 by_cases hil:i<l.length
 ·have e0:∀d,(l.map cY.av).getD ((i:Int)).toNat d=(l.getD i default).av:=fun d=>by rw[Int.toNat_natCast];exact hX hil d
  rw[IT _ hil] at hix
  have c0:=qk (l.getD i default)
  generalize l.getD i default=x at *
  cases hx:x.ended with
  |true=>
   rw[hx] at c0
   rw[if_pos hx] at hix
   rw[<-hix]
   refine cP ?_
   first|exact rfl|trivial
  |false=>
   rw[hx] at c0
   rw[if_neg (by rw[hx];simp)] at hix
   refine cP ?_
   exact⟨i+1,by omega,cC,by omega,hix⟩
 ·obtain rfl:i=l.length:=by omega
  rw[List.drop_length] at hix
  rw[<-hix]
  refine cP ?_
  first|exact rfl|trivial
def iI (l:List cY):List cY:=l.filter fun e=> !e.ended
abbrev R9:AV:= .fn (.func 56) [] []
theorem CW:Pure Tryz.prog 55 [.sc (.slice none 0 0),R9] (fun r=>r= .sc (.slice none 0 0)):=by
 have c0:Pure Tryz.prog 99 [.sc (.slice none 0 0),R9] (fun r=>r=i64 (-1)):=
  Pure.args (zt [] (by decide)) fun c=> .cons (cw.db.jE c c 3 .any) (.cons (fun _ h=>h) .nil)
 refine aD Y4 rfl ?_
 refine cP ?_
 first|exact rfl|trivial
theorem KI {H:Hp} {b:Nat} {d:AV} {l:List cY} (h:bt H b=some (.row 105 3 d (l.map cY.av))):[AV.sl b l.length,R9].map (cw.dY H 6)=[fI l,R9]:=by
 show[cw.dY H 6 (.sl b l.length),cw.dY H 6 R9]=_
 rw[dH (k:=5) h (by simp),cn _ (iH l),dA _ (show cH 0 R9 by simp[cH,c8])]
set_option maxHeartbeats 4000000 in
theorem zN {l:List cY} (hl:l.length<=65536) {b:Nat} {H:Hp} {nx:Nat} (hb:∃d,bt H b=some (.row 105 3 d (l.map cY.av))) (hlt:b<nx):
 cU Tryz.prog 55 [.sl b l.length,R9] H nx (fun r H' n=>cw.dY H' 5 r=fI (iI l)/\∃b m,r= .sl b m\/∃q,r= .sv b m 0 q):=by
 obtain⟨d0,r0'⟩:=hb
 have a0:(l.map cY.av).length=l.length:=List.length_map _
 have qq:=uZ cY.ended l 0
 refine aJ Y4 rfl ?_
 refine cP ?_
 refine aP (zt l hl) (KI (d:=d0) bu) (by simp only[c8,cH];exact⟨iH l,⟨trivial,trivial⟩,trivial⟩) (by simp[gT]) ?_
 rcases qq with⟨h1,h2⟩|⟨i,h1,hil,h2,h3⟩
 ·rw[h1]
  refine cP ?_
  refine⟨?_,_,_, .inl rfl⟩
  have:iI l=l:=by
   unfold iI
   rw[List.filter_eq_self]
   intro e he
   rw[h2 e he];rfl
  rw[this]
  show cw.dY _ 5 (.sl b l.length)=_
  rw[dH (k:=4) bu a0,cn _ (iH l)]
 ·rw[h1,Nat.zero_add]
  have hst:(l.take (i+1)).filter (fun e=> !e.ended)=l.take i:=by
   rw[List.take_succ_eq_append_getElem hil,List.filter_append]
   have e1:(l.take i).filter (fun e=> !e.ended)=l.take i:=by
    rw[List.filter_eq_self]
    intro e he
    rw[h2 e he];rfl
   have e2:l[i]=l.getD i default:=by simp[List.getD,hil]
   rw[e1,e2,List.filter_cons,h3]
   simp
  refine cP ?_
  refine aF (fun σ:Nat×Nat×List cY=>[(0, .sl b l.length),(1,R9),(5,i64 σ.1),(6,i64 σ.2.1)])
   (fun σ H2 n=>σ.1+1<=σ.2.1/\σ.2.1<=l.length/\σ.2.2.length=l.length/\(∀q,σ.2.1<=q->σ.2.2.getD q default=l.getD q default)/\σ.2.2.take σ.1=(l.take σ.2.1).filter (fun e=> !e.ended)/\nx<=n/\(∃d,bt H2 b=some (.row 105 3 d (σ.2.2.map cY.av)))) (fun σ=>l.length - σ.2.1) (i,i+1,l)
   cC ⟨Nat.le_refl _,by show i+1<=l.length;omega,rfl,fun _ _=>rfl,hst.symm,cX,⟨_,bu⟩⟩ ?_
  clear r0' hst h1 h2 h3
  rintro⟨k,j,es⟩ H3 n ⟨hkj,hj,hel,hsame,hdd,hn,⟨d0,r0'⟩⟩
  dsimp only at hkj hj hel hsame hdd r0' ⊢
  have a1:(es.map cY.av).length=l.length:=by simp[hel]
  by_cases hjl:j<l.length
  ·have e0:∀d,(es.map cY.av).getD ((j:Int)).toNat d=(l.getD j default).av:=fun d=>by rw[Int.toNat_natCast,hX (by omega) d,hsame _ (by omega)]
   have e2:∀d,(es.map cY.av).getD ((k:Int)).toNat d=(es.getD k default).av:=fun d=>by rw[Int.toNat_natCast];exact hX (by omega) d
   have hnx:(l.take (j+1)).filter (fun e=> !e.ended)=(l.take j).filter (fun e=> !e.ended)++(if(l.getD j default).ended=true then[] else[l.getD j default]):=by
    rw[List.take_succ_eq_append_getElem hjl,List.filter_append,show l.getD j default=l[j] by simp[List.getD,hjl]]
    congr 1
    rw[List.filter_cons]
    cases l[j].ended<;>rfl
   have c0:=qk (l.getD j default)
   generalize l.getD j default=x at *
   cases hx:x.ended with
   |true=>
    rw[hx] at c0
    rw[if_pos hx,List.append_nil] at hnx
    refine cP ?_
    exact⟨(k,j+1,es),by dsimp only;omega,cC,by dsimp only;omega,by dsimp only;omega,hel,fun q hq=>hsame q (by dsimp only at hq;omega),by dsimp only;rw[hnx];exact hdd,cX,⟨d0,bu⟩⟩
   |false=>
    rw[hx] at c0
    rw[if_neg (by rw[hx];simp)] at hnx
    refine cP ?_
    refine⟨(k+1,j+1,es.set k x),by dsimp only;omega,cC,by dsimp only;omega,by dsimp only;omega,by simp[hel],fun q hq=> ?_, ?_,cX,⟨d0,by dsimp only;rw[List.map_set];exact bu⟩⟩
    ·have hq:j+1<=q:=hq
     dsimp only
     rw[getD_set_ne (by omega)];exact hsame q (by omega)
    ·dsimp only
     rw[hnx,lL (by omega),hdd]
  ·obtain rfl:j=l.length:=by omega
   rw[List.take_length] at hdd
   refine cP ?_
   refine⟨?_,_,_, .inr ⟨_,rfl⟩⟩
   rw[Int.toNat_natCast]
   have hkl:k<=l.length:=by omega
   generalize hZ:List.replicate (l.length - k) (gO true [Value.slice none 0 0,Value.slice none 0 0,Value.bool false])=Z
   have hZl:Z.length=l.length - k:=by rw[<-hZ];simp
   have hr2:∀G:Hp,(∃d,bt G b=some (.row 105 3 d ((es.map cY.av).take k++Z++(es.map cY.av).drop (k+(l.length - k)))))->cw.dY G 5 (.sv b l.length 0 (k - 0))=fI (iI l):=by
    rintro G ⟨d,hG⟩
    rw[MH (k:=4) hG (by simp[hZl,hel];omega),List.drop_zero,Nat.sub_zero,List.append_assoc,List.take_append_of_le_length (by simp;omega),List.take_take,Nat.min_self,<-List.map_take,hdd,cn _ (iH _)]
    rfl
   exact hr2 _ ⟨d0,bu⟩
noncomputable def dz (u:bx) (most:Int):List cY:=if(dZ u most).1=0 then iI (iG u (dZ u most).2) else[]
theorem uJ (u:bx) (l:List cV):(iG u l).length<=l.length:=Nat.le_trans (FX _ _) (kC u l l.length)
theorem x9 {u:bx} (hu:u.Wf) {most:Int} (h0:(dZ u most).1=0):cg u/\(1<=most/\most<=65536)/\∃l,gP u most.toNat=some l/\(dZ u most).2=l:=by
 by_cases hr:cg u
 ·by_cases hm:1<=most/\most<=65536
  ·rw[mB hr hm] at h0 ⊢
   cases hs:gP u most.toNat with
   |none=>rw[hs] at h0;cases h0
   |some l=>exact⟨hr,hm,l,rfl,rfl⟩
  ·rw[jL hr hm] at h0;cases h0
 ·rw[lV hr] at h0;cases h0
theorem x8 {u:bx} (hu:u.Wf) {most:Int} (h0:(dZ u most).1=0):(dZ u most).2.length<=65536:=by
 obtain⟨hr,hm,l,hs,he⟩:=x9 hu h0
 obtain⟨_,h2,_⟩:=jd hu hr (by omega) hs
 rw[he];omega
theorem tC (l:List cY) (e:Int):cH 0 (.dI [fI l,i64 e]):=by
 have:=iH l
 simp[cH,c8,this]
set_option maxHeartbeats 1000000 in
theorem vQ (u:bx) (hu:u.Wf) (most:Int):Pure Tryz.prog 23 [u.av,i64 most] (fun r=>r= .dI [fI (dz u most),i64 (dZ u most).1]):=by
 have key:Pure Tryz.prog 23 [u.av,i64 most] (fun r=>r=if(dZ u most).1=0 then .dI [fI (iI (iG u (dZ u most).2)),i64 0] else .dI [.sc (.slice none 0 0),i64 (dZ u most).1]):=by
  by_cases h0:(dZ u most).1=0
  ·rw[if_pos h0]
   have hll:=x8 hu h0
   have hel:=uJ u (dZ u most).2
   have hen:=HQ u hu most h0
   have hfe:=iH (iG u (dZ u most).2)
   generalize iG u (dZ u most).2=es at *
   refine cp ?_ (tC _ _)
   refine aJ YV rfl ?_
   refine cP ?_
   refine aG (cU.MD (e:=105) (sz:=3) (es:=es.map cY.av) (cs:=[i64 0]) (by simp[mi]) (by rw[List.length_map];exact hen) hfe (by simp[cH,c8,cD])) ?_
   rintro _ H1 n1 ⟨rfl,rfl,rfl⟩
   rw[List.length_map]
   refine cP ?_
   refine aG (zN (b:=5) (l:=es) (by omega) ⟨.any, ?_⟩ ?_) ?_
   ·exact bu
   ·exact cX
   rintro r H2 n2 ⟨hfz,b,m,hform⟩
   rcases hform with rfl|⟨q,rfl⟩
   all_goals
    refine cP ?_
    refine⟨?_⟩
    show AV.dI [cw.dY _ 5 _,i64 0]=_
    exact congrArg (fun x=>AV.dI [x,i64 0]) hfz
  ·rw[if_neg h0]
   have c0:=HR u hu most
   unfold qH at c0
   rw[if_neg h0] at c0
   have c1:=CW
   generalize (dZ u most).1=er at *
   refine aD YV rfl ?_
   refine cP ?_
   first|exact rfl|trivial
 refine jw key (tC _ _) fun c=> ?_
 unfold dz
 by_cases h0:(dZ u most).1=0
 ·rw[if_pos h0,if_pos h0,h0];exact fun _ h=>h
 ·rw[if_neg h0,if_neg h0]
  exact db.dI (.cons (db.jE _ _ _ _) (.cons (fun _ h=>h) .nil))
theorem tY (u:bx) (hu:u.Wf) (most:Int):((dZ u most).1≠0/\(dZ u most).2=[])\/∃l,cg u/\1<=most/\most<=65536/\gP u most.toNat=some l/\dZ u most=(0,l)/\iF u l/\l.length<=most.toNat:=by
 by_cases hr:cg u
 ·by_cases hm:1<=most/\most<=65536
  ·rw[mB hr hm]
   cases h:gP u most.toNat with
   |none=>exact .inl ⟨by decide,rfl⟩
   |some l=>
    obtain⟨h1,h2,_⟩:=jd hu hr (by omega) h
    exact .inr ⟨l,hr,hm.1,hm.2,rfl,rfl,h1,h2⟩
  ·rw[jL hr hm]
   exact .inl ⟨by decide,rfl⟩
 ·rw[lV hr]
  exact .inl ⟨by decide,rfl⟩
theorem yW (a b:List cY) (ha:∀e∈a,tO e) (hl:a.length<=65536) (hl2:b.length<=65536):Pure Tryz.prog 27 [fI a,fI b] (fun r=>r=bl (decide (a=b))):=by
 have a0:(a.map cY.av).length=a.length:=by simp
 have a1:(b.map cY.av).length=b.length:=by simp
 refine aD aAN rfl ?_
 by_cases hne:a.length=b.length
 ·refine cP ?_
  refine aF (fun i:Nat=>[(0,fI a),(1,fI b),(5,i64 i)]) (fun i H n=>i<=a.length/\∀j:Nat,j<i->a.getD j default=b.getD j default) (fun i=>a.length - i) 0 cC ⟨Nat.zero_le _,fun j hj=>by omega⟩ ?_
  rintro i H n ⟨hi,hall⟩
  by_cases hil:i<a.length
  ·have e0:∀d,(a.map cY.av).getD ((i:Int)).toNat d=(a.getD i default).av:=fun d=>by rw[Int.toNat_natCast];exact cx cY.av a i d hil
   have e1:∀d,(b.map cY.av).getD ((i:Int)).toNat d=(b.getD i default).av:=fun d=>by rw[Int.toNat_natCast];exact cx cY.av b i d (by omega)
   obtain⟨q1,q2⟩:=ha _ (cO default hil)
   have c0:=mW (a.getD i default) (b.getD i default) q1 q2
   by_cases hc0:eJ (a.getD i default) (b.getD i default)=0
   ·have r0:=hc0
    refine cP ?_
    exact⟨i+1,by omega,cC,by omega,fun j hj=>by
     by_cases e:j=i
     ·rw[e];exact(gF.zero _ _).1 hc0
     ·exact hall j (by omega)⟩
   ·refine cP ?_
    refine eD (Eq.symm ?_)
    exact decide_eq_false fun e=>hc0 ((gF.zero _ _).2 (by rw[e]))
  ·refine cP ?_
   refine eD (Eq.symm ?_)
   refine decide_eq_true ?_
   apply List.ext_getElem hne
   intro j q1 q2
   have:=hall j (by omega)
   simpa[List.getD,q1,q2] using this
 ·refine cP ?_
  refine eD (Eq.symm ?_)
  exact decide_eq_false fun e=>hne (by rw[e])
theorem xp (l:List cY):∀k,∀e∈mH l k,∃j,j<k/\e=l.getD j default
 |0,e,h=>by simp[mH] at h
 |1,e,h=>by simp only[mH,List.mem_cons,List.not_mem_nil,or_false] at h;exact⟨0,by omega,h⟩
 |k+2,e,h=>by
  rw[mH] at h
  split at h
  ·obtain⟨j,h1,h2⟩:=xp l (k+1) e h
   exact⟨j,by omega,h2⟩
  ·rcases List.mem_append.1 h with h|h
   ·obtain⟨j,h1,h2⟩:=xp l (k+1) e h
    exact⟨j,by omega,h2⟩
   ·simp only[List.mem_cons,List.not_mem_nil,or_false] at h
    exact⟨k+1,by omega,h⟩
theorem sy (l:List cY):∀k j,j<k->l.getD j default∈mH l k
 |0,j,h=>by omega
 |1,j,h=>by
  obtain rfl:j=0:=by omega
  simp[mH]
 |k+2,j,h=>by
  rw[mH]
  split
  ·rename_i e
   by_cases hj:j=k+1
   ·rw[hj,e];exact sy l (k+1) k (by omega)
   ·exact sy l (k+1) j (by omega)
  ·by_cases hj:j=k+1
   ·rw[hj];exact List.mem_append.2 (.inr (by simp))
   ·exact List.mem_append.2 (.inl (sy l (k+1) j (by omega)))
theorem yL {α:Type} {R:α->α->Prop} {l:List α} (h:l.Pairwise R) (d:α) {i j:Nat} (hi:i<j) (hj:j<l.length):R (l.getD i d) (l.getD j d):=by
 have:=List.pairwise_iff_getElem.1 h i j (by omega) hj hi
 simpa[List.getD,hj,show i<l.length by omega] using this
theorem pJ {l:List cY} (h:l.Pairwise fun x y=>wy eJ x y=true):∀k,k<=l.length->(mH l k).Pairwise fun x y=>eJ x y<0
 |0,_=>by simp[mH]
 |1,_=>by simp[mH]
 |k+2,hk=>by
  rw[mH]
  split
  ·exact pJ h (k+1) (by omega)
  ·rename_i hne
   refine List.pairwise_append.2 ⟨pJ h (k+1) (by omega),by simp,fun a ha b hb=> ?_⟩
   simp only[List.mem_cons,List.not_mem_nil,or_false] at hb
   subst hb
   obtain⟨j,hj,rfl⟩:=xp l _ a ha
   have h1:=yL h default (i:=j) (j:=k+1) (by omega) (by omega)
   have h2:wy eJ (l.getD j default) (l.getD k default)=true:=by
    by_cases e:j=k
    ·rw[e];simp[wy,(gF.zero _ _).2 rfl]
    ·exact yL h default (by omega) (by omega)
   have h3:=yL h default (i:=k) (j:=k+1) (by omega) (by omega)
   have h4:eJ (l.getD j default) (l.getD (k+1) default)≠0:=fun e=>by
    have e1:=(gF.zero _ _).1 e
    rw[<-e1] at h3
    have:=gF.GA h3 h2
    exact hne (by rw[this,<-e1])
   simp only[wy,decide_eq_true_eq] at h1
   omega
theorem C1 {u:bx} {l:List cV} {e:cY}:e∈dU u l l.length↔∃i,i<l.length/\(l.getD i default).m.stuck u=true/\e=(l.getD i default).m.end_ u:=by
 unfold dU
 rw[List.take_length,List.mem_filterMap]
 constructor
 ·rintro⟨f,hf,he⟩
  obtain⟨i,hi,rfl⟩:=List.mem_iff_getElem.1 hf
  split at he
  ·rename_i hs
   cases he
   refine⟨i,hi, ?_⟩
   rw[show l.getD i default=l[i] by simp[List.getD,hi]]
   exact⟨hs,rfl⟩
  ·cases he
 ·rintro⟨i,hi,hs,rfl⟩
  refine⟨l.getD i default,cO default hi, ?_⟩
  rw[if_pos hs]
theorem oG {u:bx} {l:List cV} {e:cY}:e∈iG u l↔e∈dU u l l.length:=by
 have hp:=mZ eJ (dU u l l.length)
 unfold iG
 constructor
 ·intro h
  obtain⟨j,hj,rfl⟩:=xp _ _ _ h
  exact hp.mem_iff.1 (cO default (by rw[hp.length_eq];exact hj))
 ·intro h
  obtain⟨j,hj,rfl⟩:=List.mem_iff_getElem.1 (hp.mem_iff.2 h)
  have:=sy (gW eJ (dU u l l.length)) (dU u l l.length).length j (by rw[<-hp.length_eq];exact hj)
  rwa[show(gW eJ (dU u l l.length)).getD j default=(gW eJ (dU u l l.length))[j] by simp[List.getD,hj]] at this
theorem qI (u:bx) (l:List cV):(iG u l).Pairwise fun x y=>eJ x y<0:=by
 unfold iG
 refine pJ (gF.sorted _) _ ?_
 rw[od]
 exact Nat.le_refl _
theorem IU {l l':List cV} (h:l<+:l') {k:List UInt8} (hk:k∈hP l):k∈hP l':=by
 obtain⟨t,rfl⟩:=h
 simp only[hP,List.map_append,List.mem_append]
 exact .inl hk
theorem MI {l l':List cV} (h:l<+:l') {k:Nat} (hk:k<l.length):l'.getD k default=l.getD k default:=by
 obtain⟨t,rfl⟩:=h
 simp[List.getD,List.getElem?_append,hk]
def FJ (u:bx) (l:List cV) (k t:Nat):Prop:=(l.getD k default).m.jR u t=0->fO ((l.getD k default).m.step u t).1∈hP l
theorem FJ.pre {u:bx} {l l':List cV} {k t:Nat} (h:FJ u l k t) (hk:k<l.length) (hp:l<+:l'):FJ u l' k t:=by
 unfold FJ at *
 rw[MI hp hk]
 exact fun hb=>IU hp (h hb)
end Go.Proofs.YtjopoheligmmoaaGreatDoor
namespace Go.Proofs.YtjopoheligmmoaaGreatDoor
open Go Go.cw Go.Proofs
open Go.Lib (decDigits itoa)
set_option linter.unusedSimpArgs false
set_option linter.unusedVariables false
end Go.Proofs.YtjopoheligmmoaaGreatDoor
namespace Go.Proofs.YtjopoheligmmoaaGreatDoor
open Go Go.cw Go.Proofs
set_option linter.unusedSimpArgs false
set_option linter.unusedVariables false
set_option maxRecDepth 8000
theorem QN {u:bx} {l:List cV} {e:cY} (h:e∈iG u l):∃i,i<l.length/\fP u l e l.length=some i/\(l.getD i default).m.stuck u=true/\(l.getD i default).m.end_ u=e:=by
 obtain⟨i,hi,h1,h2⟩:=C1.1 (oG.1 h)
 cases hh:fP u l e l.length with
 |none=>
  exfalso
  unfold fP at hh
  have:=List.find?_eq_none.1 hh i (List.mem_range.2 hi)
  rw[h1,h2,(gF.zero _ _).2 rfl] at this
  simp at this
 |some j=>
  refine⟨j,M5 hh,rfl, ?_⟩
  unfold fP at hh
  have:=List.find?_some hh
  simp only[Bool.and_eq_true,decide_eq_true_eq] at this
  exact⟨this.1,(gF.zero _ _).1 this.2⟩
theorem CO (a b:List Int) (ha:a.length<9223372036854775807):Pure Tryz.prog 63 [cT a,cT b] (fun r=>r=i64 (eR eG a b)):=by
 refine aD aA6 rfl ?_
 refine cP ?_
 rw[List.length_map]
 refine aF (fun i:Nat=>[(0,cT a),(1,cT b),(9,cT a),(10,i64 a.length),(11,i64 i)]) (fun i H n=>i<=a.length/\i<=b.length/\eR eG a b=eR eG (a.drop i) (b.drop i)) (fun i=>a.length - i) 0 cC ⟨Nat.zero_le _,Nat.zero_le _,rfl⟩ ?_
 rintro i H n ⟨hi,hib,ho⟩
 rw[ho]
 have a0:(a.map i64).length=a.length:=by simp
 have a1:(b.map i64).length=b.length:=by simp
 by_cases hil:i<a.length
 ·have e0:=fun d=>ints_at hil d
  by_cases hbl:i<b.length
  ·have e1:=fun d=>ints_at hbl d
   have hd:=qC eG 0 hil hbl
   have c0:=tw (a.getD i 0) (b.getD i 0)
   generalize a.getD i 0=p at *
   generalize b.getD i 0=q at *
   by_cases hz:eG p q=0
   ·have r0:=hz
    rw[if_pos hz] at hd
    refine cP ?_
    exact⟨i+1,by omega,cC,by omega,by omega,hd⟩
   ·have r0:=decide_eq_true hz
    rw[if_neg hz] at hd
    refine cP ?_
    rw[hd]
  ·rw[nM eG hil (by omega)]
   refine cP ?_
   first|exact rfl|trivial
 ·obtain rfl:i=a.length:=by omega
  rw[nL eG (Nat.le_refl _) hib]
  by_cases h:a.length<b.length
  ·rw[if_pos h]
   refine cP ?_
   first|exact rfl|trivial
  ·rw[if_neg h]
   refine cP ?_
   first|exact rfl|trivial
def si (a b:List Int):Int:=lG [eG a.length b.length,eR eG a b]
theorem HG (a b:List Int) (ha:a.length<9223372036854775807) (hb:b.length<9223372036854775807):Pure Tryz.prog 60 [cT a,cT b] (fun r=>r=i64 (si a b)):=by
 have e:si a b=lG [eG ((a.map i64).length:Int) ((b.map i64).length:Int),eR eG a b]:=by
  unfold si;rw[List.length_map,List.length_map]
 rw[e]
 have c0:=tw ((a.map i64).length:Int) ((b.map i64).length:Int)
 have c1:=CO a b ha
 have c2:=yJ [eG ((a.map i64).length:Int) ((b.map i64).length:Int),eR eG a b] (by simp)
 refine aD aA4 rfl ?_
 refine cP ?_
 refine aP (args2:=[cT [eG ((a.map i64).length:Int) ((b.map i64).length:Int),eR eG a b]]) (r:=i64 (lG [eG ((a.map i64).length:Int) ((b.map i64).length:Int),eR eG a b])) c2 rfl (by simp[c8,cH]) trivial ?_
 refine cP ?_
 first|exact rfl|trivial
def lh (w:List Int):List (List Int)->List Int
 |[]=>w
 |x::r=>lh (if si x w<0 then x else w) r
abbrev clW:AV:= .fn (.func 60) [] []
abbrev lM (l:List (List Int)):List AV:=l.map cT
theorem GZ {l:List (List Int)} {i:Nat} (h:i<l.length) (d:AV):(lM l).getD i d=cT (l.getD i []):=cx cT l i d h
theorem I9 {l:List (List Int)} {i:Nat} (h:i<l.length) (w:List Int):lh w (l.drop i)=lh (if si (l.getD i []) w<0 then l.getD i [] else w) (l.drop (i+1)):=by
 rw[List.drop_eq_getElem_cons h,lh,show l.getD i []=l[i] by simp[List.getD,h]]
set_option maxHeartbeats 2000000 in
theorem NS {l:List (List Int)} (h0:0<l.length) (hl:l.length<=65536) (hw:∀w∈l,w.length<=1048576) {b:Nat} {H:Hp} {nx:Nat} (hb:∃d,bt H b=some (.row 31 1 d (lM l))) (hlt:b<nx):
 cU Tryz.prog 59 [.sl b l.length,clW] H nx (fun r H' n=>r=cT (lh (l.getD 0 []) (l.drop 1))):=by
 obtain⟨d0,r0'⟩:=hb
 have a0:(lM l).length=l.length:=List.length_map _
 have e0:∀d,(lM l).getD (0:Int).toNat d=cT (l.getD 0 []):=fun d=>GZ h0 d
 refine aJ aA3 rfl ?_
 refine cP ?_
 clear e0
 refine aF (fun σ:Nat×List Int=>[(0, .sl b l.length),(1,clW),(5,cT σ.2),(6,i64 σ.1)])
  (fun σ H2 n=>σ.1<=l.length/\σ.2.length<=1048576/\lh σ.2 (l.drop σ.1)=lh (l.getD 0 []) (l.drop 1)/\nx<=n/\bt H2 b=some (.row 31 1 d0 (lM l))) (fun σ=>l.length - σ.1) (1,l.getD 0 [])
  cC ⟨by show 1<=l.length;omega,hw _ (cO [] h0),rfl,cX,bu⟩ ?_
 clear r0'
 rintro⟨i,w⟩ H2 n ⟨hi,hwl,hm,hn,r0'⟩
 dsimp only at hi hwl hm ⊢
 by_cases hil:i<l.length
 ·have e0:∀d,(lM l).getD ((i:Int)).toNat d=cT (l.getD i []):=fun d=>by rw[Int.toNat_natCast];exact GZ hil d
  have hxl:=hw _ (cO [] hil)
  rw[I9 hil] at hm
  generalize l.getD i []=x at *
  have c0:=HG x w (by omega) (by omega)
  by_cases hc:si x w<0
  ·rw[if_pos hc] at hm
   have r1:=decide_eq_true hc
   refine cP ?_
   exact⟨(i+1,x),by dsimp only;omega,cC,by dsimp only;omega,hxl,hm,cX,bu⟩
  ·rw[if_neg hc] at hm
   have r1:=decide_eq_false hc
   refine cP ?_
   exact⟨(i+1,w),by dsimp only;omega,cC,by dsimp only;omega,hwl,hm,cX,bu⟩
 ·obtain rfl:i=l.length:=by omega
  rw[List.drop_length,lh] at hm
  refine cP ?_
  exact⟨by rw[<-hm]⟩
theorem zR {u:bx} (hu:u.Wf) {most:Int} (h0:(dZ u most).1=0):∀e∈iG u (dZ u most).2,tO e:=by
 obtain⟨hr,hm,l,hs,he⟩:=x9 hu h0
 obtain⟨hf,h2,_⟩:=jd hu hr (by omega) hs
 rw[he]
 intro e hm2
 have:=oG.1 hm2
 exact oH hr hf (by omega) _ e this
theorem LG {u:bx} {l:List cV} (hf:iF u l):∀i,i<l.length->(kW l i).length<=i:=by
 intro i
 induction i using Nat.strongRecOn with
 |_ i ih=>
  intro hi
  by_cases h0:i=0
  ·subst h0
   rw[rD (by rw[hf.first];show ¬(0:Int)<=-1;omega)]
   exact Nat.le_refl _
  ·obtain⟨k,t,h1,h2,h3,h4⟩:=hf.HC i (by omega) hi
   have hfr:(l.getD i default).from_=k:=by rw[h4]
   rw[py hf hi (by rw[hfr];omega),hfr,Int.toNat_natCast,List.length_cons]
   have:=ih k h1 (by omega)
   omega
theorem ry {u:bx} (hu:u.Wf) {most:Int} (h0:(dZ u most).1=0) {e:cY} (he:e∈dz u most):∃i,i<(dZ u most).2.length/\fP u (dZ u most).2 e (dZ u most).2.length=some i/\((dZ u most).2.getD i default).m.stuck u=true/\((dZ u most).2.getD i default).m.end_ u=e/\e.ended=false:=by
 unfold dz at he
 rw[if_pos h0] at he
 obtain⟨h1,h2⟩:=List.mem_filter.1 he
 obtain⟨i,g1,g2,g3,g4⟩:=QN h1
 exact⟨i,g1,g2,g3,g4,by simpa using h2⟩
theorem x7 {u:bx} (hu:u.Wf) {most:Int} (h0:(dZ u most).1=0):cg u/\iF u (dZ u most).2/\(dZ u most).2.length<=65536:=by
 obtain⟨hr,hm,l,hs,he⟩:=x9 hu h0
 obtain⟨hf,h2,_⟩:=jd hu hr (by omega) hs
 rw[he]
 exact⟨hr,hf,by omega⟩
noncomputable def iD (u:bx) (most:Int) (e:cY):List Int:=iV (dZ u most).2 (fP u (dZ u most).2 e (dZ u most).2.length)
theorem sC {u:bx} (hu:u.Wf) {most:Int} (h0:(dZ u most).1=0) {e:cY} (he:e∈dz u most):Pure Tryz.prog 58 [u.av,i64 most,e.av] (fun r=>r= .dI [cT (iD u most e),bl true,i64 0])/\(iD u most e).length<=65536:=by
 obtain⟨hr,hf,hl⟩:=x7 hu h0
 obtain⟨i,g1,g2,g3,g4,g5⟩:=ry hu h0 he
 obtain⟨q1,q2⟩:=hf.ok i g1
 have hm:=q1.ml
 have hs:=hr.oh
 have c:=O3 u hu most e (by rw[<-g4];show(((dZ u most).2.getD i default).m.cA).length * 16<=_;omega) (by rw[<-g4];show(((dZ u most).2.getD i default).m.mem).length * 8<=_;omega)
 unfold xN at c
 rw[if_pos h0,g2] at c
 refine⟨?_, ?_⟩
 ·unfold iD;rw[g2];exact c
 ·unfold iD;rw[g2]
  show((kW _ i).reverse).length<=_
  have:=LG hf i g1
  rw[List.length_reverse];omega
noncomputable def kQ (u:bx) (most:Int):List (List Int):=(dz u most).map (iD u most)
noncomputable def kT (u:bx) (most:Int):List Int:=lh ((kQ u most).getD 0 []) ((kQ u most).drop 1)
theorem pc {u:bx} (hu:u.Wf) {most:Int} (h0:(dZ u most).1=0):(dz u most).length<=65536:=by
 have hll:=x8 hu h0
 have hel:=uJ u (dZ u most).2
 unfold dz;rw[if_pos h0]
 exact Nat.le_trans (List.length_filter_le _ _) (by omega)
theorem jt (l:List Int) (b:Bool) (e:Int):cH 0 (.dI [cT l,bl b,i64 e]):=by
 simp[cH,c8,cD]
set_option maxHeartbeats 2000000 in
theorem O2 (u:bx) (hu:u.Wf) (most:Int) (h0:(dZ u most).1=0) (hne:dz u most≠[]):Pure Tryz.prog 25 [u.av,i64 most] (fun r=>r= .dI [cT (kT u most),bl true,i64 0]):=by
 have c0:=vQ u hu most
 rw[h0] at c0
 have hsl:=pc hu h0
 have hwp:=fun e he=>sC (e:=e) hu h0 he
 have hpos:0<(dz u most).length:=List.length_pos_iff.2 hne
 unfold kT kQ
 generalize dz u most=es at *
 have a0:(es.map cY.av).length=es.length:=List.length_map _
 refine cp ?_ (jt _ _ _)
 refine aJ T4 rfl ?_
 refine cP ?_
 simp only[List.length_map]
 refine aR (fun i:Nat=>[(2, .pt 0 1 0 0),(1,i64 most),(9, .sl 17 i),(24,fI es),(25,i64 es.length),(26,i64 i)])
  (fun i H n=>i<=es.length/\18<=n/\(∃d,bt H 0=some (.row 25 3 d [u.av]))/\∃d,bt H 17=some (.row 31 1 d (lM ((es.take i).map (iD u most))))) (fun i=>es.length - i) 0
  ⟨_,_,_,Rt.nil 9 31 1 (by omega) rfl,cC,Nat.zero_le _,cX,⟨_,bu⟩,⟨_,bu⟩⟩ ?_
 rintro i H n ⟨hi,hn,⟨d0,r0⟩,⟨d1,r1⟩⟩
 have a1:(lM ((es.take i).map (iD u most))).length=i:=by
  unfold lM;rw[List.length_map,List.length_map,List.length_take];omega
 by_cases hil:i<es.length
 ·have e0:∀d,(es.map cY.av).getD ((i:Int)).toNat d=(es.getD i default).av:=fun d=>by rw[Int.toNat_natCast];exact hX hil d
  have hmem:=cO (default:cY) hil
  obtain⟨c1,hwl⟩:=hwp _ hmem
  have hnx:(es.take (i+1)).map (iD u most)=(es.take i).map (iD u most)++[iD u most (es.getD i default)]:=by
   rw[List.take_succ_eq_append_getElem hil,List.map_append];simp[List.getD,hil]
  refine cP ?_
  exact⟨i+1,by omega,_,_,_,Rt.refl _ _ _,cC,by omega,cX,⟨_,bu⟩,⟨_,by rw[hnx];unfold lM;rw[List.map_append];exact bu⟩⟩
 ·obtain rfl:i=es.length:=by omega
  rw[List.take_length] at r1
  have hlen:(es.map (iD u most)).length=es.length:=List.length_map _
  have hmin:=fun(H:Hp) (nx:Nat)=>NS (H:=H) (nx:=nx) (l:=es.map (iD u most)) (b:=17) (by omega) (by omega) (fun w hw=>by
   obtain⟨e,he,rfl⟩:=List.mem_map.1 hw
   have:=(hwp e he).2
   omega)
  rw[hlen] at hmin
  refine cP ?_
  refine aG (hmin _ _ ⟨d1, ?_⟩ cX) ?_
  ·exact bu
  rintro _ H2 n2 rfl
  refine cP ?_
  exact⟨rfl⟩
theorem ZS (u:bx) (hu:u.Wf) (most:Int):Pure Tryz.prog 25 [u.av,i64 most] (fun r=>r= .dI [cT (kT u most),bl (decide (dz u most≠[])),i64 (dZ u most).1]):=by
 by_cases h0:(dZ u most).1=0
 ·by_cases hne:dz u most=[]
  ·have c0:=vQ u hu most
   rw[hne,h0] at c0
   have hw:kT u most=[]:=by unfold kT kQ;rw[hne];rfl
   rw[hw,h0,decide_eq_false (fun h=>h hne)]
   have key:Pure Tryz.prog 25 [u.av,i64 most] (fun r=>r= .dI [.sc (.slice none 0 0),bl false,i64 0]):=by
    refine aD T4 rfl ?_
    refine cP ?_
    refine aF (fun _:Nat=>[(9, .sc (.slice none 0 0)),(25,i64 0),(26,i64 0)]) (fun _ H n=>True) (fun _=>0) 0 cC trivial ?_
    rintro _ H n _
    refine cP ?_
    first|exact rfl|trivial
   refine jw key (jt _ _ _) fun c=>db.dI (.cons (db.jE _ _ _ _) (.cons (fun _ h=>h) (.cons (fun _ h=>h) .nil)))
  ·rw[h0,decide_eq_true hne]
   exact O2 u hu most h0 hne
 ·have hs:dz u most=[]:=by unfold dz;rw[if_neg h0]
  have hw:kT u most=[]:=by unfold kT kQ;rw[hs];rfl
  rw[hw,decide_eq_false (fun h=>h hs)]
  have c0:=vQ u hu most
  have key:Pure Tryz.prog 25 [u.av,i64 most] (fun r=>r= .dI [.sc (.slice none 0 0),bl false,i64 (dZ u most).1]):=by
   generalize dz u most=es at *
   generalize (dZ u most).1=er at *
   refine aD T4 rfl ?_
   refine cP ?_
   first|exact rfl|trivial
  refine jw key (jt _ _ _) fun c=>db.dI (.cons (db.jE _ _ _ _) (.cons (fun _ h=>h) (.cons (fun _ h=>h) .nil)))
end Go.Proofs.YtjopoheligmmoaaGreatDoor
namespace Go.cw
open Go.RowKit
set_option linter.unusedSimpArgs false
set_option linter.unusedVariables false
theorem cU.TS {P:Program} {f:FuncId} {args args2:List AV} {e:TypeId} {sz:Nat} {es cs:List AV} (qq:mi cs) (h:cU P f args2 [] 0 (fun r1 H1 _=>∃b d0,r1= .dI (.sl b es.length::cs)/\bt H1 b=some (.row e sz d0 es))) (hfl:∀i,i<es.length->gT (es.getD i .any)) (d:AV) {H:Hp} {id:Nat} (ha:args.map (dY H 6)=args2) (hfa:c8 0 args2):
 lO P f args H id (fun r' H''=>r'= .dI (.sl id es.length::cs)/\H''=dS H (some (id, .row e sz d es))):=by
 refine⟨h.1,fun w0 c vs hS hH hid hv=> ?_⟩
 have hS0:dy c.w ⟨fun _=>none,bt [],fun _=>False,c.w,c.M0⟩:=⟨Below.refl _ _,hS.mL,fun b e sz d es he=>by simp[bt] at he,fun b b' k k' blk o z o' z' hk=>by simp[bt] at hk⟩
 subst ha
 have hv':cu ⟨fun _=>none,bt [],fun _=>False,c.w,c.M0⟩ (args.map (dY H 6)) vs:=lZ hS hH hfa hv
 refine(h.2 c.w _ vs hS0 rfl (fun _ h=>h.elim) hv').mono ?_
 rintro en w' ⟨v,r1,H1,nx',ρ,U,he,⟨b,d0,rfl,hb⟩,hU,hS',_,hvr⟩
 rw[VR] at hvr
 obtain⟨us,hus,hvr⟩:=hvr
 rw[cu] at hvr
 obtain⟨x,v3,hx3,hvr,hv3⟩:=hvr
 rw[VR] at hvr
 obtain⟨_,ad,cap,hvv,hrr⟩:=hvr
 obtain⟨_,hr2⟩:=hrr _ _ _ _ hb
 have hr3:=hr2 rfl
 obtain⟨_,hz,hor⟩:=hS'.kO b _ _ _ _ hb (vI hr3)
 have hbel:=hS'.below
 obtain⟨s1,s2⟩:=hS.world hbel
 have hHeq:bt (dS H (some (id, .row e sz d es)))=fU c.H id (some (.row e sz d es)):=by rw[du,hH]
 have fin:∀c2:Cx,VR c2 (.sl id es.length) x->VR c2 (.dI (.sl id es.length::cs)) v:=fun c2 h2=>by
  rw[VR]
  refine⟨us,hus, ?_⟩
  rw[hx3,cu]
  exact⟨x,v3,rfl,h2,oJ qq hv3⟩
 rcases hor with⟨h0,hes⟩|⟨blk,o,z,hρ,hlow,⟨arr,harr,hsz⟩,hlz,hrow⟩
 ·subst hes
  obtain⟨p1,p2⟩:=s1.JM (b:=id) (e:=e) (sz:=sz) d hz hid
  refine⟨v,_,_,fU c.ρ id none,he,⟨rfl,rfl⟩, ?_, ?_,fin _ ?_⟩
  ·rw[hHeq];exact p1
  ·rw[hHeq];exact s2.trans p2
  ·rw[hHeq,VR]
   refine⟨.inr rfl,ad,cap,hvv,fun e' sz' d' es' he'=> ?_⟩
   simp only[j6,dV,Option.some.injEq,fH.row.injEq] at he'
   obtain⟨rfl,rfl,rfl,rfl⟩:=he'
   refine⟨Nat.le_refl _,fun _=> .inl ⟨by simp[j6], ?_⟩⟩
   rcases hr3 with⟨_,h2,h3⟩|⟨blk,o,z,h2,_⟩
   ·exact⟨h2,h3⟩
   ·rw[h0] at h2;cases h2
 ·obtain⟨p1,p2⟩:=hS.qc (b:=id) (e:=e) (sz:=sz) d (es:=es) (w':=w') (blk:=blk) (o:=o) (z:=z) hz (.inl hid) (.inl hlow) hbel.os hbel.tape hbel.output hbel.size (fun k hk _=>hbel.block k hk) harr hsz hlz (fun hle i hi=>by
   obtain⟨y,x1,x2⟩:=eC hrow i hi
   refine⟨y,x1,nR ?_ x2⟩
   have:=hfl i hi
   simpa[List.getD,hi] using this)
  refine⟨v,_,_,fU c.ρ id (some (blk,o,z)),he,⟨rfl,rfl⟩, ?_, ?_,fin _ ?_⟩
  ·rw[hHeq];exact p1
  ·rw[hHeq];exact p2
  ·rw[hHeq,VR]
   refine⟨.inr rfl,ad,cap,hvv,fun e' sz' d' es' he'=> ?_⟩
   simp only[j6,dV,Option.some.injEq,fH.row.injEq] at he'
   obtain⟨rfl,rfl,rfl,rfl⟩:=he'
   refine⟨by omega,fun _=> .inr ⟨blk,o,z,by simp[j6], ?_⟩⟩
   rcases hr3 with⟨h2,_,_⟩|⟨blk',o',z',h2,h3,h4,h5,h6⟩
   ·rw[hρ] at h2;cases h2
   ·rw[hρ] at h2;cases h2
    exact⟨h3,h4,h5,h6⟩
theorem cU.QF {P:Program} {f:FuncId} {args args2:List AV} {e:TypeId} {sz:Nat} {es cs:List AV} (qq:mi cs) (h:cU P f args2 [] 0 (fun r1 H1 _=>∃b d0,r1= .dI (.sl b es.length::cs)/\bt H1 b=some (.row e sz d0 es))) (hfl:∀i,i<es.length->gT (es.getD i .any)) {H:Hp} {nx:Nat} (ha:args.map (dY H 6)=args2) (hfa:c8 0 args2):
 cU P f args H nx (fun r H' n=>r= .dI (.sl nx es.length::cs)/\H'=(nx,some (.row e sz .any es))::H/\n=nx+1):=
 (lO.toN (h.TS qq hfl .any ha hfa)).mono fun r H' n ⟨⟨h1,h2⟩,h3⟩=>⟨h1,h2,h3⟩
end Go.cw
namespace Go.Proofs.YtjopoheligmmoaaGreatDoor
open Go Go.cw Go.Proofs
set_option linter.unusedSimpArgs false
set_option linter.unusedVariables false
set_option maxRecDepth 8000
theorem EW (l m:List Int) (hl:l.length * 8<=140737488351232) (hm:m.length * 8<=140737488351232):Pure Tryz.prog 44 [fE l,fE m] (fun r=>r=bl (decide (l=m))):=by
 refine aD YZ rfl ?_
 unfold fE
 repeat' (first|refine aQ ?_|exact aC|with_reducible refine aB ?_ ?_|(apply aA;(·exact cL))|refine aH ?_|((with_reducible refine aE ?_ ?_)<;>intro hc<;>try(exfalso;omega)))
 ·refine eD (Eq.symm ?_)
  exact decide_eq_false fun e=>hc (by rw[e])
 ·have hlm:l.length=m.length:=by omega
  refine aF (fun i:Nat=>[(0,fE l),(1,fE m),(5,i64 i)])
   (fun i H n=>i<=l.length/\∀j,j<i->l.getD j 0=m.getD j 0) (fun i=>l.length - i) 0 cC ⟨Nat.zero_le _,fun _ h=>by omega⟩ ?_
  unfold fE
  rintro i H n ⟨hi,hall⟩
  by_cases hil:i<l.length
  ·have e1:=la (l:=l) hil
   have e2:=la (l:=m) (i:=i) (by omega)
   repeat' (first|refine aQ ?_|exact aC|with_reducible refine aB ?_ ?_|(apply aA;(·(first|exact e1 _|exact e2 _|exact cL)))|refine aH ?_|((with_reducible refine aE ?_ ?_)<;>intro hc<;>try(exfalso;omega)))
   ·refine eD (Eq.symm ?_)
    exact decide_eq_false fun e=>hc (by rw[e])
   ·refine⟨i+1,by omega,cC,by omega,fun j hj=> ?_⟩
    by_cases hji:j=i
    ·subst hji;exact hc
    ·exact hall j (by omega)
  ·have:i=l.length:=by omega
   subst this
   repeat' (first|refine aQ ?_|exact aC|with_reducible refine aB ?_ ?_|(apply aA;(·exact cL))|refine aH ?_|((with_reducible refine aE ?_ ?_)<;>intro hc<;>try(exfalso;omega)))
   refine eD (Eq.symm ?_)
   refine decide_eq_true (List.ext_getElem hlm fun j h1 h2=> ?_)
   have:=hall j h1
   simpa[List.getD,h1,h2] using this
theorem kY (l m:List Int) (hl:l.length * 8<=140737488351232) (hm:m.length * 8<=140737488351232):Pure Tryz.prog 18 [cT l,cT m] (fun r=>r=bl (decide (l=m))):=by
 have c0:=EW l m hl hm
 unfold fE at c0
 refine aD aAK rfl ?_
 refine cP ?_
 first|exact rfl|trivial
def VZ (k th nx o:Int):Node:=⟨k,0,0,th,⟨false,0,0⟩,⟨false,0,0⟩,nx,0,o⟩
def VA (name:List UInt8) (a b:Int):cG:=⟨⟨name.toArray⟩,0,0,[VZ 5 a 1 0,VZ 5 b 2 1,VZ 6 b 3 2,VZ 6 a 4 3,VZ 9 0 0 4]⟩
def nN:bx:=⟨[],[⟨⟨(List.toArray [108])⟩,0,0⟩,⟨⟨(List.toArray [109])⟩,0,0⟩],[VA [97] 0 1,VA [98] 1 0]⟩
theorem uD (name:List UInt8) (a b:Int):Pure Tryz.prog 47 [.sc (.string ⟨(List.toArray name)⟩),i64 a,i64 b] (fun r=>r=(VA name a b).av):=by
 refine cp ?_ (by simp[cH,cD])
 refine aJ aAX rfl ?_
 refine cP ?_
 exact⟨rfl⟩
theorem qE:cg nN:=js.1 (by decide+kernel)
theorem zM:nN.Wf:=by
 have hd:∀d∈nN.cB,d.Wf:=fun d h=>by
  simp only[nN,List.mem_cons,List.not_mem_nil,or_false] at h
  rcases h with rfl|rfl<;>exact⟨by decide+kernel,by decide+kernel,by decide+kernel⟩
 refine⟨fun _ h=>by simp[nN] at h,by simp[nN],hd,by simp[nN],fun g hg=> ?_,by simp[nN]⟩
 simp only[nN,List.mem_cons,List.not_mem_nil,or_false] at hg
 rcases hg with rfl|rfl<;>
 ·refine⟨by decide+kernel,by decide+kernel,by decide+kernel,fun n hn=> ?_,by decide+kernel⟩
  simp only[VA,List.mem_cons,List.not_mem_nil,or_false] at hn
  rcases hn with rfl|rfl|rfl|rfl|rfl<;>
   exact⟨by decide+kernel,by decide+kernel,by decide+kernel,by decide+kernel,⟨by decide+kernel,by decide+kernel⟩,⟨by decide+kernel,by decide+kernel⟩,by decide+kernel,by decide+kernel,by decide+kernel⟩
theorem zL:dn nN=[⟨0,1,0,1⟩,⟨1,0,1,1⟩]:=by decide+kernel
theorem P4:gU nN=fun h=>if h=0 then[1] else if h=1 then[0] else[]:=by
 funext h
 unfold gU
 rw[zL]
 have e:kA [⟨0,1,0,1⟩,⟨1,0,1,1⟩] h=if h=0 then[1] else if h=1 then[0] else[]:=by
  unfold kA
  simp only[List.foldl_cons,List.foldl_nil]
  by_cases h0:h=0
  ·subst h0;simp
  ·by_cases h1:h=1
   ·subst h1;simp
   ·have e0:¬(0:Int)=h:=fun e=>h0 e.symm
    have e1:¬(1:Int)=h:=fun e=>h1 e.symm
    simp[h0,h1,e0,e1]
 rw[e]
 unfold eX
 split
 ·simp
 ·split<;>simp
theorem P5:sZ nN=some [0,1]:=by
 unfold sZ
 rw[P4]
 decide+kernel
theorem P3:u5 nN (iK nN (cz nN) [0,1])=some [0,1]:=by decide+kernel
def O9:List cV:=(gP nN 99).getD []
theorem TH:gP nN 99=some O9:=by
 have h:(gP nN 99).isSome=true:=by decide+kernel
 unfold O9
 cases hs:gP nN 99 with
 |none=>rw[hs] at h;cases h
 |some l=>rfl
def U9:cY:=⟨[],[],false⟩
theorem P2:∀e∈dU nN O9 O9.length,e.ended=true\/e=U9:=by decide+kernel
theorem TI:U9∈dU nN O9 O9.length:=by decide+kernel
theorem TJ:iV O9 (fP nN O9 U9 O9.length)=[0,1]:=by decide+kernel
theorem FU:dZ nN 99=(0,O9):=by rw[mB qE (by decide),show(99:Int).toNat=99 from rfl,TH]
theorem NM {u:bx} {l:List cV} {x:cY} (h:∀e∈dU u l l.length,e.ended=true\/e=x) (hx:x∈dU u l l.length) (hx2:x.ended=false):iI (iG u l)=[x]:=by
 have h1:=(qI u l).filter fun e=> !e.ended
 change (iI (iG u l)).Pairwise _ at h1
 have h2:∀e,e∈iI (iG u l)↔e=x:=fun e=>by
  unfold iI
  rw[List.mem_filter,oG]
  constructor
  ·rintro⟨q1,q2⟩
   rcases h e q1 with h3|h3
   ·rw[h3] at q2;cases q2
   ·exact h3
  ·rintro rfl
   exact⟨hx,by rw[hx2];rfl⟩
 cases hl:iI (iG u l) with
 |nil=>exact absurd ((h2 x).2 rfl) (by rw[hl];simp)
 |cons a t=>
  rw[hl] at h1 h2
  have ha:=(h2 a).1 (by simp)
  subst ha
  cases t with
  |nil=>rfl
  |cons b t=>
   have hb:=(h2 b).1 (by simp)
   subst hb
   have:=(List.pairwise_cons.1 h1).1 b (by simp)
   rw[(gF.zero _ _).2 rfl] at this
   omega
theorem uC:dz nN 99=[U9]:=by
 unfold dz
 rw[FU]
 rw[if_pos rfl]
 exact NM P2 TI rfl
theorem P6:kT nN 99=[0,1]:=by
 unfold kT kQ
 rw[uC]
 show iD nN 99 U9=[0,1]
 unfold iD
 rw[FU]
 exact TJ
abbrev LP:AV:= .agg [.sc (.slice none 0 0),cF nN.cB,cZ nN.bw]
theorem uB (c:Cx):db c c LP nN.av:=cw.db.agg (.cons (cw.db.jE c c 3 .any) (.cons (fun _ h=>h) (.cons (fun _ h=>h) .nil)))
theorem ZF (u:bx) (hu:u.Wf) (hr:cg u):Pure Tryz.prog 15 [u.av] (fun r=>r= .dI [cT ((sZ u).getD []),bl (sZ u).isSome,i64 0]):=by
 have key:Pure Tryz.prog 15 [u.av] (fun r=>r=match sZ u with|none=> .dI [.sc (.slice none 0 0),bl false,i64 0]|some w=> .dI [cT w,bl true,i64 0]):=by
  refine cp ((JS u hu hr).mono ?_) (by split<;>simp[cH,c8,cD])
  intro r H n h
  unfold KY at h
  cases hq:sZ u with
  |none=>rw[hq] at h;dsimp only at h ⊢;rw[h];rfl
  |some w=>
   rw[hq] at h
   obtain⟨b,d,rfl,hb⟩:=h
   show AV.dI [cw.dY H 5 (.sl b w.length),bl true,i64 0]=_
   rw[dH (k:=4) hb (by simp),cn _ ((cD _ _).2 fun _ _=>by simp[cH])]
 refine jw key (jt _ _ _) fun c=> ?_
 cases sZ u with
 |none=>exact db.dI (.cons (db.jE _ _ _ _) (.cons (fun _ h=>h) (.cons (fun _ h=>h) .nil)))
 |some w=>exact fun _ h=>h
theorem LR {H:Hp} {nx:Nat} {b:Nat} (hb:∃d,bt H b=some (.row 3 1 d [i64 0,i64 1])):cU Tryz.prog 21 [LP, .sl b 2] H nx (fun r H' n=>r= .dI [.sl nx 2,bl true,i64 0]/\H'=(nx,some (.row 3 1 .any [i64 0,i64 1]))::H/\n=nx+1):=by
 have h:=IV nN zM qE [0,1] (by decide)
 have h2:=cU.args (bs:=[LP,cT [0,1]]) h fun c=> .cons (uB c) (.cons (fun _ h=>h) .nil)
 obtain⟨d,hb⟩:=hb
 refine cU.QF (es:=[i64 0,i64 1]) (cs:=[bl true,i64 0]) (args2:=[LP,cT [0,1]]) (by simp[mi]) (h2.mono ?_) ?_ ?_ ?_
 ·intro r H1 n1 hR
  unfold FI at hR
  rw[P3] at hR
  exact hR
 ·intro i hi
  match i,hi with
  |0,_=>trivial
  |1,_=>trivial
 ·show[cw.dY H 6 LP,cw.dY H 6 (.sl b [i64 0,i64 1].length)]=_
  rw[dA _ (show cH 0 LP by simp[cH,c8,cD]),dH (k:=5) hb rfl]
  rfl
 ·simp[cH,c8,cD]
theorem xo {H:Hp} {b:Nat} {d:AV} (hb:bt H b=some (.row 3 1 d [i64 0,i64 1])):cw.dY H 6 (.sl b 2)=cT [0,1]:=by
 show cw.dY H 6 (.sl b [i64 0,i64 1].length)=_
 rw[dH (k:=5) hb rfl]
 rfl
theorem CV {H:Hp} {x y a b:AV} (h1:cw.dY H 6 x=a) (h2:cw.dY H 6 y=b):[x,y].map (cw.dY H 6)=[a,b]:=by
 subst h1 h2
 rfl
theorem FV {H:Hp}:cw.dY H 6 (cT [0,1])=cT [0,1]:=dA _ (by simp[cH,c8,cD])
theorem yz:Pure Tryz.prog 20 [] (fun r=>r=bl true):=by
 have c0:Pure Tryz.prog 47 [.sc (.string ⟨⟨[⟨⟨⟨97,by decide⟩⟩⟩]⟩⟩),i64 0,i64 1] (fun r=>r=(VA [97] 0 1).av):=uD [97] 0 1
 have c1:Pure Tryz.prog 47 [.sc (.string ⟨⟨[⟨⟨⟨98,by decide⟩⟩⟩]⟩⟩),i64 1,i64 0] (fun r=>r=(VA [98] 1 0).av):=uD [98] 1 0
 refine cp ?_ (by simp[cH])
 refine ar aAL rfl ?_
 refine WL.cut ?_
 refine cP ?_
 refine⟨_,_,_,Rt.refl _ _ _,WL.cut ?_⟩
 refine cP ?_
 refine⟨[(1, .pt 6 1 0 0)],_,_,Rt.trans (Rt.wk (Wk.jB (cb:=6) (kr [3,4] _) 5 .any rfl fun b q hq=>sA hq)) (Rt.less cC),WL.last ?_⟩
 refine aa (b:=6) (q:=some (.row 25 3 .any [LP])) rfl ?_
 intro H2 r3
 have c0:Pure Tryz.prog 13 [LP] (fun r=>r= .dI [xq (dn nN),i64 0]):=Pure.args (uH nN zM qE) fun c=> .cons (uB c) .nil
 have c1:Pure Tryz.prog 15 [LP] (fun r=>r= .dI [cT [0,1],bl true,i64 0]):=Pure.args (by have:=ZF nN zM qE;rw[P5] at this;exact this) fun c=> .cons (uB c) .nil
 have c2:Pure Tryz.prog 25 [LP,i64 99] (fun r=>r= .dI [cT [0,1],bl true,i64 0]):=Pure.args (by have:=ZS nN zM 99;rw[P6,uC,FU] at this;exact this) fun c=> .cons (uB c) (.cons (fun _ h=>h) .nil)
 have c3:Pure Tryz.prog 23 [LP,i64 99] (fun r=>r= .dI [fI [U9],i64 0]):=Pure.args (by have:=vQ nN zM 99;rw[uC,FU] at this;exact this) fun c=> .cons (uB c) (.cons (fun _ h=>h) .nil)
 refine cP ?_
 refine aG (LR ⟨_,bu⟩) ?_
 rintro _ H3 n3 ⟨rfl,rfl,rfl⟩
 rw[zL]
 refine cP ?_
 refine aP (args2:=[cT [0,1],cT [0,1]]) (kY [0,1] [0,1] (by decide) (by decide)) (CV FV (xo bu)) (by simp[c8,cH,cD]) trivial ?_
 refine cP ?_
 refine aP (args2:=[cT [0,1],cT [0,1]]) (kY [0,1] [0,1] (by decide) (by decide)) (CV (xo bu) (xo bu)) (by simp[c8,cH,cD]) trivial ?_
 refine cP ?_
 refine aP (args2:=[cT [0,1],cT [0,1]]) (kY [0,1] [0,1] (by decide) (by decide)) (CV FV (xo bu)) (by simp[c8,cH,cD]) trivial ?_
 refine cP ?_
 first|exact rfl|exact⟨rfl⟩|trivial
section
section
variable {u:bx} {m:MS}
theorem BZ {l:List cV} (hf:iF u l):∀i,i<l.length->iK u (cz u) (iV l (some i))=(l.getD i default).m:=by
 intro i
 induction i using Nat.strongRecOn with
 |_ i ih=>
  intro hi
  by_cases h0:i=0
  ·subst h0
   have hw:iV l (some 0)=[]:=rfl
   rw[hw,hf.first]
   rfl
  obtain⟨k,t,h1,h2,h3,h4⟩:=hf.HC i (by omega) hi
  have g2:=ih k h1 (by omega)
  have hw:iV l (some i)=iV l (some k)++[(t:Int)]:=by
   show(kW l i).reverse=(kW l k).reverse++[(t:Int)]
   rw[py hf hi (by rw[h4];exact Int.natCast_nonneg _),h4,List.reverse_cons]
   rfl
  rw[hw,rj,g2,h4]
  show(if _=0 then _ else _)=_
  rw[if_pos h3]
  rfl
theorem H9 (hu:u.Wf) (hr:cg u) {l:List cV} (hf:iF u l) {i:Nat} (hi:i<l.length):ve u (l.getD i default).m:=by
 rw[<-BZ hf i hi]
 exact(ve.new hu hr).JJ hu hr
def qx (u:bx) (m:MS):Prop:=(∀t,t<u.bw.length->m.jR u (t:Nat)≠0)/\∃t,t<u.bw.length/\m.jR u (t:Nat)≠70
theorem qx.aBO (hr:cg u) (h:ve u m) (hs:qx u m):∃l,u5 u m=some l:=by
 obtain⟨h1,t,h2,h3⟩:=hs
 exact FA hr h h1 h2 h3
theorem OR (h:eN u m) (h1:m.stuck u=true) (h2:m.ended u=false):qx u m:=by
 unfold MS.stuck at h1
 unfold MS.ended at h2
 rw[h.nG] at h1 h2
 rw[List.all_eq_true] at h1
 refine⟨fun t ht=> ?_, ?_⟩
 ·have:=h1 t (List.mem_range.2 ht)
  exact of_decide_eq_true this
 ·rw[<-Bool.not_eq_true,List.all_eq_true] at h2
  apply Classical.byContradiction
  intro hn
  apply h2
  intro t ht
  apply decide_eq_true
  apply Classical.byContradiction
  intro h7
  exact hn ⟨t,List.mem_range.1 ht,h7⟩
theorem ft.next {l:List Int} (hk:ft u m l) {i:Nat} (hi:i<l.length):(m.node u (l.getD i 0).toNat).kind=5/\m.hold.getD (m.node u (l.getD i 0).toNat).cI.toNat 0=l.getD ((i+1)%l.length) 0:=by
 have h1:=hk.ring.on i hi
 have h3:=hk.ring.nn _ (cO 0 (Nat.mod_lt (i+1) hk.ring.pos))
 unfold ep at h1
 split at h1
 ·rename_i h5
  exact⟨h5,h1⟩
 ·omega
theorem BO (hu:u.Wf) {most:Int} (hne:dz u most≠[]):(dZ u most).1=0:=by
 apply Classical.byContradiction
 intro h
 unfold dz at hne
 rw[if_neg h] at hne
 exact hne rfl
end
end
section
open Classical in
noncomputable def vO (u:bx) (w:List Int):Bool:=decide (cg u/\w.length<=65536/\qx u (iK u (cz u) w))
open Classical in
theorem KA {u:bx} {w:List Int} {b:Bool} (h:(cg u/\w.length<=65536/\qx u (iK u (cz u) w))↔b=true):vO u w=b:=by
 unfold vO
 cases b with
 |true=>exact decide_eq_true (h.2 rfl)
 |false=>exact decide_eq_false fun hh=>by have:=h.1 hh;cases this
end
section
theorem uj:∀(l:List (List Int)) (w:List Int),lh w l=w\/lh w l∈l
 |[],w=> .inl rfl
 |x::r,w=>by
  rw[lh]
  rcases uj r (if si x w<0 then x else w) with h|h
  ·rw[h]
   split
   ·exact .inr (List.mem_cons_self ..)
   ·exact .inl rfl
  ·exact .inr (List.mem_cons_of_mem _ h)
theorem RX {u:bx} {most:Int} (hne:dz u most≠[]):∃e∈dz u most,kT u most=iD u most e:=by
 have hp:0<(kQ u most).length:=by
  unfold kQ;rw[List.length_map];exact List.length_pos_iff.2 hne
 have hm:kT u most∈kQ u most:=by
  unfold kT
  rcases uj ((kQ u most).drop 1) ((kQ u most).getD 0 []) with h|h
  ·rw[h];exact cO [] hp
  ·exact List.mem_of_mem_drop h
 unfold kQ at hm
 obtain⟨e,h1,h2⟩:=List.mem_map.1 hm
 exact⟨e,h1,h2.symm⟩
theorem KM {u:bx} (hu:u.Wf) {most:Int} (hne:dz u most≠[]):(dZ u most).1=0/\vO u (kT u most)=true:=by
 have h0:=BO hu hne
 obtain⟨e,he,hw⟩:=RX hne
 obtain⟨hr,hf,hl⟩:=x7 hu h0
 obtain⟨i,g1,g2,g3,g4,g5⟩:=ry hu h0 he
 have hlen:=(sC hu h0 he).2
 refine⟨h0,KA ⟨fun _=>rfl,fun _=>⟨hr,by rw[hw];exact hlen, ?_⟩⟩⟩
 rw[hw]
 unfold iD
 rw[g2,BZ hf i g1]
 rw[<-g4] at g5
 exact OR (H9 hu hr hf g1).ok g3 g5
open Classical in
theorem OQ {u:bx} {w:List Int} (h:vO u w=true):cg u/\w.length<=65536/\qx u (iK u (cz u) w):=by
 unfold vO at h
 exact of_decide_eq_true h
end
theorem jz.V2 {a b:jz} (h1:a.ir=b.ir) (h2:a.slot=b.slot) (h3:a.word=b.word):a=b:=by
 obtain⟨a1,a2,a3⟩:=a
 obtain⟨b1,b2,b3⟩:=b
 simp only at h1 h2 h3
 subst h1;subst h2;subst h3;rfl
theorem ec (c:Int):Pure Tryz.prog 168 [u8 c] (fun r=>r=bl (fV c)):=by
 refine aD X0 rfl ?_
 repeat' (first|refine aQ ?_|exact aC|with_reducible refine aB ?_ ?_|(apply aA;(·exact cL))|refine aH ?_|((with_reducible refine aE ?_ ?_)<;>intro hc<;>try(exfalso;omega)))
 refine eD ?_
 unfold fV
 by_cases h1:48<=c<;>by_cases h2:c<=57<;>simp[h1,h2]
theorem eP (c:Int):Pure Tryz.prog 170 [u8 c] (fun r=>r=bl (iu c)):=by
 refine aD X2 rfl ?_
 repeat' (first|refine aQ ?_|exact aC|with_reducible refine aB ?_ ?_|(apply aA;(·exact cL))|refine aH ?_|((with_reducible refine aE ?_ ?_)<;>intro hc<;>try(exfalso;omega)))
 refine eD ?_
 unfold iu
 by_cases h1:97<=c<;>by_cases h2:c<=122<;>by_cases h3:65<=c<;>by_cases h4:c<=90<;>by_cases h5:c=95<;>simp[h1,h2,h3,h4,h5]
theorem gp (s:ByteArray):Pure Tryz.prog 169 [st s] (fun r=>r=bl (my s)):=by
 refine aD X1 rfl ?_
 repeat' (first|refine aQ ?_|exact aC|with_reducible refine aB ?_ ?_|(apply aA;(·exact cL))|refine aH ?_|((with_reducible refine aE ?_ ?_)<;>intro hc<;>try(exfalso;omega)))
 all_goals refine eD ?_
 all_goals simp_all[my,FF]
theorem EO (s:ByteArray) (hs:s.size<=140737488351232):Pure Tryz.prog 124 [st s] (fun r=>r=bl (fm s)):=by
 refine aD W7 rfl ?_
 by_cases hz:(s.size:Int)<1
 ·have hb:fm s=false:=by unfold fm;rw[decide_eq_false (by omega)];simp
  rw[hb]
  repeat' (first|refine aQ ?_|exact aC|with_reducible refine aB ?_ ?_|(apply aA;(·exact cL))|((with_reducible refine aN (ec _) ?_ ?_);(·exact cJ))|((with_reducible refine aI (fun _=>ec _) ?_ ?_);(·exact cJ))|((with_reducible refine aL (ec _) ?_ ?_);(·exact cJ))|((with_reducible refine aM (fun _=>ec _) ?_ ?_);(·exact cJ))|((with_reducible refine aN (gp _) ?_ ?_);(·exact cJ))|((with_reducible refine aI (fun _=>gp _) ?_ ?_);(·exact cJ))|((with_reducible refine aL (gp _) ?_ ?_);(·exact cJ))|((with_reducible refine aM (fun _=>gp _) ?_ ?_);(·exact cJ))|((with_reducible refine aN (eP _) ?_ ?_);(·exact cJ))|((with_reducible refine aI (fun _=>eP _) ?_ ?_);(·exact cJ))|((with_reducible refine aL (eP _) ?_ ?_);(·exact cJ))|((with_reducible refine aM (fun _=>eP _) ?_ ?_);(·exact cJ))|(simp only[hz,decide_true])|refine aH ?_|((with_reducible refine aE ?_ ?_)<;>intro hc<;>try(exfalso;omega)))
 ·repeat' (first|refine aQ ?_|exact eh|with_reducible refine aB ?_ ?_|((with_reducible refine Ask.mk ?_);first|exact dJ|((refine Ask.mk ?_);intro h;exact⟨by omega,by omega⟩)|exact cj)|(apply aA;(·exact cL))|((with_reducible refine aN (ec _) ?_ ?_);(·exact cJ))|((with_reducible refine aI (fun _=>ec _) ?_ ?_);(·exact cJ))|((with_reducible refine aL (ec _) ?_ ?_);(·exact cJ))|((with_reducible refine aM (fun _=>ec _) ?_ ?_);(·exact cJ))|((with_reducible refine aN (gp _) ?_ ?_);(·exact cJ))|((with_reducible refine aI (fun _=>gp _) ?_ ?_);(·exact cJ))|((with_reducible refine aL (gp _) ?_ ?_);(·exact cJ))|((with_reducible refine aM (fun _=>gp _) ?_ ?_);(·exact cJ))|((with_reducible refine aN (eP _) ?_ ?_);(·exact cJ))|((with_reducible refine aI (fun _=>eP _) ?_ ?_);(·exact cJ))|((with_reducible refine aL (eP _) ?_ ?_);(·exact cJ))|((with_reducible refine aM (fun _=>eP _) ?_ ?_);(·exact cJ))|(simp only[hz,decide_false])|refine aH ?_|((with_reducible refine aE ?_ ?_)<;>intro hc<;>try(exfalso;omega)))
  ·refine eD (Eq.symm ?_)
   unfold fm
   have hp:(decide (1<=s.size)&&decide (s.size<=32)&& !fV (fM s 0)&& !my s)=false:=by
    rcases hc with((h|h)|h)|h
    ·exact absurd h (by decide)
    ·simp[show ¬s.size<=32 by omega]
    ·have h:fV (fM s 0)=true:=h
     simp[h]
    ·simp[h]
   rw[hp,Bool.false_and]
  ·have hp:(decide (1<=s.size)&&decide (s.size<=32)&& !fV (fM s 0)&& !my s)=true:=by
    have h1:s.size<=32:=by
     have:¬(32:Int)<s.size:=fun h=>hc.1 (.inl (.inr h))
     omega
    have h2:fV (fM s 0)=false:=by
     cases hd:fV (fM s 0) with
     |false=>rfl
     |true=>exact absurd (.inr hd) hc.1
    have h3:my s=false:=hc.2
    rw[decide_eq_true (by omega:1<=s.size),decide_eq_true h1,h2,h3];rfl
   have hb:∀R,(decide (1<=s.size)&&decide (s.size<=32)&& !fV (fM s 0)&& !my s&&R)=R:=fun R=>by rw[hp,Bool.true_and]
   unfold fm
   rw[hb]
   clear hc hp hb
   refine aF (fun i:Nat=>[(0,st s),(3,i64 i)]) (fun i H n=>i<=s.size/\∀j,j<i->(iu (fM s j)||fV (fM s j))=true) (fun i=>s.size - i) 0 cC ⟨Nat.zero_le _,fun _ h=>by omega⟩ ?_
   rintro i H n ⟨hi,hall⟩
   by_cases his:i<s.size
   ·repeat' (first|refine aQ ?_|exact eh|with_reducible refine aB ?_ ?_|((with_reducible refine Ask.mk ?_);first|exact dJ|((refine Ask.mk ?_);intro h;exact⟨by omega,by omega⟩)|exact cj)|(apply aA;(·exact cL))|((with_reducible refine aN (ec _) ?_ ?_);(·exact cJ))|((with_reducible refine aI (fun _=>ec _) ?_ ?_);(·exact cJ))|((with_reducible refine aL (ec _) ?_ ?_);(·exact cJ))|((with_reducible refine aM (fun _=>ec _) ?_ ?_);(·exact cJ))|((with_reducible refine aN (eP _) ?_ ?_);(·exact cJ))|((with_reducible refine aI (fun _=>eP _) ?_ ?_);(·exact cJ))|((with_reducible refine aL (eP _) ?_ ?_);(·exact cJ))|((with_reducible refine aM (fun _=>eP _) ?_ ?_);(·exact cJ))|refine aH ?_|((with_reducible refine aE ?_ ?_)<;>intro hc<;>try(exfalso;omega)))
    ·refine eD (Eq.symm ?_)
     rw[Bool.eq_false_iff,ne_eq,List.all_eq_true]
     intro hA
     have h1:=hA i (List.mem_range.2 his)
     have hc:iu (fM s i)=false/\fV (fM s i)=false:=hc
     rw[hc.1,hc.2] at h1
     cases h1
    ·refine⟨i+1,by omega,cC,by omega,fun j hj=> ?_⟩
     by_cases hji:j=i
     ·have hc:¬iu (fM s i)=false\/fV (fM s i)=true:=hc
      rw[hji]
      rcases hc with h|h
      ·rw[Bool.not_eq_false] at h
       rw[h,Bool.true_or]
      ·rw[h,Bool.or_true]
     ·exact hall j (by omega)
   ·have:i=s.size:=by omega
    subst this
    repeat' (first|refine aQ ?_|exact aC|with_reducible refine aB ?_ ?_|(apply aA;(·exact cL))|refine aH ?_|((with_reducible refine aE ?_ ?_)<;>intro hc<;>try(exfalso;omega)))
    refine eD (Eq.symm ?_)
    rw[List.all_eq_true]
    intro j hj
    exact hall j (List.mem_range.1 hj)
theorem gn (k:Int):Pure Tryz.prog 125 [u8 k] (fun r=>r= .dI [bl (j0 k),bl (ej k),bl (nt k),bl (jA k)]):=by
 refine aD W8 rfl ?_
 repeat' (first|refine aQ ?_|exact aC|with_reducible refine aB ?_ ?_|(apply aA;(·exact cL))|refine aH ?_|((with_reducible refine aE ?_ ?_)<;>intro hc<;>try(exfalso;omega)))
 all_goals first
  |(subst hc;exact rfl)
  |(have h1:j0 k=false:=decide_eq_false (by omega)
    have h2:ej k=false:=decide_eq_false (by omega)
    have h3:nt k=false:=decide_eq_false (by omega)
    have h4:jA k=false:=decide_eq_false (by omega)
    rw[h1,h2,h3,h4])
theorem fb (n most:Int) (b:Bool):Pure Tryz.prog 127 [i64 n,bl b,i64 most] (fun r=>r=bl (p6 n b most)):=by
 refine aD XA rfl ?_
 cases b with
 |false=>
  repeat' (first|refine aQ ?_|exact aC|with_reducible refine aB ?_ ?_|(apply aA;(·exact cL))|refine aH ?_|((with_reducible refine aE ?_ ?_)<;>intro hc<;>try(exfalso;omega)))
  exact rfl
 |true=>
  repeat' (first|refine aQ ?_|exact aC|with_reducible refine aB ?_ ?_|(apply aA;(·exact cL))|refine aH ?_|((with_reducible refine aE ?_ ?_)<;>intro hc<;>try(exfalso;omega)))
  refine eD ?_
  unfold p6
  by_cases h1:0<=n<;>by_cases h2:n<most<;>simp[h1,h2]
theorem sP (v:jz) (b:Bool) (bz:Int):Pure Tryz.prog 128 [v.av,bl b,i64 bz] (fun r=>r=bl (pe v b bz)):=by
 refine aD XB rfl ?_
 cases b with
 |false=>
  repeat' (first|refine aQ ?_|exact eh|with_reducible refine aB ?_ ?_|((with_reducible refine Ask.mk ?_);first|exact dJ|exact cj|(intro h;simp_all[jz.cells]<;>fail)|(simp_all[jz.cells]<;>fail))|(apply aA;(·exact cL))|refine aH ?_|((with_reducible refine aE ?_ ?_)<;>intro hc<;>try(exfalso;omega)))
  refine eD ?_
  unfold pe
  rw[if_neg (by decide),Bool.eq_iff_iff,decide_eq_true_eq]
  constructor
  ·intro h
   simp at h
   exact jz.V2 h.1 h.2.1 h.2.2
  ·intro h
   rw[h];rfl
 |true=>
  repeat' (first|refine aQ ?_|exact eh|with_reducible refine aB ?_ ?_|((with_reducible refine Ask.mk ?_);first|exact dJ|exact cj|(intro h;simp_all[jz.cells]<;>fail)|(simp_all[jz.cells]<;>fail))|(apply aA;(·exact cL))|refine aH ?_|((with_reducible refine aE ?_ ?_)<;>intro hc<;>try(exfalso;omega)))
  all_goals refine eD ?_
  all_goals unfold pe
  ·rw[if_pos rfl,if_pos hc]
   by_cases h1:0<=v.slot<;>by_cases h2:v.slot<bz<;>by_cases h3:v.word=0<;>simp[h1,h2,h3]
  ·rw[if_pos rfl,if_neg (by rw[hc];decide)]
set_option maxRecDepth 4000 in
set_option maxHeartbeats 4000000 in
theorem EP (u:bx) (g:cG) (n:Node) (hn:n.Wf):Pure Tryz.prog 77 [u.av,g.av,n.av] (fun r=>r=bl (jF u g n)):=by
 have h0:=hn.kind
 have ho:=hn.op
 refine aD aAi rfl ?_
 have hva:Pure Tryz.prog 128 [.agg (List.take 3 (List.drop (0+4) n.cells)),bl (nt n.kind),i64 g.bz] (fun r=>r=bl (pe n.a (nt n.kind) g.bz)):=sP n.a _ _
 have hvb:∀b,Pure Tryz.prog 128 [.agg (List.take 3 (List.drop (0+7) n.cells)),bl b,i64 g.bz] (fun r=>r=bl (pe n.b b g.bz)):=fun b=>sP n.b b _
 have hfa:c8 0 [.agg (List.take 3 (List.drop (0+4) n.cells)),bl (nt n.kind),i64 g.bz]:=by simp[c8,cH,Node.cells]
 have hfb:∀b,c8 0 [.agg (List.take 3 (List.drop (0+7) n.cells)),bl b,i64 g.bz]:=fun b=>by simp[c8,cH,Node.cells]
 have hif:∀a b:Bool,(if a=true then b else false)=(a&&b):=fun a b=>by cases a<;>rfl
 by_cases hk:1<=n.kind/\n.kind<10/\0<=n.origin/\n.origin<4096
 ·repeat' (first|refine aQ ?_|exact eh|with_reducible refine aB ?_ ?_|((with_reducible refine Ask.mk ?_);first|exact dJ|exact cj|(intro h;simp_all[bx.cells,cG.cells,Node.cells]<;>fail)|(simp_all[bx.cells,cG.cells,Node.cells]<;>fail))|(apply aA;(·exact cL))|((with_reducible refine aN (gn _) ?_ ?_);(·exact cJ))|((with_reducible refine aI (fun _=>gn _) ?_ ?_);(·exact cJ))|((with_reducible refine aL (gn _) ?_ ?_);(·exact cJ))|((with_reducible refine aM (fun _=>gn _) ?_ ?_);(·exact cJ))|((with_reducible refine aN (fb _ _ _) ?_ ?_);(·exact cJ))|((with_reducible refine aI (fun _=>fb _ _ _) ?_ ?_);(·exact cJ))|((with_reducible refine aL (fb _ _ _) ?_ ?_);(·exact cJ))|((with_reducible refine aM (fun _=>fb _ _ _) ?_ ?_);(·exact cJ))|((with_reducible refine aN (gw _) ?_ ?_);(·exact cJ))|((with_reducible refine aI (fun _=>gw _) ?_ ?_);(·exact cJ))|((with_reducible refine aL (gw _) ?_ ?_);(·exact cJ))|((with_reducible refine aM (fun _=>gw _) ?_ ?_);(·exact cJ))|(refine aI (fun _=>hva) hfa ?_)|(refine aI (fun _=>hvb _) (hfb _) ?_)|refine aH ?_|((with_reducible refine aE ?_ ?_)<;>intro hc<;>try(exfalso;omega)))
  all_goals rename_i h56
  all_goals refine eD (Eq.symm ?_)
  all_goals unfold jF
  all_goals rw[decide_eq_true hk,Bool.true_and]
  ·have hop:(if n.kind=1 then decide (n.op<19) else decide (n.op=0))=false:=by split<;>exact decide_eq_false (by omega)
   rw[hop];simp
  ·have hop:(if n.kind=1 then decide (n.op<19) else decide (n.op=0))=true:=by split<;>exact decide_eq_true (by omega)
   rw[hop,Bool.true_and,if_pos h56]
   simp only[hif,List.length_map]
  ·have hop:(if n.kind=1 then decide (n.op<19) else decide (n.op=0))=false:=by split<;>exact decide_eq_false (by omega)
   rw[hop];simp
  ·have hop:(if n.kind=1 then decide (n.op<19) else decide (n.op=0))=true:=by split<;>exact decide_eq_true (by omega)
   rw[hop,Bool.true_and,if_neg (by omega)]
   simp only[hif,List.length_map]
 ·have hb:jF u g n=false:=by unfold jF;rw[decide_eq_false hk];simp
  rw[hb]
  repeat' (first|refine aQ ?_|exact eh|with_reducible refine aB ?_ ?_|((with_reducible refine Ask.mk ?_);first|exact dJ|exact cj|(intro h;simp_all[bx.cells,cG.cells,Node.cells]<;>fail)|(simp_all[bx.cells,cG.cells,Node.cells]<;>fail))|(apply aA;(·exact cL))|((with_reducible refine aN (gn _) ?_ ?_);(·exact cJ))|((with_reducible refine aI (fun _=>gn _) ?_ ?_);(·exact cJ))|((with_reducible refine aL (gn _) ?_ ?_);(·exact cJ))|((with_reducible refine aM (fun _=>gn _) ?_ ?_);(·exact cJ))|((with_reducible refine aN (fb _ _ _) ?_ ?_);(·exact cJ))|((with_reducible refine aI (fun _=>fb _ _ _) ?_ ?_);(·exact cJ))|((with_reducible refine aL (fb _ _ _) ?_ ?_);(·exact cJ))|((with_reducible refine aM (fun _=>fb _ _ _) ?_ ?_);(·exact cJ))|((with_reducible refine aN (gw _) ?_ ?_);(·exact cJ))|((with_reducible refine aI (fun _=>gw _) ?_ ?_);(·exact cJ))|((with_reducible refine aL (gw _) ?_ ?_);(·exact cJ))|((with_reducible refine aM (fun _=>gw _) ?_ ?_);(·exact cJ))|(refine aI (fun _=>hva) hfa ?_)|(refine aI (fun _=>hvb _) (hfb _) ?_)|refine aH ?_|((with_reducible refine aE ?_ ?_)<;>intro hc<;>try(exfalso;omega)))
  all_goals first|exact rfl|(exfalso;omega)
abbrev strs (l:List ByteArray):List AV:=l.map fun s=>st s
theorem UR {l:List ByteArray} {i:Nat} (h:i<l.length) (d:AV):(strs l).getD ((i:Int)).toNat d=st (l.getD i default):=by rw[Int.toNat_natCast];exact cx (fun s=>st s) l i d h
theorem OT (l:List ByteArray) (s:ByteArray):strs l++[st s]=strs (l++[s]):=by simp[strs]
theorem OU (l:List ByteArray):(strs l).length=l.length:=by simp[strs]
theorem P8 {l:List Decl} {i:Nat} (h:i<l.length) (d:AV):(l.map Decl.av).getD ((i:Int)).toNat d=(l.getD i default).av:=by rw[Int.toNat_natCast];exact cx Decl.av l i d h
def uu:List ByteArray->List Decl->Bool->Bool
 |_,[],_=>true
 |acc,d::r,w=>if(fm d.name&&(w||decide (d.word=0))&& !gI acc d.name)=true then uu (acc++[d.name]) r w else false
def oj (l:List Decl) (i:Nat):List ByteArray:=(l.take i).map Decl.name
theorem NY {acc:List ByteArray} {l:List Decl} {w:Bool} {i:Nat} (h:i<l.length):uu acc (l.drop i) w=if(fm (l.getD i default).name&&(w||decide ((l.getD i default).word=0))&& !gI acc (l.getD i default).name)=true then uu (acc++[(l.getD i default).name]) (l.drop (i+1)) w else false:=by
 rw[List.drop_eq_getElem_cons h,uu,show l.getD i default=l[i] by simp[List.getD,h]]
theorem JA {l:List Decl} {i:Nat} (h:i<l.length):oj l (i+1)=oj l i++[(l.getD i default).name]:=by
 unfold oj
 rw[List.take_succ_eq_append_getElem h,List.map_append,show l.getD i default=l[i] by simp[List.getD,h]];rfl
theorem NT {l:List Decl} {i:Nat} (h:i<=l.length):(oj l i).length=i:=by simp[oj];omega
theorem I7 {l:List ByteArray} {k:Nat} (h:k<l.length) (s:ByteArray):gI (l.take (k+1)) s=(gI (l.take k) s||decide (s=l.getD k default)):=by
 rw[Bool.eq_iff_iff,Bool.or_eq_true,AT,AT,decide_eq_true_eq,List.take_succ_eq_append_getElem h,List.mem_append,show l.getD k default=l[k] by simp[List.getD,h]]
 simp
theorem VV (a b:ByteArray):(a==b)=decide (a=b):=by
 obtain⟨d⟩:=a
 obtain⟨d'⟩:=b
 show(d==d')=_
 rw[Bool.eq_iff_iff]
 simp
def FK (nv:AV) (L:List ByteArray) (H:Hp) (nx:Nat):Prop:=(nv= .sc (.slice none 0 0)/\L=[])\/∃b d,nv= .sl b L.length/\b<nx/\bt H b=some (.row 9 1 d (strs L))
def jI (nv:AV) (y:Nat):Prop:=∀b n,nv= .sl b n->y≠b
theorem yx {b n y:Nat} (h:jI (.sl b n) y):y≠b:=h b n rfl
theorem K7 {b n m y:Nat} (h:jI (.sl b n) y):jI (.sl b m) y:=fun b' n' e=>by cases e;exact h b n rfl
set_option maxRecDepth 4000 in
set_option maxHeartbeats 8000000 in
theorem BB (l:List Decl) (hl:l.length<=64) (hw:∀d∈l,d.Wf) (a0:List ByteArray) (ha:a0.length<=1000) (w:Bool) (nv0:AV) (H0:Hp) (nx:Nat) (ht0:FK nv0 a0 H0 nx):cU Tryz.prog 76 [cF l,nv0,bl w] H0 nx (fun r H n=>nx<=n/\(∀y,y<nx->jI nv0 y->bt H y=bt H0 y)/\(uu a0 l w=true->∃nv,r= .dI [nv,bl true]/\FK nv (a0++l.map Decl.name) H n/\∀y,y<nx->jI nv0 y->jI nv y)/\(uu a0 l w=false->r= .dI [.sc (.slice none 0 0),bl false])):=by
 have hml:(l.map Decl.av).length=l.length:=by simp
 refine aJ aAh rfl ?_
 repeat' (first|refine aQ ?_|exact aC|with_reducible refine aB ?_ ?_|(apply aA;(·exact cL))|refine aH ?_|((with_reducible refine aE ?_ ?_)<;>intro hc<;>try(exfalso;omega)))
 refine aF (fun σ:Nat×AV=>[(0,cF l),(1,σ.2),(2,bl w),(8,i64 σ.1)])
  (fun σ H n=>σ.1<=l.length/\nx<=n/\uu (a0++oj l σ.1) (l.drop σ.1) w=uu a0 l w/\FK σ.2 (a0++oj l σ.1) H n/\(∀y,y<nx->jI nv0 y->jI σ.2 y)/\∀y,y<nx->jI nv0 y->bt H y=bt H0 y) (fun σ=>l.length - σ.1) (0,nv0) cC ⟨Nat.zero_le _,cX,by simp[oj], ?_,fun _ _ h=>h,fun y hy _=>cE⟩ ?_
 ·rw[show a0++oj l (0:Nat)=a0 by simp[oj]]
  rcases ht0 with h|⟨b,d,h1,h2,h3⟩
  ·exact .inl h
  ·exact .inr ⟨b,d,h1,Nat.lt_of_lt_of_le h2 cX,Eq.trans cE h3⟩
 rintro⟨i,nv⟩ H n ⟨hi,hnn,hok,htold,hap,hkp⟩
 dsimp only at hi hok htold hap ⊢
 have hLl:(a0++oj l i).length=a0.length+i:=by rw[List.length_append,NT hi]
 by_cases hil:i<l.length
 ·have ed:=fun d=>P8 (l:=l) hil d
  have hdw:=hw _ (cO default hil)
  have hnm:=EO (l.getD i default).name hdw.name
  rw[NY hil] at hok
  have hnx:a0++oj l (i+1)=(a0++oj l i)++[(l.getD i default).name]:=by rw[JA hil,List.append_assoc]
  generalize hL:a0++oj l i=L at *
  generalize l.getD i default=dd at *
  have hsl:(strs L).length=L.length:=OU L
  rcases htold with⟨rfl,hL0⟩|⟨b,d,rfl,hbn,hb⟩
  ·have hL0l:L.length=0:=by rw[hL0];rfl
   repeat' (first|refine aQ ?_|exact eh|with_reducible refine aB ?_ ?_|((with_reducible refine Ask.mk ?_);first|exact dJ|(exact hml)|(exact hsl)|exact cj|(intro h;simp_all[Decl.cells]<;>fail)|(simp_all[Decl.cells]<;>fail))|(apply aA;(·(first|exact ed _|exact cL)))|refine aK (hnm) ?_|refine aH ?_|((with_reducible refine aE ?_ ?_)<;>intro hc<;>try(exfalso;omega)))
   refine aF (fun σ:Nat×Bool=>[(0,cF l),(1, .sc (.slice none 0 0)),(2,bl w),(8,i64 i),(9,bl σ.2),(10,i64 σ.1)])
    (fun σ H2 n2=>σ.1<=L.length/\n<=n2/\σ.2=(fm dd.name&&(w||decide (dd.word=0))&& !gI (L.take σ.1) dd.name)/\∀y,y<nx->jI nv0 y->bt H2 y=bt H0 y) (fun σ=>L.length - σ.1) (0,(if fm dd.name=true then(if w=true then true else decide (dd.word=0)) else false)) cC ⟨Nat.zero_le _,cX,by cases fm dd.name<;>cases w<;>simp[gI],fun y hy h=>Eq.trans cE (hkp y hy h)⟩ ?_
   rintro⟨k,okv⟩ H2 n2 ⟨hk,hn2,hokv,hkp2⟩
   dsimp only at hk hokv ⊢
   by_cases hkl:k<L.length
   ·exfalso;omega
   ·have:k=L.length:=by omega
    subst this
    rw[List.take_length] at hokv
    rw[<-hokv] at hok
    cases okv with
    |false=>
     rw[if_neg (by decide)] at hok
     repeat' (first|refine aQ ?_|exact aC|with_reducible refine aB ?_ ?_|(apply aA;(·exact cL))|refine aH ?_|((with_reducible refine aE ?_ ?_)<;>intro hc<;>try(exfalso;omega)))
     first|refine⟨?_, ?_, ?_, ?_⟩|refine⟨⟨?_, ?_, ?_, ?_⟩⟩
     ·exact Nat.le_trans (Nat.le_trans hnn hn2) cX
     ·exact fun y hy h=>Eq.trans cE (hkp2 y hy h)
     ·intro h;rw[<-hok] at h;cases h
     ·exact fun _=>rfl
    |true=>
     rw[if_pos rfl] at hok
     repeat' (first|refine aQ ?_|exact eh|with_reducible refine aB ?_ ?_|((with_reducible refine Ask.mk ?_);first|exact dJ|(exact hml)|(exact hsl)|exact cj|(intro h;simp_all[Decl.cells]<;>fail)|(simp_all[Decl.cells]<;>fail))|(apply aA;(·(first|exact ed _|exact cL)))|refine aH ?_|((with_reducible refine aE ?_ ?_)<;>intro hc<;>try(exfalso;omega)))
     refine⟨(i+1, .sl (n2+13) ([dd.name]:List ByteArray).length),by dsimp only;omega,cC,by dsimp only;omega,Nat.le_trans (Nat.le_trans hnn hn2) cX,by dsimp only;rw[hnx];exact hok, ?_,fun y hy h=> ?_,fun y hy h=>Eq.trans cE (hkp2 y hy h)⟩
     ·rw[hnx,hL0];exact .inr ⟨n2+13,_,rfl,cX,bu⟩
     ·intro b' n' e;cases e;omega
  ·repeat' (first|refine aQ ?_|exact eh|with_reducible refine aB ?_ ?_|((with_reducible refine Ask.mk ?_);first|exact dJ|(exact hml)|(exact hsl)|exact cj|(intro h;simp_all[Decl.cells]<;>fail)|(simp_all[Decl.cells]<;>fail))|(apply aA;(·(first|exact ed _|exact cL)))|refine aK (hnm) ?_|refine aH ?_|((with_reducible refine aE ?_ ?_)<;>intro hc<;>try(exfalso;omega)))
   refine aF (fun σ:Nat×Bool=>[(0,cF l),(1, .sl b L.length),(2,bl w),(8,i64 i),(9,bl σ.2),(10,i64 σ.1)])
    (fun σ H2 n2=>σ.1<=L.length/\n<=n2/\σ.2=(fm dd.name&&(w||decide (dd.word=0))&& !gI (L.take σ.1) dd.name)/\(∃d,bt H2 b=some (.row 9 1 d (strs L)))/\∀y,y<nx->jI nv0 y->bt H2 y=bt H0 y) (fun σ=>L.length - σ.1) (0,(if fm dd.name=true then(if w=true then true else decide (dd.word=0)) else false)) cC ⟨Nat.zero_le _,cX,by cases fm dd.name<;>cases w<;>simp[gI],⟨_,bu⟩,fun y hy h=>Eq.trans cE (hkp y hy h)⟩ ?_
   rintro⟨k,okv⟩ H2 n2 ⟨hk,hn2,hokv,⟨d2,hb2⟩,hkp2⟩
   dsimp only at hk hokv ⊢
   by_cases hkl:k<L.length
   ·have es:=fun d=>UR (l:=L) hkl d
    have hstep:(if okv=true then !(L.getD k default==dd.name) else false)=(fm dd.name&&(w||decide (dd.word=0))&& !gI (L.take (k+1)) dd.name):=by
     rw[I7 hkl,VV,hokv]
     have:decide (L.getD k default=dd.name)=decide (dd.name=L.getD k default):=decide_eq_decide.2 ⟨Eq.symm,Eq.symm⟩
     rw[this]
     cases fm dd.name<;>cases(w||decide (dd.word=0))<;>cases gI (L.take k) dd.name<;>cases decide (dd.name=L.getD k default)<;>rfl
    repeat' (first|refine aQ ?_|exact eh|with_reducible refine aB ?_ ?_|((with_reducible refine Ask.mk ?_);first|exact dJ|(exact hml)|(exact hsl)|exact cj|(intro h;simp_all[Decl.cells]<;>fail)|(simp_all[Decl.cells]<;>fail))|(apply aA;(·(first|exact ed _|exact es _|exact cL)))|refine aH ?_|((with_reducible refine aE ?_ ?_)<;>intro hc<;>try(exfalso;omega)))
    exact⟨(k+1,if okv=true then !(L.getD k default==dd.name) else false),by dsimp only;omega,cC,by dsimp only;omega,by first|omega|exact cX,hstep,⟨_,bu⟩,fun y hy h=>Eq.trans cE (hkp2 y hy h)⟩
   ·have:k=L.length:=by omega
    subst this
    rw[List.take_length] at hokv
    rw[<-hokv] at hok
    cases okv with
    |false=>
     rw[if_neg (by decide)] at hok
     repeat' (first|refine aQ ?_|exact aC|with_reducible refine aB ?_ ?_|(apply aA;(·exact cL))|refine aH ?_|((with_reducible refine aE ?_ ?_)<;>intro hc<;>try(exfalso;omega)))
     first|refine⟨?_, ?_, ?_, ?_⟩|refine⟨⟨?_, ?_, ?_, ?_⟩⟩
     ·exact Nat.le_trans (Nat.le_trans hnn hn2) cX
     ·exact fun y hy h=>Eq.trans cE (hkp2 y hy h)
     ·intro h;rw[<-hok] at h;cases h
     ·exact fun _=>rfl
    |true=>
     rw[if_pos rfl] at hok
     repeat' (first|refine aQ ?_|exact eh|with_reducible refine aB ?_ ?_|((with_reducible refine Ask.mk ?_);first|exact dJ|(exact hml)|(exact hsl)|exact cj|(intro h;simp_all[Decl.cells]<;>fail)|(simp_all[Decl.cells]<;>fail))|(apply aA;(·(first|exact ed _|exact cL)))|refine aH ?_|((with_reducible refine aE ?_ ?_)<;>intro hc<;>try(exfalso;omega)))
     refine⟨(i+1, .sl b (L++[dd.name]).length),by dsimp only;omega,by rw[List.length_append];exact cC,by dsimp only;omega,Nat.le_trans (Nat.le_trans hnn hn2) cX,by dsimp only;rw[hnx];exact hok, ?_,fun y hy h=>K7 (hap y hy h),fun y hy h=> ?_⟩
     ·rw[hnx];exact .inr ⟨b,_,rfl,Nat.lt_of_lt_of_le hbn (Nat.le_trans hn2 cX),by rw[<-OT];exact bu⟩
     ·have hyb:=yx (hap y hy h)
      exact Eq.trans cE (hkp2 y hy h)
 ·have:i=l.length:=by omega
  subst this
  rw[List.drop_eq_nil_of_le (Nat.le_refl _),uu] at hok
  have hall:oj l l.length=l.map Decl.name:=by simp[oj]
  rw[hall] at htold
  rcases htold with⟨rfl,hL0⟩|⟨b,d,rfl,hbn,hb⟩
  ·repeat' (first|refine aQ ?_|exact eh|with_reducible refine aB ?_ ?_|((with_reducible refine Ask.mk ?_);first|exact dJ|(exact hml)|exact cj)|(apply aA;(·exact cL))|refine aH ?_|((with_reducible refine aE ?_ ?_)<;>intro hc<;>try(exfalso;omega)))
   first|refine⟨?_, ?_, ?_, ?_⟩|refine⟨⟨?_, ?_, ?_, ?_⟩⟩
   ·exact Nat.le_trans hnn cX
   ·exact fun y hy h=>Eq.trans cE (hkp y hy h)
   ·exact fun _=>⟨_,rfl, .inl ⟨rfl,hL0⟩,hap⟩
   ·intro h;rw[<-hok] at h;cases h
  ·repeat' (first|refine aQ ?_|exact eh|with_reducible refine aB ?_ ?_|((with_reducible refine Ask.mk ?_);first|exact dJ|(exact hml)|exact cj)|(apply aA;(·exact cL))|refine aH ?_|((with_reducible refine aE ?_ ?_)<;>intro hc<;>try(exfalso;omega)))
   first|refine⟨?_, ?_, ?_, ?_⟩|refine⟨⟨?_, ?_, ?_, ?_⟩⟩
   ·exact Nat.le_trans hnn cX
   ·exact fun y hy h=>Eq.trans cE (hkp y hy h)
   ·exact fun _=>⟨_,rfl, .inr ⟨b,d,rfl,Nat.lt_of_lt_of_le hbn cX,bu⟩,hap⟩
   ·intro h;rw[<-hok] at h;cases h
end Go.Proofs.YtjopoheligmmoaaGreatDoor
namespace Go.cw
open Go.RowKit
theorem Rt.wx {fr:Fr} {H:Hp} {nx:Nat} (t b len:Nat) {e:TypeId} {sz:Nat} {d:AV} {es:List AV} (h:cq fr t= .sl b len) (hb:bt H b=some (.row e sz d es)) (hl:es.length=len):Rt fr H nx ((t, .im sz .any es)::fr) ((b,none)::H) nx:=by
 have hw:=Wk.TX (r:= .sl b len) (H:=H) (nx:=nx) [(b,some (.row e sz d es))] 1 (fun x q hq=>by
  by_cases hx:x=b
  ·subst hx;rw[ca] at hq;rw[hb];exact hq
  ·rw[cN hx] at hq;cases hq)
 rw[DI (ca _ _ _) hl,qS,mO,wi] at hw
 exact Rt.slot t h hw
theorem Rt.V9 {fr:Fr} {H:Hp} {nx:Nat} (t x len lo n:Nat) {e:TypeId} {sz:Nat} {d:AV} {l es:List AV} (h:cq fr t= .sv x len lo n) (h3:bt H x=some (.row e sz d l)) (hl:l.length=len) (hn:lo+n<=len) (he:(l.drop lo).take n=es) (hxt:e∉XT:=by decide):
 Rt fr H nx ((t, .im sz .any es)::(t, .sl nx n)::fr) ((nx,none)::(nx,some (.row e sz .any es))::(x,none)::H) (nx+1):=by
 subst he
 exact(Rt.part t h h3 hl hn hxt).trans (Rt.wx t nx n (by simp[cq]) (ca _ _ _) (by simp;omega))
end Go.cw
namespace Go.Proofs.YtjopoheligmmoaaGreatDoor
open Go Go.cw Go.Proofs
set_option linter.unusedSimpArgs false
set_option linter.unusedVariables false
set_option maxRecDepth 8000
theorem mY (l m:List Int) (hl:l.length * 8<=140737488351232) (hm:m.length * 8<=140737488351232):Pure Tryz.prog 44 [fE l,fE m] (fun r=>r=bl (decide (l=m))):=by
 refine aD YZ rfl ?_
 unfold fE
 repeat' (first|refine aQ ?_|exact aC|with_reducible refine aB ?_ ?_|(apply aA;(·exact cL))|refine aH ?_|((with_reducible refine aE ?_ ?_)<;>intro hc<;>try(exfalso;omega)))
 ·refine eD (Eq.symm ?_)
  exact decide_eq_false fun e=>hc (by rw[e])
 ·have hlm:l.length=m.length:=by omega
  refine aF (fun i:Nat=>[(0,fE l),(1,fE m),(5,i64 i)])
   (fun i H n=>i<=l.length/\∀j,j<i->l.getD j 0=m.getD j 0) (fun i=>l.length - i) 0 cC ⟨Nat.zero_le _,fun _ h=>by omega⟩ ?_
  unfold fE
  rintro i H n ⟨hi,hall⟩
  by_cases hil:i<l.length
  ·have e1:=la (l:=l) hil
   have e2:=la (l:=m) (i:=i) (by omega)
   repeat' (first|refine aQ ?_|exact aC|with_reducible refine aB ?_ ?_|(apply aA;(·(first|exact e1 _|exact e2 _|exact cL)))|refine aH ?_|((with_reducible refine aE ?_ ?_)<;>intro hc<;>try(exfalso;omega)))
   ·refine eD (Eq.symm ?_)
    exact decide_eq_false fun e=>hc (by rw[e])
   ·refine⟨i+1,by omega,cC,by omega,fun j hj=> ?_⟩
    by_cases hji:j=i
    ·subst hji;exact hc
    ·exact hall j (by omega)
  ·have:i=l.length:=by omega
   subst this
   repeat' (first|refine aQ ?_|exact aC|with_reducible refine aB ?_ ?_|(apply aA;(·exact cL))|refine aH ?_|((with_reducible refine aE ?_ ?_)<;>intro hc<;>try(exfalso;omega)))
   refine eD (Eq.symm ?_)
   refine decide_eq_true (List.ext_getElem hlm fun j h1 h2=> ?_)
   have:=hall j h1
   simpa[List.getD,h1,h2] using this
set_option maxRecDepth 8000 in
set_option maxHeartbeats 8000000 in
theorem EK (g:cG) (hg:g.Wf) (hw:Whole g):cU Tryz.prog 78 [g.av] [] 0 (fun r H n=>(∃a,r= .dI [.sc (.slice none 0 0),i64 a]/\eK g=([],a))\/∃b d L,r= .dI [.sl b L.length,i64 (-1)]/\eK g=(L,-1)/\bt H b=some (.row 31 1 d (L.map fE))):=by
 have hl:=hg.len
 have hl0:=hw.1
 have hl1:=hw.2.1
 have hrep:∀d,(List.replicate (((List.map Node.av g.nodes).length:Nat):Int).toNat (gO false [Value.bool false])).getD (Int.toNat 0) d=bl false:=fun d=>by
  rw[Int.toNat_natCast,show Int.toNat 0=0 from rfl,List.length_map,List.getD,List.getElem?_replicate,if_pos (by omega)];rfl
 refine aJ aAj rfl ?_
 repeat' (first|refine aQ ?_|exact eh|with_reducible refine aB ?_ ?_|((with_reducible refine Ask.mk ?_);first|exact dJ|exact cj|(intro h;simp_all[cG.cells]<;>fail)|(simp_all[cG.cells]<;>fail))|(apply aA;(·(first|exact hrep _|exact cL)))|refine aH ?_|((with_reducible refine aE ?_ ?_)<;>intro hc<;>try(exfalso;omega)))
 simp only[List.length_map,Int.toNat_natCast]
 have hs11:((sS g,0).1:HS).found.map bl=(List.replicate g.nodes.length (bl false)).set 0 (bl true):=by simp[sS,List.map_set]
 refine af (fun s:HS×Nat=>[(1, .pt 0 1 0 0),(4, .sl 6 g.nodes.length),(5, .sl 11 g.nodes.length),(6, .sl 16 s.1.todo.length),(7,i64 s.2)])
  (fun s H n=>19<=n/\(∃d,bt H 0=some (.row 60 4 d [g.av]))/\(∃d,bt H 6=some (.row 31 1 d (s.1.cB.map fE)))/\(∃d,bt H 11=some (.row 4 1 d (s.1.found.map bl)))/\(∃d,bt H 16=some (.row 3 1 d (s.1.todo.map i64)))/\HI g s.1 s.2/\s.2<=g.nodes.length/\(∀i,(s.1.cB.getD i []).length<=s.2)/\fq g (g.nodes.length+1 - s.2) s.1 s.2=eK g)
  (fun s=>g.nodes.length+1 - s.2) (sS g,0) cC ⟨_,_,Wk.UZ (b:=6) (e:=31) (sz:=1) (es:=List.replicate g.nodes.length (.sc (.slice none 0 0))) (d:= .sc (.slice none 0 0)) .any bu (es2:=(sS g).cB.map fE) (by simp[sS]) (fun c c2 _ _=> ?_),cX,⟨_,bu⟩,⟨_,bu⟩,⟨_,by rw[hs11];exact bu⟩,⟨_,bu⟩,HI.start hw,Nat.zero_le _, ?_,rfl⟩ ?_
 ·simp only[sS,List.map_replicate]
  exact dW.rep (db.jE c c2 1 .any) _
 ·intro i
  simp only[sS,List.getD,List.getElem?_replicate];split<;>exact Nat.zero_le _
 rintro⟨s,k⟩ H n ⟨hn,⟨d0,r0⟩,⟨d6,r6⟩,⟨d11,r11⟩,⟨d16,r16⟩,hI,hkl,hlen,hrun⟩
 dsimp only at r6 r11 r16 hI hkl hlen hrun ⊢
 have hct:=hI.count
 by_cases hk:k<s.todo.length
 ·obtain⟨x0,x1,x2⟩:=hI.inr _ (cO (0:Int) hk)
  have hll:=hI.lg
  have hcnt:=hI.count
  have hlm:(s.cB.map fE).length=g.nodes.length:=by simp[hll]
  have htm:(s.todo.map i64).length=s.todo.length:=by simp
  have e1:=fun d=>zx hk d
  have e2:=fun d=>kF (l:=s.cB) (i:=s.todo.getD k 0) (by rw[hll];exact x1) d
  have hlk:=hlen (s.todo.getD k 0).toNat
  rw[show g.nodes.length+1 - k=(g.nodes.length - k)+1 by omega,qQ hk] at hrun
  have hnx:=fun now s'=>hI.next hw hk (now:=now) (s':=s')
  unfold HS.l at hrun hnx
  generalize hx:s.todo.getD k 0=x at *
  have hf:=vt (g.nd x.toNat)
  unfold fE at hf
  generalize hl0:s.cB.getD x.toNat []=l at *
  have hfl:=QC (g.nd x.toNat)
  have hil:(l.map i64).length=l.length:=by simp
  by_cases h5:(g.nd x.toNat).kind=5
  ·have hnow:dM (g.nd x.toNat) l=some (l++[(g.nd x.toNat).cI]):=by unfold dM;rw[if_pos h5]
   have hnl:(l++[(g.nd x.toNat).cI]).length<=k+1:=by rw[List.length_append];exact Nat.succ_le_succ hlk
   rw[hnow] at hrun
   dsimp only at hrun
   repeat' (first|refine aQ ?_|exact eh|with_reducible refine aB ?_ ?_|((with_reducible refine Ask.mk ?_);first|exact dJ|(exact hlm)|(exact htm)|(exact hil)|(refine mC (m:=1) rfl ?_;simp only[List.length_map];omega)|exact cj|(intro h;simp_all[cG.cells,Node.cells]<;>fail)|(simp_all[cG.cells,Node.cells]<;>fail))|(apply aA;(·(first|exact gm x1 _|exact e1 _|exact e2 _|exact cL)))|refine aK (hf) ?_|(simp only[h5])|refine aH ?_|((with_reducible refine aE ?_ ?_)<;>intro hc<;>try(exfalso;omega)))
   obtain⟨nw,hnw⟩:∃nw,nw=l++[(g.nd x.toNat).cI]:=⟨_,rfl⟩
   rw[<-hnw] at hnow hnl hrun
   refine aR (fun q:HS×Nat=>[(1, .pt 0 1 0 0),(4, .sl 6 g.nodes.length),(5, .sl 11 g.nodes.length),(6, .sl 16 q.1.todo.length),(7,i64 k),(9, .im 1 .any ((nw).map i64)),(10, .im 1 .any ((g.nd x.toNat).gh.map i64)),(11,i64 q.2)])
    (fun q H2 n2=>q.2<=(g.nd x.toNat).gh.length/\n+15<=n2/\(∃d,bt H2 0=some (.row 60 4 d [g.av]))/\(∃d,bt H2 6=some (.row 31 1 d (q.1.cB.map fE)))/\(∃d,bt H2 11=some (.row 4 1 d (q.1.found.map bl)))/\(∃d,bt H2 16=some (.row 3 1 d (q.1.todo.map i64)))/\q.1.cB.length=g.nodes.length/\q.1.found.length=g.nodes.length/\q.1.todo.length+q.1.found.count false=g.nodes.length/\(∀i,(q.1.cB.getD i []).length<=k+1)/\dQ (nw) ((g.nd x.toNat).gh.drop q.2) q.1=dQ (nw) (g.nd x.toNat).gh s)
    (fun q=>(g.nd x.toNat).gh.length - q.2) (s,0) ⟨_,_,_,Rt.wx 9 (n+14) (0+(l.map i64).length+1) (e:=3) (sz:=1) (es:=nw.map i64) rfl (by rw[hnw,<-gM];exact bu) (by rw[hnw];simp),cC,Nat.zero_le _,cX,⟨_,bu⟩,⟨_,bu⟩,⟨_,bu⟩,⟨_,bu⟩,hI.lg,hI.oi,hI.count,fun i=>Nat.le_succ_of_le (hlen i),rfl⟩ ?_
   clear r0 r6 r11 r16
   rintro⟨⟨lks,fnds,tds⟩,j⟩ H2 n2 ⟨hj,hn2,⟨d02,r0⟩,⟨d62,r6⟩,⟨d112,r11⟩,⟨d162,r16⟩,hll2,hfl2,hct2,hlen2,hto⟩
   dsimp only at hj hn2 r6 r11 r16 hll2 hfl2 hct2 hlen2 hto ⊢
   by_cases hjl:j<(g.nd x.toNat).gh.length
   ·have hm:=cO (0:Int) hjl
    obtain⟨k0,k1⟩:=(hw.2.2 x.toNat x1).2.2 _ hm
    have e3:=fun d=>jP (l:=(g.nd x.toNat).gh) hjl d
    rw[gC _ _ _ hjl] at hto
    generalize hy:(g.nd x.toNat).gh.getD j 0=y at *
    have hl2m:(lks.map fE).length=g.nodes.length:=by simp[hll2]
    have hf2m:(fnds.map bl).length=g.nodes.length:=by simp[hfl2]
    have e4:=fun d=>kF (l:=lks) (i:=y) (by rw[hll2];exact k1) d
    have e5:=fun d=>qA (l:=fnds) (k:=y) d (by rw[hfl2];exact k1)
    have hsm:=mY (lks.getD y.toNat []) (nw) (by have:=hlen2 y.toNat;omega) (by omega)
    unfold fE at hsm
    cases hfd:HS.f ⟨lks,fnds,tds⟩ y with
    |true=>
     rw[if_neg (by rw[hfd];decide)] at hto
     rw[show lN fnds y=true from hfd] at e5
     by_cases hq:lks.getD y.toNat []=(nw)
     ·have hq2:HS.l ⟨lks,fnds,tds⟩ y=(nw):=hq
      rw[if_pos hq2] at hto
      rw[decide_eq_true hq] at hsm
      repeat' (first|refine aQ ?_|exact eh|with_reducible refine aB ?_ ?_|((with_reducible refine Ask.mk ?_);first|exact dJ|(exact hl2m)|(exact hf2m)|exact cj)|(apply aA;(·(first|exact e3 _|exact e4 _|exact e5 _|exact cL)))|refine aK (hsm) ?_|refine aH ?_|((with_reducible refine aE ?_ ?_)<;>intro hc<;>try(exfalso;omega)))
      exact⟨(⟨lks,fnds,tds⟩,j+1),by dsimp only;omega,_,_,_,Rt.refl _ _ _,cC,by dsimp only;omega,cX,⟨_,bu⟩,⟨_,bu⟩,⟨_,bu⟩,⟨_,bu⟩,hll2,hfl2,hct2,hlen2,hto⟩
     ·have hq2:¬HS.l ⟨lks,fnds,tds⟩ y=(nw):=hq
      rw[if_neg hq2] at hto
      rw[decide_eq_false hq] at hsm
      repeat' (first|refine aQ ?_|exact eh|with_reducible refine aB ?_ ?_|((with_reducible refine Ask.mk ?_);first|exact dJ|(exact hl2m)|(exact hf2m)|exact cj)|(apply aA;(·(first|exact e3 _|exact e4 _|exact e5 _|exact cL)))|refine aK (hsm) ?_|refine aH ?_|((with_reducible refine aE ?_ ?_)<;>intro hc<;>try(exfalso;omega)))
      exact⟨.inl ⟨y,rfl,by rw[<-hrun,<-hto]⟩⟩
    |false=>
     rw[if_pos hfd] at hto
     rw[show lN fnds y=false from hfd] at e5
     have hcts:=count_set (l:=fnds) (i:=y.toNat) (by rw[hfl2];exact k1) hfd
     repeat' (first|refine aQ ?_|exact eh|with_reducible refine aB ?_ ?_|((with_reducible refine Ask.mk ?_);first|exact dJ|(exact hl2m)|(exact hf2m)|exact cj)|(apply aA;(·(first|exact e3 _|exact e4 _|exact e5 _|exact cL)))|refine aH ?_|((with_reducible refine aE ?_ ?_)<;>intro hc<;>try(exfalso;omega)))
     refine⟨(⟨lks.set y.toNat (nw),fnds.set y.toNat true,tds++[y]⟩,j+1),by dsimp only;omega,_,_,_,Rt.refl _ _ _,cC,by dsimp only;omega,cX,⟨_,bu⟩,⟨_,by dsimp only;rw[<-kX];exact bu⟩,⟨_,by dsimp only;rw[<-nI];exact bu⟩,⟨_,by dsimp only;rw[<-gM];exact bu⟩,by simp[hll2],by simp[hfl2], ?_, ?_,hto⟩
     ·simp only[List.length_append,List.length_cons,List.length_nil];omega
     ·intro i
      rw[eS]
      split
      ·exact hnl
      ·exact hlen2 i
   ·have:j=(g.nd x.toNat).gh.length:=by omega
    subst this
    rw[List.drop_eq_nil_of_le (Nat.le_refl _),dQ] at hto
    have hnx2:=hnx _ _ hnow hto.symm
    repeat' (first|refine aQ ?_|exact aC|with_reducible refine aB ?_ ?_|(apply aA;(·exact cL))|refine aH ?_|((with_reducible refine aE ?_ ?_)<;>intro hc<;>try(exfalso;omega)))
    refine⟨(⟨lks,fnds,tds⟩,k+1),by dsimp only;omega,cC,⟨_,_,Wk.refl _ _ _,cX,⟨_,bu⟩,⟨_,bu⟩,⟨_,bu⟩,⟨_,bu⟩,hnx2,by dsimp only;omega,hlen2, ?_⟩⟩
    rw[<-hrun,<-hto]
    dsimp only
    congr 1
    omega
  ·by_cases h6:(g.nd x.toNat).kind=6
   ·rcases List.eq_nil_or_concat l with rfl|⟨a,y,rfl⟩
    ·have hnow:dM (g.nd x.toNat) []=none:=by unfold dM;rw[if_neg h5,if_pos h6,if_neg (fun h=>h.1 rfl)]
     rw[hnow] at hrun
     dsimp only at hrun
     repeat' (first|refine aQ ?_|exact eh|with_reducible refine aB ?_ ?_|((with_reducible refine Ask.mk ?_);first|exact dJ|(exact hlm)|(exact htm)|(exact hil)|(refine mC (m:=1) rfl ?_;simp only[List.length_map];omega)|exact cj|(intro h;simp_all[cG.cells,Node.cells]<;>fail)|(simp_all[cG.cells,Node.cells]<;>fail))|(apply aA;(·(first|exact gm x1 _|exact e1 _|exact e2 _|exact cL)))|refine aK (hf) ?_|(simp only[h6])|refine aH ?_|((with_reducible refine aE ?_ ?_)<;>intro hc<;>try(exfalso;omega)))
     exact⟨.inl ⟨x,rfl,hrun.symm⟩⟩
    ·rw[List.concat_eq_append] at *
     have hla:(a++[y]).length=a.length+1:=by simp
     have hml:((a++[y]).map i64).length=a.length+1:=by simp
     have e5:∀d,((a++[y]).map i64).getD (((a.length+1:Nat):Int) - 1).toNat d=i64 y:=fun d=>by
      rw[show(((a.length+1:Nat):Int) - 1).toNat=a.length by omega,List.map_append]
      simp[List.getD]
     have hm0:0+(List.map i64 (a++[y])).length=a.length+1:=by simp
     by_cases hy6:y=(g.nd x.toNat).cI
     ·subst hy6
      have hnow:dM (g.nd x.toNat) (a++[(g.nd x.toNat).cI])=some a:=by unfold dM;rw[if_neg h5,if_pos h6,if_pos ⟨by simp,by simp⟩,List.dropLast_concat]
      have hnl:a.length<=k+1:=by omega
      have htk:(((a++[(g.nd x.toNat).cI]).map i64).drop 0).take a.length=a.map i64:=by simp
      rw[hnow] at hrun
      dsimp only at hrun
      repeat' (first|refine aQ ?_|exact eh|with_reducible refine aB ?_ ?_|((with_reducible refine Ask.mk ?_);first|exact dJ|(exact hlm)|(exact htm)|(exact hil)|(refine mC (m:=1) rfl ?_;simp only[List.length_map];omega)|exact cj|(intro h;simp_all[cG.cells,Node.cells]<;>fail)|(simp_all[cG.cells,Node.cells]<;>fail))|(apply aA;(·(first|exact gm x1 _|exact e1 _|exact e2 _|exact e5 _|exact cL)))|refine aK (hf) ?_|(simp only[h6])|(simp only[hm0])|((with_reducible apply aT);(·exact OL (es:=List.map i64 (a++[(g.nd x.toNat).cI])) bu hml G5 G5 VP))|refine aH ?_|((with_reducible refine aE ?_ ?_)<;>intro hc<;>try(exfalso;omega)))
      ·exact absurd hc (by simp;omega)
      refine aR (fun q:HS×Nat=>[(1, .pt 0 1 0 0),(4, .sl 6 g.nodes.length),(5, .sl 11 g.nodes.length),(6, .sl 16 q.1.todo.length),(7,i64 k),(9, .im 1 .any ((a).map i64)),(10, .im 1 .any ((g.nd x.toNat).gh.map i64)),(11,i64 q.2)])
       (fun q H2 n2=>q.2<=(g.nd x.toNat).gh.length/\n+15<=n2/\(∃d,bt H2 0=some (.row 60 4 d [g.av]))/\(∃d,bt H2 6=some (.row 31 1 d (q.1.cB.map fE)))/\(∃d,bt H2 11=some (.row 4 1 d (q.1.found.map bl)))/\(∃d,bt H2 16=some (.row 3 1 d (q.1.todo.map i64)))/\q.1.cB.length=g.nodes.length/\q.1.found.length=g.nodes.length/\q.1.todo.length+q.1.found.count false=g.nodes.length/\(∀i,(q.1.cB.getD i []).length<=k+1)/\dQ (a) ((g.nd x.toNat).gh.drop q.2) q.1=dQ (a) (g.nd x.toNat).gh s)
       (fun q=>(g.nd x.toNat).gh.length - q.2) (s,0) ⟨_,_,_,Rt.V9 9 (n+14) (a.length+1) 0 (a.length - 0) (e:=3) (sz:=1) (l:=(a++[(g.nd x.toNat).cI]).map i64) rfl bu hml (by omega) (by first|(rw[Nat.sub_zero];exact htk)|rw[Nat.sub_zero]),cC,Nat.zero_le _,cX,⟨_,bu⟩,⟨_,bu⟩,⟨_,bu⟩,⟨_,bu⟩,hI.lg,hI.oi,hI.count,fun i=>Nat.le_succ_of_le (hlen i),rfl⟩ ?_
      clear r0 r6 r11 r16
      rintro⟨⟨lks,fnds,tds⟩,j⟩ H2 n2 ⟨hj,hn2,⟨d02,r0⟩,⟨d62,r6⟩,⟨d112,r11⟩,⟨d162,r16⟩,hll2,hfl2,hct2,hlen2,hto⟩
      dsimp only at hj hn2 r6 r11 r16 hll2 hfl2 hct2 hlen2 hto ⊢
      by_cases hjl:j<(g.nd x.toNat).gh.length
      ·have hm:=cO (0:Int) hjl
       obtain⟨k0,k1⟩:=(hw.2.2 x.toNat x1).2.2 _ hm
       have e3:=fun d=>jP (l:=(g.nd x.toNat).gh) hjl d
       rw[gC _ _ _ hjl] at hto
       generalize hy:(g.nd x.toNat).gh.getD j 0=y at *
       have hl2m:(lks.map fE).length=g.nodes.length:=by simp[hll2]
       have hf2m:(fnds.map bl).length=g.nodes.length:=by simp[hfl2]
       have e4:=fun d=>kF (l:=lks) (i:=y) (by rw[hll2];exact k1) d
       have e5:=fun d=>qA (l:=fnds) (k:=y) d (by rw[hfl2];exact k1)
       have hsm:=mY (lks.getD y.toNat []) (a) (by have:=hlen2 y.toNat;omega) (by omega)
       unfold fE at hsm
       cases hfd:HS.f ⟨lks,fnds,tds⟩ y with
       |true=>
        rw[if_neg (by rw[hfd];decide)] at hto
        rw[show lN fnds y=true from hfd] at e5
        by_cases hq:lks.getD y.toNat []=(a)
        ·have hq2:HS.l ⟨lks,fnds,tds⟩ y=(a):=hq
         rw[if_pos hq2] at hto
         rw[decide_eq_true hq] at hsm
         repeat' (first|refine aQ ?_|exact eh|with_reducible refine aB ?_ ?_|((with_reducible refine Ask.mk ?_);first|exact dJ|(exact hl2m)|(exact hf2m)|exact cj)|(apply aA;(·(first|exact e3 _|exact e4 _|exact e5 _|exact cL)))|refine aK (hsm) ?_|refine aH ?_|((with_reducible refine aE ?_ ?_)<;>intro hc<;>try(exfalso;omega)))
         exact⟨(⟨lks,fnds,tds⟩,j+1),by dsimp only;omega,_,_,_,Rt.refl _ _ _,cC,by dsimp only;omega,cX,⟨_,bu⟩,⟨_,bu⟩,⟨_,bu⟩,⟨_,bu⟩,hll2,hfl2,hct2,hlen2,hto⟩
        ·have hq2:¬HS.l ⟨lks,fnds,tds⟩ y=(a):=hq
         rw[if_neg hq2] at hto
         rw[decide_eq_false hq] at hsm
         repeat' (first|refine aQ ?_|exact eh|with_reducible refine aB ?_ ?_|((with_reducible refine Ask.mk ?_);first|exact dJ|(exact hl2m)|(exact hf2m)|exact cj)|(apply aA;(·(first|exact e3 _|exact e4 _|exact e5 _|exact cL)))|refine aK (hsm) ?_|refine aH ?_|((with_reducible refine aE ?_ ?_)<;>intro hc<;>try(exfalso;omega)))
         exact⟨.inl ⟨y,rfl,by rw[<-hrun,<-hto]⟩⟩
       |false=>
        rw[if_pos hfd] at hto
        rw[show lN fnds y=false from hfd] at e5
        have hcts:=count_set (l:=fnds) (i:=y.toNat) (by rw[hfl2];exact k1) hfd
        repeat' (first|refine aQ ?_|exact eh|with_reducible refine aB ?_ ?_|((with_reducible refine Ask.mk ?_);first|exact dJ|(exact hl2m)|(exact hf2m)|exact cj)|(apply aA;(·(first|exact e3 _|exact e4 _|exact e5 _|exact cL)))|refine aH ?_|((with_reducible refine aE ?_ ?_)<;>intro hc<;>try(exfalso;omega)))
        refine⟨(⟨lks.set y.toNat (a),fnds.set y.toNat true,tds++[y]⟩,j+1),by dsimp only;omega,_,_,_,Rt.refl _ _ _,cC,by dsimp only;omega,cX,⟨_,bu⟩,⟨_,by dsimp only;rw[<-kX];exact bu⟩,⟨_,by dsimp only;rw[<-nI];exact bu⟩,⟨_,by dsimp only;rw[<-gM];exact bu⟩,by simp[hll2],by simp[hfl2], ?_, ?_,hto⟩
        ·simp only[List.length_append,List.length_cons,List.length_nil];omega
        ·intro i
         rw[eS]
         split
         ·exact hnl
         ·exact hlen2 i
      ·have:j=(g.nd x.toNat).gh.length:=by omega
       subst this
       rw[List.drop_eq_nil_of_le (Nat.le_refl _),dQ] at hto
       have hnx2:=hnx _ _ hnow hto.symm
       repeat' (first|refine aQ ?_|exact aC|with_reducible refine aB ?_ ?_|(apply aA;(·exact cL))|refine aH ?_|((with_reducible refine aE ?_ ?_)<;>intro hc<;>try(exfalso;omega)))
       refine⟨(⟨lks,fnds,tds⟩,k+1),by dsimp only;omega,cC,⟨_,_,Wk.refl _ _ _,cX,⟨_,bu⟩,⟨_,bu⟩,⟨_,bu⟩,⟨_,bu⟩,hnx2,by dsimp only;omega,hlen2, ?_⟩⟩
       rw[<-hrun,<-hto]
       dsimp only
       congr 1
       omega
     ·have hnow:dM (g.nd x.toNat) (a++[y])=none:=by unfold dM;rw[if_neg h5,if_pos h6,if_neg (fun h=>hy6 (by simpa using h.2))]
      have hy7:¬y=(g.nodes.getD x.toNat default).cI:=hy6
      rw[hnow] at hrun
      dsimp only at hrun
      repeat' (first|refine aQ ?_|exact eh|with_reducible refine aB ?_ ?_|((with_reducible refine Ask.mk ?_);first|exact dJ|(exact hlm)|(exact htm)|(exact hil)|(refine mC (m:=1) rfl ?_;simp only[List.length_map];omega)|exact cj|(intro h;simp_all[cG.cells,Node.cells]<;>fail)|(simp_all[cG.cells,Node.cells]<;>fail))|(apply aA;(·(first|exact gm x1 _|exact e1 _|exact e2 _|exact e5 _|exact cL)))|refine aK (hf) ?_|(simp only[h6])|(simp only[hm0])|refine aH ?_|((with_reducible refine aE ?_ ?_)<;>intro hc<;>try(exfalso;omega)))
      all_goals exact⟨.inl ⟨x,rfl,hrun.symm⟩⟩
   ·by_cases h9:(g.nd x.toNat).kind=9/\l≠[]
    ·have hnow:dM (g.nd x.toNat) l=none:=by unfold dM;rw[if_neg h5,if_neg h6,if_pos h9.1,if_neg h9.2]
     have hlp:0<l.length:=List.length_pos_iff.2 h9.2
     have h91:=h9.1
     rw[hnow] at hrun
     dsimp only at hrun
     repeat' (first|refine aQ ?_|exact eh|with_reducible refine aB ?_ ?_|((with_reducible refine Ask.mk ?_);first|exact dJ|(exact hlm)|(exact htm)|(exact hil)|(refine mC (m:=1) rfl ?_;simp only[List.length_map];omega)|exact cj|(intro h;simp_all[cG.cells,Node.cells]<;>fail)|(simp_all[cG.cells,Node.cells]<;>fail))|(apply aA;(·(first|exact gm x1 _|exact e1 _|exact e2 _|exact cL)))|refine aK (hf) ?_|(simp only[h91])|refine aH ?_|((with_reducible refine aE ?_ ?_)<;>intro hc<;>try(exfalso;omega)))
     exact⟨.inl ⟨x,rfl,hrun.symm⟩⟩
    ·by_cases h91:(g.nd x.toNat).kind=9
     ·have hl0:l=[]:=Classical.byContradiction fun h=>h9 ⟨h91,h⟩
      subst hl0
      have hnow:dM (g.nd x.toNat) []=some []:=by unfold dM;rw[if_neg h5,if_neg h6,if_pos h91,if_pos rfl]
      have hnl:([]:List Int).length<=k+1:=Nat.zero_le _
      rw[hnow] at hrun
      dsimp only at hrun
      repeat' (first|refine aQ ?_|exact eh|with_reducible refine aB ?_ ?_|((with_reducible refine Ask.mk ?_);first|exact dJ|(exact hlm)|(exact htm)|(exact hil)|(refine mC (m:=1) rfl ?_;simp only[List.length_map];omega)|exact cj|(intro h;simp_all[cG.cells,Node.cells]<;>fail)|(simp_all[cG.cells,Node.cells]<;>fail))|(apply aA;(·(first|exact gm x1 _|exact e1 _|exact e2 _|exact cL)))|refine aK (hf) ?_|(simp only[h91])|refine aH ?_|((with_reducible refine aE ?_ ?_)<;>intro hc<;>try(exfalso;omega)))
      refine aR (fun q:HS×Nat=>[(1, .pt 0 1 0 0),(4, .sl 6 g.nodes.length),(5, .sl 11 g.nodes.length),(6, .sl 16 q.1.todo.length),(7,i64 k),(9, .im 1 .any (([]).map i64)),(10, .im 1 .any ((g.nd x.toNat).gh.map i64)),(11,i64 q.2)])
       (fun q H2 n2=>q.2<=(g.nd x.toNat).gh.length/\n+15<=n2/\(∃d,bt H2 0=some (.row 60 4 d [g.av]))/\(∃d,bt H2 6=some (.row 31 1 d (q.1.cB.map fE)))/\(∃d,bt H2 11=some (.row 4 1 d (q.1.found.map bl)))/\(∃d,bt H2 16=some (.row 3 1 d (q.1.todo.map i64)))/\q.1.cB.length=g.nodes.length/\q.1.found.length=g.nodes.length/\q.1.todo.length+q.1.found.count false=g.nodes.length/\(∀i,(q.1.cB.getD i []).length<=k+1)/\dQ ([]) ((g.nd x.toNat).gh.drop q.2) q.1=dQ ([]) (g.nd x.toNat).gh s)
       (fun q=>(g.nd x.toNat).gh.length - q.2) (s,0) ⟨_,_,_,Rt.wx 9 (n+14) (0) (e:=3) (sz:=1) (es:=([]:List Int).map i64) rfl bu (by simp),cC,Nat.zero_le _,cX,⟨_,bu⟩,⟨_,bu⟩,⟨_,bu⟩,⟨_,bu⟩,hI.lg,hI.oi,hI.count,fun i=>Nat.le_succ_of_le (hlen i),rfl⟩ ?_
      clear r0 r6 r11 r16
      rintro⟨⟨lks,fnds,tds⟩,j⟩ H2 n2 ⟨hj,hn2,⟨d02,r0⟩,⟨d62,r6⟩,⟨d112,r11⟩,⟨d162,r16⟩,hll2,hfl2,hct2,hlen2,hto⟩
      dsimp only at hj hn2 r6 r11 r16 hll2 hfl2 hct2 hlen2 hto ⊢
      by_cases hjl:j<(g.nd x.toNat).gh.length
      ·have hm:=cO (0:Int) hjl
       obtain⟨k0,k1⟩:=(hw.2.2 x.toNat x1).2.2 _ hm
       have e3:=fun d=>jP (l:=(g.nd x.toNat).gh) hjl d
       rw[gC _ _ _ hjl] at hto
       generalize hy:(g.nd x.toNat).gh.getD j 0=y at *
       have hl2m:(lks.map fE).length=g.nodes.length:=by simp[hll2]
       have hf2m:(fnds.map bl).length=g.nodes.length:=by simp[hfl2]
       have e4:=fun d=>kF (l:=lks) (i:=y) (by rw[hll2];exact k1) d
       have e5:=fun d=>qA (l:=fnds) (k:=y) d (by rw[hfl2];exact k1)
       have hsm:=mY (lks.getD y.toNat []) ([]) (by have:=hlen2 y.toNat;omega) (by omega)
       unfold fE at hsm
       cases hfd:HS.f ⟨lks,fnds,tds⟩ y with
       |true=>
        rw[if_neg (by rw[hfd];decide)] at hto
        rw[show lN fnds y=true from hfd] at e5
        by_cases hq:lks.getD y.toNat []=([])
        ·have hq2:HS.l ⟨lks,fnds,tds⟩ y=([]):=hq
         rw[if_pos hq2] at hto
         rw[decide_eq_true hq] at hsm
         repeat' (first|refine aQ ?_|exact eh|with_reducible refine aB ?_ ?_|((with_reducible refine Ask.mk ?_);first|exact dJ|(exact hl2m)|(exact hf2m)|exact cj)|(apply aA;(·(first|exact e3 _|exact e4 _|exact e5 _|exact cL)))|refine aK (hsm) ?_|refine aH ?_|((with_reducible refine aE ?_ ?_)<;>intro hc<;>try(exfalso;omega)))
         exact⟨(⟨lks,fnds,tds⟩,j+1),by dsimp only;omega,_,_,_,Rt.refl _ _ _,cC,by dsimp only;omega,cX,⟨_,bu⟩,⟨_,bu⟩,⟨_,bu⟩,⟨_,bu⟩,hll2,hfl2,hct2,hlen2,hto⟩
        ·have hq2:¬HS.l ⟨lks,fnds,tds⟩ y=([]):=hq
         rw[if_neg hq2] at hto
         rw[decide_eq_false hq] at hsm
         repeat' (first|refine aQ ?_|exact eh|with_reducible refine aB ?_ ?_|((with_reducible refine Ask.mk ?_);first|exact dJ|(exact hl2m)|(exact hf2m)|exact cj)|(apply aA;(·(first|exact e3 _|exact e4 _|exact e5 _|exact cL)))|refine aK (hsm) ?_|refine aH ?_|((with_reducible refine aE ?_ ?_)<;>intro hc<;>try(exfalso;omega)))
         exact⟨.inl ⟨y,rfl,by rw[<-hrun,<-hto]⟩⟩
       |false=>
        rw[if_pos hfd] at hto
        rw[show lN fnds y=false from hfd] at e5
        have hcts:=count_set (l:=fnds) (i:=y.toNat) (by rw[hfl2];exact k1) hfd
        repeat' (first|refine aQ ?_|exact eh|with_reducible refine aB ?_ ?_|((with_reducible refine Ask.mk ?_);first|exact dJ|(exact hl2m)|(exact hf2m)|exact cj)|(apply aA;(·(first|exact e3 _|exact e4 _|exact e5 _|exact cL)))|refine aH ?_|((with_reducible refine aE ?_ ?_)<;>intro hc<;>try(exfalso;omega)))
        refine⟨(⟨lks.set y.toNat ([]),fnds.set y.toNat true,tds++[y]⟩,j+1),by dsimp only;omega,_,_,_,Rt.refl _ _ _,cC,by dsimp only;omega,cX,⟨_,bu⟩,⟨_,by dsimp only;rw[<-kX];exact bu⟩,⟨_,by dsimp only;rw[<-nI];exact bu⟩,⟨_,by dsimp only;rw[<-gM];exact bu⟩,by simp[hll2],by simp[hfl2], ?_, ?_,hto⟩
        ·simp only[List.length_append,List.length_cons,List.length_nil];omega
        ·intro i
         rw[eS]
         split
         ·exact hnl
         ·exact hlen2 i
      ·have:j=(g.nd x.toNat).gh.length:=by omega
       subst this
       rw[List.drop_eq_nil_of_le (Nat.le_refl _),dQ] at hto
       have hnx2:=hnx _ _ hnow hto.symm
       repeat' (first|refine aQ ?_|exact aC|with_reducible refine aB ?_ ?_|(apply aA;(·exact cL))|refine aH ?_|((with_reducible refine aE ?_ ?_)<;>intro hc<;>try(exfalso;omega)))
       refine⟨(⟨lks,fnds,tds⟩,k+1),by dsimp only;omega,cC,⟨_,_,Wk.refl _ _ _,cX,⟨_,bu⟩,⟨_,bu⟩,⟨_,bu⟩,⟨_,bu⟩,hnx2,by dsimp only;omega,hlen2, ?_⟩⟩
       rw[<-hrun,<-hto]
       dsimp only
       congr 1
       omega
     ·have hnow:dM (g.nd x.toNat) l=some l:=by unfold dM;rw[if_neg h5,if_neg h6,if_neg h91]
      have hnl:l.length<=k+1:=by omega
      rw[hnow] at hrun
      dsimp only at hrun
      repeat' (first|refine aQ ?_|exact eh|with_reducible refine aB ?_ ?_|((with_reducible refine Ask.mk ?_);first|exact dJ|(exact hlm)|(exact htm)|(exact hil)|(refine mC (m:=1) rfl ?_;simp only[List.length_map];omega)|exact cj|(intro h;simp_all[cG.cells,Node.cells]<;>fail)|(simp_all[cG.cells,Node.cells]<;>fail))|(apply aA;(·(first|exact gm x1 _|exact e1 _|exact e2 _|exact cL)))|refine aK (hf) ?_|(simp only[h5])|(simp only[h6])|(simp only[h91])|refine aH ?_|((with_reducible refine aE ?_ ?_)<;>intro hc<;>try(exfalso;omega)))
      refine aR (fun q:HS×Nat=>[(1, .pt 0 1 0 0),(4, .sl 6 g.nodes.length),(5, .sl 11 g.nodes.length),(6, .sl 16 q.1.todo.length),(7,i64 k),(9, .im 1 .any ((l).map i64)),(10, .im 1 .any ((g.nd x.toNat).gh.map i64)),(11,i64 q.2)])
       (fun q H2 n2=>q.2<=(g.nd x.toNat).gh.length/\n+15<=n2/\(∃d,bt H2 0=some (.row 60 4 d [g.av]))/\(∃d,bt H2 6=some (.row 31 1 d (q.1.cB.map fE)))/\(∃d,bt H2 11=some (.row 4 1 d (q.1.found.map bl)))/\(∃d,bt H2 16=some (.row 3 1 d (q.1.todo.map i64)))/\q.1.cB.length=g.nodes.length/\q.1.found.length=g.nodes.length/\q.1.todo.length+q.1.found.count false=g.nodes.length/\(∀i,(q.1.cB.getD i []).length<=k+1)/\dQ (l) ((g.nd x.toNat).gh.drop q.2) q.1=dQ (l) (g.nd x.toNat).gh s)
       (fun q=>(g.nd x.toNat).gh.length - q.2) (s,0) ⟨_,_,_,Rt.wx 9 (n+14) (0+(l.map i64).length) (e:=3) (sz:=1) (es:=l.map i64) rfl bu (by simp),cC,Nat.zero_le _,cX,⟨_,bu⟩,⟨_,bu⟩,⟨_,bu⟩,⟨_,bu⟩,hI.lg,hI.oi,hI.count,fun i=>Nat.le_succ_of_le (hlen i),rfl⟩ ?_
      clear r0 r6 r11 r16
      rintro⟨⟨lks,fnds,tds⟩,j⟩ H2 n2 ⟨hj,hn2,⟨d02,r0⟩,⟨d62,r6⟩,⟨d112,r11⟩,⟨d162,r16⟩,hll2,hfl2,hct2,hlen2,hto⟩
      dsimp only at hj hn2 r6 r11 r16 hll2 hfl2 hct2 hlen2 hto ⊢
      by_cases hjl:j<(g.nd x.toNat).gh.length
      ·have hm:=cO (0:Int) hjl
       obtain⟨k0,k1⟩:=(hw.2.2 x.toNat x1).2.2 _ hm
       have e3:=fun d=>jP (l:=(g.nd x.toNat).gh) hjl d
       rw[gC _ _ _ hjl] at hto
       generalize hy:(g.nd x.toNat).gh.getD j 0=y at *
       have hl2m:(lks.map fE).length=g.nodes.length:=by simp[hll2]
       have hf2m:(fnds.map bl).length=g.nodes.length:=by simp[hfl2]
       have e4:=fun d=>kF (l:=lks) (i:=y) (by rw[hll2];exact k1) d
       have e5:=fun d=>qA (l:=fnds) (k:=y) d (by rw[hfl2];exact k1)
       have hsm:=mY (lks.getD y.toNat []) (l) (by have:=hlen2 y.toNat;omega) (by omega)
       unfold fE at hsm
       cases hfd:HS.f ⟨lks,fnds,tds⟩ y with
       |true=>
        rw[if_neg (by rw[hfd];decide)] at hto
        rw[show lN fnds y=true from hfd] at e5
        by_cases hq:lks.getD y.toNat []=(l)
        ·have hq2:HS.l ⟨lks,fnds,tds⟩ y=(l):=hq
         rw[if_pos hq2] at hto
         rw[decide_eq_true hq] at hsm
         repeat' (first|refine aQ ?_|exact eh|with_reducible refine aB ?_ ?_|((with_reducible refine Ask.mk ?_);first|exact dJ|(exact hl2m)|(exact hf2m)|exact cj)|(apply aA;(·(first|exact e3 _|exact e4 _|exact e5 _|exact cL)))|refine aK (hsm) ?_|refine aH ?_|((with_reducible refine aE ?_ ?_)<;>intro hc<;>try(exfalso;omega)))
         exact⟨(⟨lks,fnds,tds⟩,j+1),by dsimp only;omega,_,_,_,Rt.refl _ _ _,cC,by dsimp only;omega,cX,⟨_,bu⟩,⟨_,bu⟩,⟨_,bu⟩,⟨_,bu⟩,hll2,hfl2,hct2,hlen2,hto⟩
        ·have hq2:¬HS.l ⟨lks,fnds,tds⟩ y=(l):=hq
         rw[if_neg hq2] at hto
         rw[decide_eq_false hq] at hsm
         repeat' (first|refine aQ ?_|exact eh|with_reducible refine aB ?_ ?_|((with_reducible refine Ask.mk ?_);first|exact dJ|(exact hl2m)|(exact hf2m)|exact cj)|(apply aA;(·(first|exact e3 _|exact e4 _|exact e5 _|exact cL)))|refine aK (hsm) ?_|refine aH ?_|((with_reducible refine aE ?_ ?_)<;>intro hc<;>try(exfalso;omega)))
         exact⟨.inl ⟨y,rfl,by rw[<-hrun,<-hto]⟩⟩
       |false=>
        rw[if_pos hfd] at hto
        rw[show lN fnds y=false from hfd] at e5
        have hcts:=count_set (l:=fnds) (i:=y.toNat) (by rw[hfl2];exact k1) hfd
        repeat' (first|refine aQ ?_|exact eh|with_reducible refine aB ?_ ?_|((with_reducible refine Ask.mk ?_);first|exact dJ|(exact hl2m)|(exact hf2m)|exact cj)|(apply aA;(·(first|exact e3 _|exact e4 _|exact e5 _|exact cL)))|refine aH ?_|((with_reducible refine aE ?_ ?_)<;>intro hc<;>try(exfalso;omega)))
        refine⟨(⟨lks.set y.toNat (l),fnds.set y.toNat true,tds++[y]⟩,j+1),by dsimp only;omega,_,_,_,Rt.refl _ _ _,cC,by dsimp only;omega,cX,⟨_,bu⟩,⟨_,by dsimp only;rw[<-kX];exact bu⟩,⟨_,by dsimp only;rw[<-nI];exact bu⟩,⟨_,by dsimp only;rw[<-gM];exact bu⟩,by simp[hll2],by simp[hfl2], ?_, ?_,hto⟩
        ·simp only[List.length_append,List.length_cons,List.length_nil];omega
        ·intro i
         rw[eS]
         split
         ·exact hnl
         ·exact hlen2 i
      ·have:j=(g.nd x.toNat).gh.length:=by omega
       subst this
       rw[List.drop_eq_nil_of_le (Nat.le_refl _),dQ] at hto
       have hnx2:=hnx _ _ hnow hto.symm
       repeat' (first|refine aQ ?_|exact aC|with_reducible refine aB ?_ ?_|(apply aA;(·exact cL))|refine aH ?_|((with_reducible refine aE ?_ ?_)<;>intro hc<;>try(exfalso;omega)))
       refine⟨(⟨lks,fnds,tds⟩,k+1),by dsimp only;omega,cC,⟨_,_,Wk.refl _ _ _,cX,⟨_,bu⟩,⟨_,bu⟩,⟨_,bu⟩,⟨_,bu⟩,hnx2,by dsimp only;omega,hlen2, ?_⟩⟩
       rw[<-hrun,<-hto]
       dsimp only
       congr 1
       omega
 ·have hkt:s.todo.length<=k:=by omega
  have hrun2:eK g=(s.cB,-1):=by
   rw[<-hrun,show g.nodes.length+1 - k=(g.nodes.length - k)+1 by omega,fq,if_neg hk]
  repeat' (first|refine aQ ?_|exact aC|with_reducible refine aB ?_ ?_|(apply aA;(·exact cL))|refine aH ?_|((with_reducible refine aE ?_ ?_)<;>intro hc<;>try(exfalso;omega)))
  exact⟨.inr ⟨6,d6,s.cB,by rw[hI.lg],hrun2,bu⟩⟩
theorem EL (g:cG) (hg:g.Wf) (hw:Whole g):Pure Tryz.prog 78 [g.av] (fun r=>r=kE (eK g)):=by
 have h:=EK g hg hw
 have fL:∀L:List (List Int),c8 0 (L.map fE):=fun L=>(cD _ _).2 fun _ _=>by simp[fE,cH,cD]
 have fh:∀r,cH 0 (kE r):=fun r=>by simp only[kE,cH,c8];exact⟨fL _,trivial,trivial⟩
 by_cases hc:(eK g).1=[]
 ·refine yK (u:= .dI [.sc (.slice none 0 0),i64 (eK g).2]) (pure_or (h.mono ?_) (by simp[cH,c8]) (fh _)) (fh _) fun c=> ?_
  ·rintro r H n (⟨a,rfl,e⟩|⟨b,d,L,rfl,e,hb⟩)
   ·left;rw[e];exact dA _ (by simp[cH,c8])
   ·right
    rw[e]
    have e1:cw.dY H 6 (.dI [.sl b L.length,i64 (-1)])= .dI [cw.dY H 5 (.sl b L.length),i64 (-1)]:=by
     simp only[dY,List.map_cons,List.map_nil]
    rw[e1,dH hb (by simp),cn _ (fL L)]
    rfl
  ·unfold kE
   rw[hc]
   intro v hv
   rw[VR] at hv ⊢
   obtain⟨vs,rfl,hv⟩:=hv
   refine⟨vs,rfl, ?_⟩
   rw[cu] at hv ⊢
   obtain⟨v1,vs1,e1,h1,h2⟩:=hv
   exact⟨v1,vs1,e1,cw.db.jE c c 1 .any _ h1,h2⟩
 ·refine cp (h.mono ?_) (fh _)
  rintro r H n (⟨a,rfl,e⟩|⟨b,d,L,rfl,e,hb⟩)
  ·rw[e] at hc;exact absurd rfl hc
  ·rw[e]
   have e1:cw.dY H 6 (.dI [.sl b L.length,i64 (-1)])= .dI [cw.dY H 5 (.sl b L.length),i64 (-1)]:=by
    simp only[dY,List.map_cons,List.map_nil]
   rw[e1,dH hb (by simp),cn _ (fL L)]
   rfl
theorem yF (acc:List ByteArray) (l:List Decl) (w:Bool):uu acc l w=(ew acc (l.map Decl.name)&&(w||l.all fun d=>decide (d.word=0))):=by
 induction l generalizing acc with
 |nil=>simp[uu,ew]
 |cons d r ih=>
  rw[uu,List.map_cons,ew,ih,List.all_cons]
  cases fm d.name<;>cases w<;>cases gI acc d.name<;>cases decide (d.word=0)<;>cases ew (acc++[d.name]) (r.map Decl.name)<;>simp
theorem tW (acc a b:List ByteArray):ew acc (a++b)=(ew acc a&&ew (acc++a) b):=by
 induction a generalizing acc with
 |nil=>simp[ew]
 |cons s r ih=>
  rw[List.cons_append,ew,ew,ih,List.append_assoc,List.singleton_append]
  split<;>simp
def jk (u:bx):List Decl:=u.bw.map fun g=>⟨g.name,0,0⟩
theorem KF (u:bx):(jk u).map Decl.name=u.bw.map cG.name:=by simp[jk,List.map_map,Function.comp_def]
theorem kP (u:bx):(jk u).length=u.bw.length:=by simp[jk]
theorem KG {u:bx} {t:Nat} (h:t<u.bw.length):(jk u).take (t+1)=(jk u).take t++[⟨(u.gr t).name,0,0⟩]:=by
 rw[List.take_succ_eq_append_getElem (by rw[kP];exact h)]
 simp[jk,bx.gr,List.getD,h]
theorem UB (u:bx) (h1:u.shared.length<=64) (h2:u.cB.length<=16) (h3:u.bw.length<=8) {L1 L2:List ByteArray}
 (e1:L1=if uu [] u.shared true=true then[]++u.shared.map Decl.name else[])
 (e2:L2=if uu L1 u.cB false=true then L1++u.cB.map Decl.name else[]):
 (uu [] u.shared true&&uu L1 u.cB false&&uu L2 (jk u) false)=fK u:=by
 unfold fK
 rw[decide_eq_true h1,decide_eq_true h2,decide_eq_true h3,dC,tW,tW]
 have ht:(jk u).all (fun d=>decide (d.word=0))=true:=by simp[jk]
 rw[yF L2,ht,KF,Bool.or_true,Bool.and_true]
 rw[yF []] at e1 ⊢
 rw[yF L1] at e2 ⊢
 simp only[Bool.true_or,Bool.and_true,List.nil_append,Bool.true_and,Bool.false_or] at e1 e2 ⊢
 cases ha:ew [] (u.shared.map Decl.name) with
 |false=>simp
 |true=>
  rw[ha,if_pos rfl] at e1
  subst e1
  cases hb:ew (u.shared.map Decl.name) (u.cB.map Decl.name) with
  |false=>simp
  |true=>
   rw[hb] at e2
   cases hc:u.cB.all (fun d=>decide (d.word=0)) with
   |false=>simp
   |true=>
    rw[hc,if_pos (by rfl)] at e2
    subst e2
    simp
theorem Wk.RT {a a2:AV} {l:List AV} {H H2:Hp} {nx nx2:Nat} (h:Wk a H nx a2 H2 nx2):Wk (.dI (a::l)) H nx (.dI (a2::l)) H2 nx2:=by
 intro w0 ρ U w M0 hU hS
 obtain⟨ρ2,U2,k1,k2,k3,k4⟩:=h w0 ρ U w M0 hU hS
 refine⟨ρ2,U2,k1,k2,k3,fun v hv=> ?_⟩
 rw[VR] at hv ⊢
 obtain⟨vs,rfl,hv⟩:=hv
 refine⟨vs,rfl, ?_⟩
 rw[cu] at hv ⊢
 obtain⟨v1,vs1,e1,h1,h2⟩:=hv
 exact⟨v1,vs1,e1,k4 _ h1,cu.cc k3 h2⟩
theorem yR (l:List Decl) (hl:l.length<=64) (hw:∀d∈l,d.Wf) (a0:List ByteArray) (ha:a0.length<=1000) (w:Bool) (nv0:AV) (H0:Hp) (nx:Nat) (ht0:FK nv0 a0 H0 nx):cU Tryz.prog 76 [cF l,nv0,bl w] H0 nx (fun r H n=>∃b d L,r= .dI [.sl b L.length,bl (uu a0 l w)]/\b<n/\bt H b=some (.row 9 1 d (strs L))/\L=(if uu a0 l w=true then a0++l.map Decl.name else[])/\nx<=n/\∀y,y<nx->jI nv0 y->bt H y=bt H0 y/\y≠b):=by
 refine(BB l hl hw a0 ha w nv0 H0 nx ht0).wk ?_
 rintro r H n ⟨h1,h2,h3,h4⟩
 have hnil:∀bb:Bool,∀L:List ByteArray,L=[]->∃r2 H2 n2,Wk (.dI [.sc (.slice none 0 0),bl bb]) H n r2 H2 n2/\∃b d,r2= .dI [.sl b L.length,bl bb]/\b<n2/\bt H2 b=some (.row 9 1 d (strs L))/\nx<=n2/\∀y,y<nx->jI nv0 y->bt H2 y=bt H0 y/\y≠b:=by
  rintro bb L rfl
  refine⟨_,_,_,Wk.RT (Wk.nil 9 1 .any (by omega)),n, .any,rfl,Nat.lt_succ_self _,ca _ _ _,Nat.le_succ_of_le h1,fun y a b=> ?_⟩
  have hne:y≠n:=by omega
  exact⟨(cN hne).trans (h2 y a b),hne⟩
 cases hk:uu a0 l w with
 |true=>
  obtain⟨nv,rfl,ht,hy⟩:=h3 hk
  rcases ht with⟨rfl,hL⟩|⟨b,d,rfl,hbn,hb⟩
  ·obtain⟨r2,H2,n2,k1,b,d,k2,k3,k4,k5,k6⟩:=hnil true _ hL
   exact⟨r2,H2,n2,k1,b,d,_,k2,k3,k4,by rw[if_pos rfl],k5,k6⟩
  ·exact⟨_,_,_,Wk.refl _ _ _,b,d,_,rfl,hbn,hb,by rw[if_pos rfl],h1,fun y a c=>⟨h2 y a c,yx (hy y a c)⟩⟩
 |false=>
  rw[h4 hk]
  obtain⟨r2,H2,n2,k1,b,d,k2,k3,k4,k5,k6⟩:=hnil false [] rfl
  exact⟨r2,H2,n2,k1,b,d,_,k2,k3,k4,by rw[if_neg (by decide)],k5,k6⟩
set_option maxRecDepth 8000 in
set_option maxHeartbeats 8000000 in
theorem sY (u:bx) (hu:u.Wf):Pure Tryz.prog 37 [u.av] (fun r=>r=mE (gQ u)):=by
 refine aD aAT rfl ?_
 have hgl9:=hu.wj
 have hsl9:=hu.rn
 have hll9:=hu.ud
 by_cases hsz:u.shared.length<=64/\u.cB.length<=16/\u.bw.length<=8
 ·obtain⟨hs1,hs2,hs3⟩:=hsz
  have hgm:(u.bw.map cG.av).length=u.bw.length:=by simp
  repeat' (first|refine aQ ?_|exact eh|with_reducible refine aB ?_ ?_|((with_reducible refine Ask.mk ?_);first|exact dJ|exact cj|(intro h;simp_all[bx.cells]<;>fail)|(simp_all[bx.cells]<;>fail))|(apply aA;(·exact cL))|refine aH ?_|((with_reducible refine aE ?_ ?_)<;>intro hc<;>try(exfalso;omega)))
  all_goals first|(exfalso;omega)|skip
  refine aR (fun σ:Nat×AV=>[(1, .pt 0 1 0 0),(5,σ.2),(6,i64 σ.1)])
   (fun σ H n=>23<=n/\(∃d,bt H 0=some (.row 25 3 d [u.av]))/\((σ.1<u.bw.length/\σ.2= .sl 22 σ.1/\∃d,bt H 22=some (.row 85 3 d (((jk u).take σ.1).map Decl.av)))\/(σ.1=u.bw.length/\σ.2=cF (jk u)))) (fun σ=>u.bw.length - σ.1) (0,if u.bw.length=0 then cF (jk u) else .sl 22 0) ?_ ?_
  ·by_cases h0:u.bw.length=0
   ·have hz:jk u=[]:=List.length_eq_zero_iff.1 (by rw[kP];exact h0)
    rw[if_pos h0,hz]
    exact⟨_,_,_,(Rt.nil 5 85 3 (by omega) rfl).trans (Rt.wx 5 22 0 (e:=85) (sz:=3) (d:= .any) (es:=[]) rfl bu rfl),cC,cX,⟨_,bu⟩, .inr ⟨h0.symm,rfl⟩⟩
   ·rw[if_neg h0]
    exact⟨_,_,_,Rt.nil 5 85 3 (by omega) rfl,cC,cX,⟨_,bu⟩, .inl ⟨by dsimp only;omega,rfl,_,by simp only[List.take_zero,List.map_nil];exact bu⟩⟩
  clear hc
  rintro⟨t,av⟩ H n ⟨hn,⟨d0,r0⟩,hst⟩
  dsimp only at hst ⊢
  rcases hst with⟨htl,rfl,d5,r5⟩|⟨ht,rfl⟩
  ·have eg:=fun d=>nV (l:=u.bw) htl d
   rw[show u.bw.getD t default=u.gr t from rfl] at eg
   have hnx:=KG htl
   have htm:(((jk u).take t).map Decl.av).length=t:=by rw[List.length_map,List.length_take,kP];omega
   have hap:(((jk u).take t).map Decl.av)++[(⟨(u.gr t).name,0,0⟩:Decl).av]=(((jk u).take (t+1)).map Decl.av):=by rw[hnx];simp
   have hal:(((jk u).take (t+1)).map Decl.av).length=t+1:=by rw[List.length_map,List.length_take,kP];omega
   have hap2:=hap
   unfold Decl.av Decl.cells at hap2
   repeat' (first|refine aQ ?_|exact eh|with_reducible refine aB ?_ ?_|((with_reducible refine Ask.mk ?_);first|exact dJ|(exact hgm)|(exact htm)|exact cj|(intro h;simp_all[bx.cells,cG.cells]<;>fail)|(simp_all[bx.cells,cG.cells]<;>fail))|(apply aA;(·(first|exact eg _|exact cL)))|refine aH ?_|((with_reducible refine aE ?_ ?_)<;>intro hc<;>try(exfalso;omega)))
   by_cases hlast:t+1=u.bw.length
   ·have hz:(jk u).take (t+1)=jk u:=List.take_of_length_le (by rw[kP];omega)
    rw[hz] at hap
    exact⟨(t+1,cF (jk u)),by dsimp only;omega,_,_,_,Rt.wx 5 22 (t+1) (e:=85) (sz:=3) (es:=(jk u).map Decl.av) rfl (by rw[<-hap];exact bu) (by rw[List.length_map,kP];omega),cC,cX,⟨_,bu⟩, .inr ⟨hlast,rfl⟩⟩
   ·exact⟨(t+1, .sl 22 (t+1)),by dsimp only;omega,_,_,_,Rt.refl _ _ _,cC,cX,⟨_,bu⟩, .inl ⟨by dsimp only;omega,rfl,_,by dsimp only;rw[<-hap];exact bu⟩⟩
  ·subst ht
   repeat' (first|refine aQ ?_|exact eh|with_reducible refine aB ?_ ?_|((with_reducible refine Ask.mk ?_);first|exact dJ|(exact hgm)|exact cj|(intro h;simp_all[bx.cells]<;>fail)|(simp_all[bx.cells]<;>fail))|(apply aA;(·exact cL))|refine aH ?_|((with_reducible refine aE ?_ ?_)<;>intro hc<;>try(exfalso;omega)))
   refine aG (yR u.shared hs1 hu.shared [] (by simp) true _ _ _ (.inl ⟨rfl,rfl⟩)) ?_
   rintro _ H1 n1 ⟨b1,d1,L1,rfl,hb1,hr1,hL1,hn1,hy1⟩
   obtain⟨k1,a1⟩:=hy1 0 (by first|omega|exact cX) (fun b' n' e=>by cases e)
   have r1:∃d,bt H1 0=some (.row 25 3 d [u.av]):=⟨_,k1.trans bu⟩
   have hnn1:23<=n1:=Nat.le_trans (by first|omega|exact cX) hn1
   have hl1:L1.length<=64:=by rw[hL1];split<;>simp<;>omega
   clear k1 hy1 r0 hn1
   obtain⟨d1',r1⟩:=r1
   generalize hok1:uu [] u.shared true=o1 at *
   repeat' (first|refine aQ ?_|exact eh|with_reducible refine aB ?_ ?_|((with_reducible refine Ask.mk ?_);first|exact dJ|exact cj|(intro h;simp_all[bx.cells]<;>fail)|(simp_all[bx.cells]<;>fail))|(apply aA;(·exact cL))|refine aH ?_|((with_reducible refine aE ?_ ?_)<;>intro hc<;>try(exfalso;omega)))
   refine aG (yR u.cB (by omega) hu.cB L1 (by omega) false _ _ _ (.inr ⟨b1,_,rfl,Nat.lt_of_lt_of_le hb1 cX,bu⟩)) ?_
   rintro _ H2 n2 ⟨b2,d2,L2,rfl,hb2,hr2,hL2,hn2,hy2⟩
   obtain⟨k2,a2⟩:=hy2 0 (by first|omega|exact cX) (fun b' n' e=>by cases e;exact a1)
   have r2:∃d,bt H2 0=some (.row 25 3 d [u.av]):=⟨_,k2.trans bu⟩
   have hnn2:23<=n2:=Nat.le_trans (by first|omega|exact cX) hn2
   have hl2:L2.length<=128:=by rw[hL2];split<;>simp<;>omega
   clear k2 hy2 r1 hr1 hn2
   obtain⟨d2',r2⟩:=r2
   generalize hok2:uu L1 u.cB false=o2 at *
   repeat' (first|refine aQ ?_|exact eh|with_reducible refine aB ?_ ?_|((with_reducible refine Ask.mk ?_);first|exact dJ|exact cj|(intro h;simp_all[bx.cells]<;>fail)|(simp_all[bx.cells]<;>fail))|(apply aA;(·exact cL))|refine aH ?_|((with_reducible refine aE ?_ ?_)<;>intro hc<;>try(exfalso;omega)))
   refine aG (yR (jk u) (by rw[kP];omega) (fun d hd=> ?_) L2 (by omega) false _ _ _ (.inr ⟨b2,_,rfl,Nat.lt_of_lt_of_le hb2 cX,bu⟩)) ?_
   ·obtain⟨g,hg,rfl⟩:=List.mem_map.1 hd
    have hz:ee 0:=by unfold ee;omega
    exact⟨(hu.bw g hg).name,hz,hz⟩
   rintro _ H3 n3 ⟨b3,d3,L3,rfl,hb3,hr3,hL3,hn3,hy3⟩
   obtain⟨k3,a3⟩:=hy3 0 (by first|omega|exact cX) (fun b' n' e=>by cases e;exact a2)
   have r3:∃d,bt H3 0=some (.row 25 3 d [u.av]):=⟨_,k3.trans bu⟩
   have hnn3:23<=n3:=Nat.le_trans (by first|omega|exact cX) hn3
   clear k3 hy3 r2 hr2 hr3 hn3
   obtain⟨d3',r3⟩:=r3
   generalize hok3:uu L2 (jk u) false=o3 at *
   have hnm:(o1&&o2&&o3)=fK u:=by
    rw[<-UB u hs1 hs2 hs3 (L1:=L1) (L2:=L2) (by rw[hok1];exact hL1) (by rw[hok2];exact hL2),hok1,hok2,hok3]
   clear hL1 hL2 hL3 hok1 hok2 hok3
   cases hnb:fK u with
   |false=>
    rw[mF hnb]
    rw[hnb] at hnm
    repeat' (first|refine aQ ?_|exact eh|with_reducible refine aB ?_ ?_|((with_reducible refine Ask.mk ?_);first|exact dJ|exact cj|(intro h;simp_all[bx.cells]<;>fail)|(simp_all[bx.cells]<;>fail))|(apply aA;(·exact cL))|refine aH ?_|((with_reducible refine aE ?_ ?_)<;>intro hc<;>try(exfalso;omega)))
    ·exact rfl
    ·exfalso
     obtain⟨hc1,hc2⟩:=hc
     subst hc2
     cases o1<;>cases o2<;>simp_all
   |true=>
    rw[hnb] at hnm
    have e1:o1=true:=by cases o1;cases hnm;rfl
    have e2:o2=true:=by cases o2;cases o1<;>cases hnm;rfl
    have e3:o3=true:=by cases o3;cases o1<;>cases o2<;>cases hnm;rfl
    subst e1;subst e2;subst e3
    have hck:gQ u=fJ u u.bw 0:=by unfold gQ;rw[if_pos hnb]
    rw[hck]
    repeat' (first|refine aQ ?_|exact eh|with_reducible refine aB ?_ ?_|((with_reducible refine Ask.mk ?_);first|exact dJ|exact cj|(intro h;simp_all[bx.cells]<;>fail)|(simp_all[bx.cells]<;>fail))|(apply aA;(·exact cL))|refine aH ?_|((with_reducible refine aE ?_ ?_)<;>intro hc<;>try(exfalso;omega)))
    refine aF (fun t:Nat=>[(1, .pt 0 1 0 0),(12,i64 t)])
     (fun t H n=>t<=u.bw.length/\1<=n/\(∃d,bt H 0=some (.row 25 3 d [u.av]))/\fJ u (u.bw.drop t) t=fJ u u.bw 0) (fun t=>u.bw.length - t) 0 cC ⟨Nat.zero_le _,cX,⟨_,bu⟩,rfl⟩ ?_
    clear r3
    rintro t H n ⟨ht,hn,⟨d0,r0⟩,hF⟩
    by_cases htl:t<u.bw.length
    ·have hg:=hu.bw _ (cO default htl)
     rw[qO htl] at hF
     have eg:=fun d=>nV htl d
     generalize hG:u.bw.getD t default=g at *
     have hl:=hg.len
     have hnm':(g.nodes.map Node.av).length=g.nodes.length:=by simp
     unfold nW at hF
     by_cases hb:g.locals<0\/g.locals>64\/g.bz<g.locals\/g.bz>4160\/g.nodes.length<1\/g.nodes.length>4096
     ·rw[if_pos hb] at hF
      rw[<-hF]
      repeat' (first|refine aQ ?_|exact eh|with_reducible refine aB ?_ ?_|((with_reducible refine Ask.mk ?_);first|exact dJ|(exact hgm)|(exact hnm')|exact cj|(intro h;simp_all[bx.cells,cG.cells]<;>fail)|(simp_all[bx.cells,cG.cells]<;>fail))|(apply aA;(·(first|exact eg _|exact cL)))|refine aH ?_|((with_reducible refine aE ?_ ?_)<;>intro hc<;>try(exfalso;omega)))
      all_goals first|exact rfl|(exfalso;omega)
     ·rw[if_neg hb] at hF
      repeat' (first|refine aQ ?_|exact eh|with_reducible refine aB ?_ ?_|((with_reducible refine Ask.mk ?_);first|exact dJ|(exact hgm)|(exact hnm')|exact cj|(intro h;simp_all[bx.cells,cG.cells]<;>fail)|(simp_all[bx.cells,cG.cells]<;>fail))|(apply aA;(·(first|exact eg _|exact cL)))|refine aH ?_|((with_reducible refine aE ?_ ?_)<;>intro hc<;>try(exfalso;omega)))
      all_goals first|(exfalso;omega)|skip
      refine aF (fun i:Nat=>[(1, .pt 0 1 0 0),(12,i64 t),(13, .pt (n+10) 1 0 0),(14,i64 i)])
       (fun i H2 n2=>i<=g.nodes.length/\n+11<=n2/\(∃d,bt H2 0=some (.row 25 3 d [u.av]))/\(∃d,bt H2 (n+10)=some (.row 60 4 d [g.av]))/\gH (jF u g) (g.nodes.drop i) i=gH (jF u g) g.nodes 0) (fun i=>g.nodes.length - i) 0 cC ⟨Nat.zero_le _,cX,⟨_,bu⟩,⟨_,bu⟩,rfl⟩ ?_
      clear r0
      rintro i H2 n2 ⟨hi,hn2,⟨d02,r0⟩,⟨d4,r4⟩,hfst⟩
      by_cases hil:i<g.nodes.length
      ·have hp:=EP u g (g.nodes.getD i default) (hg.nodes _ (cO default hil))
       have en:=fun d=>gm hil d
       have hfst2:=uR default hfst hil
       cases hnb:jF u g (g.nodes.getD i default) with
       |false=>
        rw[hnb] at hp
        rw[if_neg (by rw[hnb];decide)] at hfst2
        rw[hfst2] at hF
        rw[<-hF]
        repeat' (first|refine aQ ?_|exact eh|with_reducible refine aB ?_ ?_|((with_reducible refine Ask.mk ?_);first|exact dJ|(exact hnm')|exact cj|(intro h;simp_all[bx.cells,cG.cells,Node.cells]<;>fail)|(simp_all[bx.cells,cG.cells,Node.cells]<;>fail))|(apply aA;(·(first|exact en _|exact cL)))|refine aK (hp) ?_|refine aH ?_|((with_reducible refine aE ?_ ?_)<;>intro hc<;>try(exfalso;omega)))
        exact rfl
       |true=>
        rw[hnb] at hp
        rw[if_pos hnb] at hfst2
        repeat' (first|refine aQ ?_|exact eh|with_reducible refine aB ?_ ?_|((with_reducible refine Ask.mk ?_);first|exact dJ|(exact hnm')|exact cj|(intro h;simp_all[bx.cells,cG.cells,Node.cells]<;>fail)|(simp_all[bx.cells,cG.cells,Node.cells]<;>fail))|(apply aA;(·(first|exact en _|exact cL)))|refine aK (hp) ?_|refine aH ?_|((with_reducible refine aE ?_ ?_)<;>intro hc<;>try(exfalso;omega)))
        exact⟨i+1,by omega,cC,by omega,cX,⟨_,bu⟩,⟨_,bu⟩,hfst2.symm⟩
      ·have:i=g.nodes.length:=by omega
       subst this
       rw[uQ _ _ (Nat.le_refl _)] at hfst
       rw[<-hfst] at hF
       dsimp only at hF
       have hok:Whole g:=vV (u:=u) (by omega) fun m hm=>oU.1 (jY.1 hfst.symm m hm)
       have hh:=EL g hg hok
       unfold kE at hh
       by_cases hb2:0<=(eK g).2
       ·rw[if_pos hb2] at hF
        rw[<-hF]
        repeat' (first|refine aQ ?_|exact eh|with_reducible refine aB ?_ ?_|((with_reducible refine Ask.mk ?_);first|exact dJ|(exact hnm')|exact cj|(intro h;simp_all[bx.cells,cG.cells]<;>fail)|(simp_all[bx.cells,cG.cells]<;>fail))|(apply aA;(·exact cL))|refine aK (hh) ?_|refine aH ?_|((with_reducible refine aE ?_ ?_)<;>intro hc<;>try(exfalso;omega)))
        exact rfl
       ·rw[if_neg hb2] at hF
        repeat' (first|refine aQ ?_|exact eh|with_reducible refine aB ?_ ?_|((with_reducible refine Ask.mk ?_);first|exact dJ|(exact hnm')|exact cj|(intro h;simp_all[bx.cells,cG.cells]<;>fail)|(simp_all[bx.cells,cG.cells]<;>fail))|(apply aA;(·exact cL))|refine aK (hh) ?_|refine aH ?_|((with_reducible refine aE ?_ ?_)<;>intro hc<;>try(exfalso;omega)))
        exact⟨t+1,by omega,cC,by omega,by omega,⟨_,bu⟩,hF⟩
    ·have:t=u.bw.length:=by omega
     subst this
     rw[List.drop_eq_nil_of_le (Nat.le_refl _),fJ] at hF
     rw[<-hF]
     repeat' (first|refine aQ ?_|exact eh|with_reducible refine aB ?_ ?_|((with_reducible refine Ask.mk ?_);first|exact dJ|(exact hgm)|exact cj|(intro h;simp_all[bx.cells]<;>fail)|(simp_all[bx.cells]<;>fail))|(apply aA;(·exact cL))|refine aH ?_|((with_reducible refine aE ?_ ?_)<;>intro hc<;>try(exfalso;omega)))
     exact rfl
 ·have hb:fK u=false:=by
   unfold fK
   by_cases e1:u.shared.length<=64
   ·by_cases e2:u.cB.length<=16
    ·have e3:¬u.bw.length<=8:=fun e=>hsz ⟨e1,e2,e⟩
     simp[e3]
    ·simp[e2]
   ·simp[e1]
  rw[mF hb]
  repeat' (first|refine aQ ?_|exact eh|with_reducible refine aB ?_ ?_|((with_reducible refine Ask.mk ?_);first|exact dJ|exact cj|(intro h;simp_all[bx.cells]<;>fail)|(simp_all[bx.cells]<;>fail))|(apply aA;(·exact cL))|refine aH ?_|((with_reducible refine aE ?_ ?_)<;>intro hc<;>try(exfalso;omega)))
  all_goals first|exact rfl|(exfalso;omega)
section
structure R3 (u:bx) (m:MS) (mr a s me ho pr:Nat) (ids:List Nat) (H:Hp):Prop where
 rM:∃d,bt H mr=some (.row 96 8 d [m.rows u a s me ho pr])
 rA:∃d,bt H a=some (.row 3 1 d (m.at_.map i64))
 rS:∃d,bt H s=some (.row 93 1 d (dR ids m.bz))
 rL:∀t,t<m.bz.length->∃d,bt H (ids.getD t 0)=some (.row 2 1 d ((m.bz.getD t []).map i64))
 rE:∃d,bt H me=some (.row 2 1 d (m.mem.map i64))
 rH:∃d,bt H ho=some (.row 3 1 d (m.hold.map i64))
 rP:∃d,bt H pr=some (.row 155 2 d (m.cA.map cy.av))
 len:ids.length=m.bz.length
 nodup:(mr::a::s::me::ho::pr::ids).Nodup
abbrev ML.Nt (L:ML) (u:bx) (m:MS) (H:Hp):Prop:=R3 u m L.mr L.a L.s L.me L.ho L.pr L.ids H
theorem R3.DA {u:bx} {m:MS} {mr a s me ho pr:Nat} {ids:List Nat} {H:Hp} (h:R3 u m mr a s me ho pr ids H) (k:Nat):cw.dY H (k+4) (.pt mr 1 0 0)=m.fz u:=by
 obtain⟨d1,h1⟩:=h.rM
 obtain⟨d2,h2⟩:=h.rA
 obtain⟨d3,h3⟩:=h.rS
 obtain⟨d4,h4⟩:=h.rE
 obtain⟨d5,h5⟩:=h.rH
 obtain⟨d6,h6⟩:=h.rP
 have hsl:(dR ids m.bz).length=m.bz.length:=by unfold dR;rw[List.length_map,List.length_zip,h.len];simp
 have hs:(dR ids m.bz).map (cw.dY H (k+1))=m.bz.map cT:=by
  apply List.ext_getElem (by simp[hsl])
  intro t q1 q2
  have ht:t<m.bz.length:=by simpa using q2
  have hti:t<ids.length:=by rw[h.len];exact ht
  obtain⟨d,hd⟩:=h.rL t ht
  rw[show ids.getD t 0=ids[t] by simp[List.getD,hti],show m.bz.getD t []=m.bz[t] by simp[List.getD,ht]] at hd
  rw[List.getElem_map,List.getElem_map]
  simp only[dR,List.getElem_map,List.getElem_zip]
  rw[dH hd (by simp),cn _ ((cD _ _).2 fun _ _=>by simp[cH])]
 simp only[cw.dY,h1]
 simp only[List.length_cons,List.length_nil,if_true,List.map_cons,List.map_nil,MS.rows]
 rw[oL]
 simp only[List.map_cons,List.map_nil]
 rw[dH h2 (by simp),dH h3 hsl,dH h4 (by simp),dH h5 (by simp),dH h6 (by simp),hs]
 rw[cn _ ((cD _ _).2 fun _ _=>by simp[cH]),cn _ ((cD _ _).2 fun _ _=>by simp[cH]),cn _ ((cD _ _).2 fun _ _=>by simp[cH]),cn _ ((cD _ _).2 fun _ _=>by simp[cH])]
 rw[dA _ (show cH 0 (cF u.shared) by simp[cH,cD]),dA _ (show cH 0 (cF u.cB) by simp[cH,cD]),dA _ (show cH 0 (cZ u.bw) by simp[cH,cD])]
 rfl
theorem R3.QG {u:bx} {m:MS} {mr a s me ho pr:Nat} {ids:List Nat} {H:Hp} (h:R3 u m mr a s me ho pr ids H) (k:Nat):cw.dY H (k+3) (m.rows u a s me ho pr)=m.av u:=by
 obtain⟨d1,h1⟩:=h.rM
 obtain⟨d2,h2⟩:=h.rA
 obtain⟨d3,h3⟩:=h.rS
 obtain⟨d4,h4⟩:=h.rE
 obtain⟨d5,h5⟩:=h.rH
 obtain⟨d6,h6⟩:=h.rP
 have hsl:(dR ids m.bz).length=m.bz.length:=by unfold dR;rw[List.length_map,List.length_zip,h.len];simp
 have hs:(dR ids m.bz).map (cw.dY H (k+1))=m.bz.map cT:=by
  apply List.ext_getElem (by simp[hsl])
  intro t q1 q2
  have ht:t<m.bz.length:=by simpa using q2
  have hti:t<ids.length:=by rw[h.len];exact ht
  obtain⟨d,hd⟩:=h.rL t ht
  rw[show ids.getD t 0=ids[t] by simp[List.getD,hti],show m.bz.getD t []=m.bz[t] by simp[List.getD,ht]] at hd
  rw[List.getElem_map,List.getElem_map]
  simp only[dR,List.getElem_map,List.getElem_zip]
  rw[dH hd (by simp),cn _ ((cD _ _).2 fun _ _=>by simp[cH])]
 rw[MS.rows,oL]
 simp only[List.map_cons,List.map_nil]
 rw[dH h2 (by simp),dH h3 hsl,dH h4 (by simp),dH h5 (by simp),dH h6 (by simp),hs]
 rw[cn _ ((cD _ _).2 fun _ _=>by simp[cH]),cn _ ((cD _ _).2 fun _ _=>by simp[cH]),cn _ ((cD _ _).2 fun _ _=>by simp[cH]),cn _ ((cD _ _).2 fun _ _=>by simp[cH])]
 rw[dA _ (show cH 0 (cF u.shared) by simp[cH,cD]),dA _ (show cH 0 (cF u.cB) by simp[cH,cD]),dA _ (show cH 0 (cZ u.bw) by simp[cH,cD])]
 rfl
section
variable {u:bx} {m:MS} {L:ML} {H H':Hp}
theorem ML.Nt.mem (h:L.Nt u m H):(∀x∈[L.a,L.s,L.me,L.ho,L.pr],x∈L.all):=by
 intro x hx
 simp only[List.mem_cons,List.not_mem_nil,or_false] at hx
 simp only[ML.all,List.mem_cons]
 omega
theorem oT (h:L.Nt u m H) {t:Nat} (ht:t<m.bz.length):L.it t∈L.all:=by
 have:L.it t∈L.ids:=eE (by rw[h.len];exact ht)
 simp only[ML.all,List.mem_cons]
 exact .inr (.inr (.inr (.inr (.inr (.inr this)))))
theorem UD (h:L.Nt u m H) {t s:Nat} (ht:t<m.bz.length) (hs:s<m.bz.length) (e:s≠t):L.it s≠L.it t:=by
 have h1:=(List.nodup_cons.1 (List.nodup_cons.1 (List.nodup_cons.1 (List.nodup_cons.1 (List.nodup_cons.1 (List.nodup_cons.1 h.nodup).2).2).2).2).2).2
 have hl:=h.len
 intro he
 have ht':t<L.ids.length:=by omega
 have hs':s<L.ids.length:=by omega
 have:L.ids[s]=L.ids[t]:=by simpa[ML.it,List.getD,ht',hs'] using he
 exact e ((List.getElem_inj h1).1 this)
theorem lF (h:L.Nt u m H) {t:Nat} (ht:t<m.bz.length):L.RZ t:=by
 have hn:=h.nodup
 have hi:L.it t∈L.ids:=eE (by rw[h.len];exact ht)
 have hne:∀x,x∉L.ids->L.it t≠x:=fun x hx e=>hx (e▸hi)
 simp only[List.nodup_cons,List.mem_cons,not_or] at hn
 obtain⟨⟨a1,a2,a3,a4,a5,a6⟩,⟨b1,b2,b3,b4,b5⟩,⟨c1,c2,c3,c4⟩,⟨d1,d2,d3⟩,⟨e1,e2⟩,f1,_⟩:=hn
 exact⟨⟨a1,a2,a3,a4,a5,b1,b2,b3,b4,c1,c2,c3,d1,d2,e1⟩,hne _ a6,hne _ b5,hne _ c4,hne _ d3,hne _ e2,hne _ f1⟩
theorem ML.Nt.cc (h:L.Nt u m H) (hk:∀y∈L.all,bt H' y=bt H y):L.Nt u m H':=by
 have hm:=h.mem
 obtain⟨d1,h1⟩:=h.rM
 obtain⟨d2,h2⟩:=h.rA
 obtain⟨d3,h3⟩:=h.rS
 obtain⟨d4,h4⟩:=h.rE
 obtain⟨d5,h5⟩:=h.rH
 obtain⟨d6,h6⟩:=h.rP
 refine⟨⟨d1,(hk _ (by simp)).trans h1⟩,⟨d2,(hk _ (hm _ (by simp))).trans h2⟩,⟨d3,(hk _ (hm _ (by simp))).trans h3⟩,fun t ht=> ?_,⟨d4,(hk _ (hm _ (by simp))).trans h4⟩,⟨d5,(hk _ (hm _ (by simp))).trans h5⟩,⟨d6,(hk _ (hm _ (by simp))).trans h6⟩,h.len,h.nodup⟩
 obtain⟨d,hd⟩:=h.rL t ht
 exact⟨d,(hk _ (oT h ht)).trans hd⟩
theorem ML.Nt.eB (h:L.Nt u m H) {t:Nat} (ht:t<m.bz.length) (k w:Int) (hit:∃d,bt H' (L.it t)=some (.row 2 1 d (((m.bz.getD t []).map i64).set k.toNat (i64 w)))) (hk:∀y∈L.all,y≠L.it t->bt H' y=bt H y):L.Nt u (m.eB t k w) H':=by
 obtain⟨-,n1,n2,n3,n4,n5,n6⟩:=lF h ht
 have hm:=h.mem
 obtain⟨d1,h1⟩:=h.rM
 obtain⟨d2,h2⟩:=h.rA
 obtain⟨d3,h3⟩:=h.rS
 obtain⟨d4,h4⟩:=h.rE
 obtain⟨d5,h5⟩:=h.rH
 obtain⟨d6,h6⟩:=h.rP
 have hl:(m.eB t k w).bz.length=m.bz.length:=by simp[MS.eB]
 have hrow:dR L.ids (m.eB t k w).bz=dR L.ids m.bz:=by
  unfold dR MS.eB
  apply List.ext_getElem (by simp)
  intro i q1 q2
  simp only[List.getElem_map,List.getElem_zip,AV.sl.injEq,true_and]
  rw[List.getElem_set]
  have hi:i<m.bz.length:=by simp at q2;omega
  split
  ·rename_i e;subst e;rw[List.length_set];simp[List.getD,hi]
  ·rfl
 refine⟨⟨d1, ?_⟩,⟨d2,(hk _ (hm _ (by simp)) gy).trans h2⟩,⟨d3,by rw[hrow];exact(hk _ (hm _ (by simp)) gy).trans h3⟩,fun s hs=> ?_,⟨d4,(hk _ (hm _ (by simp)) gy).trans h4⟩,⟨d5,(hk _ (hm _ (by simp)) gy).trans h5⟩,⟨d6,(hk _ (hm _ (by simp)) gy).trans h6⟩,by rw[hl];exact h.len,h.nodup⟩
 ·rw[show(m.eB t k w).rows u L.a L.s L.me L.ho L.pr=m.rows u L.a L.s L.me L.ho L.pr by simp[MS.rows,MS.eB]]
  exact(hk _ (by simp) gy).trans h1
 ·rw[hl] at hs
  by_cases e:s=t
  ·subst e
   obtain⟨d,hd⟩:=hit
   refine⟨d,hd.trans ?_⟩
   rw[show(m.eB s k w).bz.getD s []=(m.bz.getD s []).set k.toNat w from eM hs,List.map_set]
  ·obtain⟨d,hd⟩:=h.rL s hs
   refine⟨d, ?_⟩
   rw[show(m.eB t k w).bz.getD s []=m.bz.getD s [] from getD_set_ne (Ne.symm e)]
   exact(hk _ (oT h hs) (UD h ht hs e)).trans hd
theorem ML.Nt.gI (h:L.Nt u m H) {t:Nat} (ht:t<m.bz.length) (k w:Int) (hme:∃d,bt H' L.me=some (.row 2 1 d ((m.mem.map i64).set k.toNat (i64 w)))) (hk:∀y∈L.all,y≠L.me->bt H' y=bt H y):L.Nt u { m with mem:=m.mem.set k.toNat w } H':=by
 obtain⟨⟨a1,a2,a3,a4,a5,b1,b2,b3,b4,c1,c2,c3,e1,e2,f1⟩,n1,n2,n3,n4,n5,n6⟩:=lF h ht
 have hm:=h.mem
 obtain⟨d1,h1⟩:=h.rM
 obtain⟨d2,h2⟩:=h.rA
 obtain⟨d3,h3⟩:=h.rS
 obtain⟨d4,h4⟩:=hme
 obtain⟨d5,h5⟩:=h.rH
 obtain⟨d6,h6⟩:=h.rP
 refine⟨⟨d1, ?_⟩,⟨d2,(hk _ (hm _ (by simp)) gy).trans h2⟩,⟨d3,(hk _ (hm _ (by simp)) gy).trans h3⟩,fun s hs=> ?_,⟨d4,by rw[List.map_set];exact h4⟩,⟨d5,(hk _ (hm _ (by simp)) gy).trans h5⟩,⟨d6,(hk _ (hm _ (by simp)) gy).trans h6⟩,h.len,h.nodup⟩
 ·rw[show({ m with mem:=m.mem.set k.toNat w }:MS).rows u L.a L.s L.me L.ho L.pr=m.rows u L.a L.s L.me L.ho L.pr by simp[MS.rows]]
  exact(hk _ (by simp) gy).trans h1
 ·obtain⟨d,hd⟩:=h.rL s hs
  obtain⟨m1,m2,m3,m4,m5,m6⟩:=(lF h hs).it
  exact⟨d,(hk _ (oT h hs) gy).trans hd⟩
theorem ML.Nt.zm (h:L.Nt u m H) {t:Nat} (ht:t<m.bz.length) (k w:Int) (hho:∃d,bt H' L.ho=some (.row 3 1 d ((m.hold.map i64).set k.toNat (i64 w)))) (hk:∀y∈L.all,y≠L.ho->bt H' y=bt H y):L.Nt u { m with hold:=m.hold.set k.toNat w } H':=by
 obtain⟨⟨a1,a2,a3,a4,a5,b1,b2,b3,b4,c1,c2,c3,e1,e2,f1⟩,n1,n2,n3,n4,n5,n6⟩:=lF h ht
 have hm:=h.mem
 obtain⟨d1,h1⟩:=h.rM
 obtain⟨d2,h2⟩:=h.rA
 obtain⟨d3,h3⟩:=h.rS
 obtain⟨d4,h4⟩:=h.rE
 obtain⟨d5,h5⟩:=hho
 obtain⟨d6,h6⟩:=h.rP
 refine⟨⟨d1, ?_⟩,⟨d2,(hk _ (hm _ (by simp)) gy).trans h2⟩,⟨d3,(hk _ (hm _ (by simp)) gy).trans h3⟩,fun s hs=> ?_,⟨d4,(hk _ (hm _ (by simp)) gy).trans h4⟩,⟨d5,by rw[List.map_set];exact h5⟩,⟨d6,(hk _ (hm _ (by simp)) gy).trans h6⟩,h.len,h.nodup⟩
 ·rw[show({ m with hold:=m.hold.set k.toNat w }:MS).rows u L.a L.s L.me L.ho L.pr=m.rows u L.a L.s L.me L.ho L.pr by simp[MS.rows]]
  exact(hk _ (by simp) gy).trans h1
 ·obtain⟨d,hd⟩:=h.rL s hs
  obtain⟨m1,m2,m3,m4,m5,m6⟩:=(lF h hs).it
  exact⟨d,(hk _ (oT h hs) gy).trans hd⟩
theorem ML.Nt.G8 (h:L.Nt u m H) {t:Nat} (ht:t<m.bz.length) (k:Nat) (w:Int) (hat:∃d,bt H' L.a=some (.row 3 1 d ((m.at_.map i64).set k (i64 w)))) (hk:∀y∈L.all,y≠L.a->bt H' y=bt H y):L.Nt u { m with at_:=m.at_.set k w } H':=by
 obtain⟨⟨a1,a2,a3,a4,a5,b1,b2,b3,b4,c1,c2,c3,e1,e2,f1⟩,n1,n2,n3,n4,n5,n6⟩:=lF h ht
 have hm:=h.mem
 obtain⟨d1,h1⟩:=h.rM
 obtain⟨d2,h2⟩:=hat
 obtain⟨d3,h3⟩:=h.rS
 obtain⟨d4,h4⟩:=h.rE
 obtain⟨d5,h5⟩:=h.rH
 obtain⟨d6,h6⟩:=h.rP
 refine⟨⟨d1, ?_⟩,⟨d2,by rw[List.map_set];exact h2⟩,⟨d3,(hk _ (hm _ (by simp)) gy).trans h3⟩,fun s hs=> ?_,⟨d4,(hk _ (hm _ (by simp)) gy).trans h4⟩,⟨d5,(hk _ (hm _ (by simp)) gy).trans h5⟩,⟨d6,(hk _ (hm _ (by simp)) gy).trans h6⟩,h.len,h.nodup⟩
 ·rw[show({ m with at_:=m.at_.set k w }:MS).rows u L.a L.s L.me L.ho L.pr=m.rows u L.a L.s L.me L.ho L.pr by simp[MS.rows]]
  exact(hk _ (by simp) gy).trans h1
 ·obtain⟨d,hd⟩:=h.rL s hs
  obtain⟨m1,m2,m3,m4,m5,m6⟩:=(lF h hs).it
  exact⟨d,(hk _ (oT h hs) gy).trans hd⟩
theorem ML.Nt.D6 (h:L.Nt u m H) {t:Nat} (ht:t<m.bz.length) (p:cy) (hmr:∃d,bt H' L.mr=some (.row 96 8 d [({ m with cA:=m.cA++[p] }:MS).rows u L.a L.s L.me L.ho L.pr])) (hpr:∃d,bt H' L.pr=some (.row 155 2 d (m.cA.map cy.av++[p.av]))) (hk:∀y∈L.all,y≠L.pr->y≠L.mr->bt H' y=bt H y):L.Nt u { m with cA:=m.cA++[p] } H':=by
 obtain⟨⟨a1,a2,a3,a4,a5,b1,b2,b3,b4,c1,c2,c3,e1,e2,f1⟩,n1,n2,n3,n4,n5,n6⟩:=lF h ht
 have hm:=h.mem
 obtain⟨d2,h2⟩:=h.rA
 obtain⟨d3,h3⟩:=h.rS
 obtain⟨d4,h4⟩:=h.rE
 obtain⟨d5,h5⟩:=h.rH
 obtain⟨d6,h6⟩:=hpr
 refine⟨hmr,⟨d2,(hk _ (hm _ (by simp)) gy gy).trans h2⟩,⟨d3,(hk _ (hm _ (by simp)) gy gy).trans h3⟩,fun s hs=> ?_,⟨d4,(hk _ (hm _ (by simp)) gy gy).trans h4⟩,⟨d5,(hk _ (hm _ (by simp)) gy gy).trans h5⟩,⟨d6,by rw[List.map_append];exact h6⟩,h.len,h.nodup⟩
 obtain⟨d,hd⟩:=h.rL s hs
 obtain⟨m1,m2,m3,m4,m5,m6⟩:=(lF h hs).it
 exact⟨d,(hk _ (oT h hs) gy gy).trans hd⟩
end
end
theorem F4 (n:Nat) (u:bx) (m:MS):cH n (m.av u):=by simp[cH]
set_option maxHeartbeats 4000000 in
theorem JU (u:bx) (hu:u.Wf) (hr:cg u) (c0:Pure Tryz.prog 37 [u.av] (fun r=>r=mE (0,0,0))):Pure Tryz.prog 51 [u.av] (fun r=>r= .dI [(cz u).av u,i64 0]):=by
 have hgl:=hr.oh
 refine cp ?_ (by simp[cH,c8])
 refine aJ aAZ rfl ?_
 refine cP ?_
 rw[List.length_map]
 have hsz:∀t,t<u.bw.length->0<=(u.gr t).bz/\(u.gr t).bz<=4160:=fun t ht=>by
  have h1:=(hr.gr ht).bz
  have h2:=(hr.gr ht).locals
  omega
 have hnat:(cz u).at_.length=u.bw.length:=by simp[cz]
 have hnsl:(cz u).bz.length=u.bw.length:=by simp[cz]
 have hnml:(cz u).mem.length=u.shared.length:=by simp[cz]
 have hnhl:(cz u).hold.length=u.cB.length:=by simp[cz]
 have hns:∀t,t<u.bw.length->(cz u).bz.getD t []=List.replicate (u.gr t).bz.toNat 0:=fun t ht=>by simp[cz,List.getD,bx.gr,ht]
 refine aR (fun σ:Nat×List Nat=>[(1, .pt 0 1 0 0),(2, .pt 1 1 0 0),(7, .pt 15 1 0 0),(25,cZ u.bw),(26,i64 u.bw.length),(27,i64 σ.1)])
  (fun σ H n=>σ.1<=u.bw.length/\26<=n/\σ.2.length=σ.1/\σ.2.Nodup/\(∀x∈σ.2,26<=x/\x<n)/\(∃d,bt H 0=some (.row 25 3 d [u.av]))/\(∃d,bt H 1=some (.row 96 8 d [gO true [.slice none 0 0, .slice none 0 0, .slice none 0 0, .slice none 0 0, .slice none 0 0, .slice none 0 0, .slice none 0 0, .slice none 0 0]]))/\(∃d,bt H 15=some (.row 96 8 d [.agg [cF u.shared,cF u.cB,cZ u.bw, .sl 21 σ.1, .sl 22 σ.1, .sl 23 0, .sl 24 0, .sl 25 0]]))/\(∃d,bt H 21=some (.row 3 1 d (((cz u).at_.take σ.1).map i64)))/\(∃d,bt H 22=some (.row 93 1 d (dR σ.2 ((cz u).bz.take σ.1))))/\(∃d,bt H 23=some (.row 2 1 d (((cz u).mem.take 0).map i64)))/\(∃d,bt H 24=some (.row 3 1 d (((cz u).hold.take 0).map i64)))/\(∃d,bt H 25=some (.row 155 2 d []))/\(∀t,t<σ.1->∃d,bt H (σ.2.getD t 0)=some (.row 2 1 d (((cz u).bz.getD t []).map i64)))) (fun σ=>u.bw.length - σ.1) (0,[])
  ⟨_,_,_,Rt.trans (Rt.wk (Wk.gV (b:=15) (nx:=21) (e:=3) (sz:=1) cX (by omega) (te:=96) (tz:=8) (cs:=[cF u.shared,cF u.cB,cZ u.bw, .sc (.slice none 0 0), .sc (.slice none 0 0), .sc (.slice none 0 0), .sc (.slice none 0 0), .sc (.slice none 0 0)]) (j:=3) bu (by show 3<8;omega) rfl)) (Rt.trans (Rt.wk (Wk.gV (b:=15) (nx:=22) (e:=93) (sz:=1) cX (by omega) (te:=96) (tz:=8) (cs:=[cF u.shared,cF u.cB,cZ u.bw, .sl 21 0, .sc (.slice none 0 0), .sc (.slice none 0 0), .sc (.slice none 0 0), .sc (.slice none 0 0)]) (j:=4) bu (by show 4<8;omega) rfl)) (Rt.trans (Rt.wk (Wk.gV (b:=15) (nx:=23) (e:=2) (sz:=1) cX (by omega) (te:=96) (tz:=8) (cs:=[cF u.shared,cF u.cB,cZ u.bw, .sl 21 0, .sl 22 0, .sc (.slice none 0 0), .sc (.slice none 0 0), .sc (.slice none 0 0)]) (j:=5) bu (by show 5<8;omega) rfl)) (Rt.trans (Rt.wk (Wk.gV (b:=15) (nx:=24) (e:=3) (sz:=1) cX (by omega) (te:=96) (tz:=8) (cs:=[cF u.shared,cF u.cB,cZ u.bw, .sl 21 0, .sl 22 0, .sl 23 0, .sc (.slice none 0 0), .sc (.slice none 0 0)]) (j:=6) bu (by show 6<8;omega) rfl)) (Rt.wk (Wk.gV (b:=15) (nx:=25) (e:=155) (sz:=2) cX (by omega) (te:=96) (tz:=8) (cs:=[cF u.shared,cF u.cB,cZ u.bw, .sl 21 0, .sl 22 0, .sl 23 0, .sl 24 0, .sc (.slice none 0 0)]) (j:=7) bu (by show 7<8;omega) rfl))))),cC,Nat.zero_le _,cX,rfl,List.nodup_nil,fun x hx=>by simp at hx,⟨_,bu⟩,⟨_,bu⟩,⟨_,bu⟩,⟨_,bu⟩,⟨_,bu⟩,⟨_,bu⟩,⟨_,bu⟩,⟨_,bu⟩,fun t ht=>absurd ht (Nat.not_lt_zero _)⟩ ?_
 rintro⟨t,ids⟩ H n ⟨ht,hn,hil,hnd,hin,⟨d0,r0'⟩,⟨d1,r1'⟩,⟨d2,r2'⟩,⟨d3,r3'⟩,⟨d4,r4⟩,⟨d5,r5⟩,⟨d6,r6⟩,⟨d7,r7⟩,hls⟩
 dsimp only at ht hil hnd hin r2' r3' r4 hls ⊢
 have htk:((cz u).bz.take t).length=t:=by rw[List.length_take];omega
 have htk2:(((cz u).at_.take t).map i64).length=t:=by rw[List.length_map,List.length_take];omega
 have hrl:(dR ids ((cz u).bz.take t)).length=t:=by unfold dR;rw[List.length_map,List.length_zip,htk,hil];omega
 by_cases htl:t<u.bw.length
 ·have e0:=fun d=>nV (l:=u.bw) htl d
  rw[show u.bw.getD t default=u.gr t from rfl] at e0
  have a0:(u.bw.map cG.av).length=u.bw.length:=by simp
  obtain⟨s1,s2⟩:=hsz t htl
  have hnx1:((cz u).at_.take (t+1)).map i64=((cz u).at_.take t).map i64++[i64 0]:=by
   rw[List.take_succ_eq_append_getElem (by omega),List.map_append]
   simp[cz]
  have hnx3:((cz u).bz.getD t []).map i64=List.replicate (u.gr t).bz.toNat (i64 0):=by rw[hns t htl];simp
  have hnx2:dR (ids++[n+15]) ((cz u).bz.take (t+1))=dR ids ((cz u).bz.take t)++[.sl (n+15) (u.gr t).bz.toNat]:=by
   have e:=hns t htl
   rw[List.take_succ_eq_append_getElem (by omega),oc (by rw[hil,htk]),show(cz u).bz[t]'(by omega)=List.replicate (u.gr t).bz.toNat 0 by rw[<-e];simp[List.getD,show t<(cz u).bz.length by omega]]
   simp
  refine cP ?_
  refine⟨(t+1,ids++[n+15]),by dsimp only;omega,_,_,_,Rt.refl _ _ _,cC,by dsimp only;omega,cX,by simp[hil], ?_, ?_,⟨_,bu⟩,⟨_,bu⟩,⟨_,bu⟩,⟨_,by dsimp only;rw[hnx1];exact bu⟩,⟨_,by dsimp only;rw[hnx2];exact bu⟩,⟨_,bu⟩,⟨_,bu⟩,⟨_,bu⟩, ?_⟩
  ·refine List.nodup_append.2 ⟨hnd,by simp,fun a ha b hb=> ?_⟩
   simp only[List.mem_cons,List.not_mem_nil,or_false] at hb
   have:=hin _ ha;omega
  ·intro x hx
   rcases List.mem_append.1 hx with hx|hx
   ·have:=hin _ hx;exact⟨this.1,Nat.lt_of_lt_of_le this.2 cX⟩
   ·simp only[List.mem_cons,List.not_mem_nil,or_false] at hx
    subst hx;exact⟨by omega,cX⟩
  ·intro q hq
   have hq:q<t+1:=hq
   by_cases e:q=t
   ·subst e
    have e2:(ids++[n+15]).getD q 0=n+15:=by rw[List.getD,List.getElem?_append_right (by omega),hil,Nat.sub_self];rfl
    dsimp only
    rw[e2,hnx3];exact⟨_,bu⟩
   ·obtain⟨d,hd⟩:=hls q (by omega)
    have e2:(ids++[n+15]).getD q 0=ids.getD q 0:=by simp[List.getD,List.getElem?_append,show q<ids.length by omega]
    have:=hin _ (eE (l:=ids) (q:=q) (by omega))
    dsimp only
    rw[e2];exact⟨d,Eq.trans cE hd⟩
 ·obtain rfl:t=u.bw.length:=by omega
  rw[List.take_of_length_le (by omega)] at r3' r4
  refine cP ?_
  rw[List.length_map]
  refine aF (fun j:Nat=>[(1, .pt 0 1 0 0),(2, .pt 1 1 0 0),(7, .pt 15 1 0 0),(46,cF u.shared),(47,i64 u.shared.length),(48,i64 j)])
   (fun j H n=>j<=u.shared.length/\26<=n/\(∀x∈ids,26<=x/\x<n)/\(∃d,bt H 0=some (.row 25 3 d [u.av]))/\(∃d,bt H 1=some (.row 96 8 d [gO true [.slice none 0 0, .slice none 0 0, .slice none 0 0, .slice none 0 0, .slice none 0 0, .slice none 0 0, .slice none 0 0, .slice none 0 0]]))/\(∃d,bt H 15=some (.row 96 8 d [.agg [cF u.shared,cF u.cB,cZ u.bw, .sl 21 u.bw.length, .sl 22 u.bw.length, .sl 23 j, .sl 24 0, .sl 25 0]]))/\(∃d,bt H 21=some (.row 3 1 d ((cz u).at_.map i64)))/\(∃d,bt H 22=some (.row 93 1 d (dR ids (cz u).bz)))/\(∃d,bt H 23=some (.row 2 1 d (((cz u).mem.take j).map i64)))/\(∃d,bt H 24=some (.row 3 1 d ([])))/\(∃d,bt H 25=some (.row 155 2 d []))/\(∀t,t<u.bw.length->∃d,bt H (ids.getD t 0)=some (.row 2 1 d (((cz u).bz.getD t []).map i64)))) (fun j=>u.shared.length - j) 0 cC
   ⟨Nat.zero_le _,cX,fun x hx=>⟨(hin x hx).1,Nat.lt_of_lt_of_le (hin x hx).2 cX⟩,⟨_,bu⟩,⟨_,bu⟩,⟨_,bu⟩,⟨_,bu⟩,⟨_,bu⟩,⟨_,bu⟩,⟨_,bu⟩,⟨_,bu⟩,fun q hq=>by
    obtain⟨d,hd⟩:=hls q hq
    have:=hin _ (eE (l:=ids) (q:=q) (by omega))
    exact⟨d,Eq.trans cE hd⟩⟩ ?_
  clear r0' r1' r2' r3' r4 r5 r6 r7 hls hin hn
  rintro j H n ⟨hj,hn,hin,⟨d0,r0'⟩,⟨d1,r1'⟩,⟨d2,r2'⟩,⟨d3,r3'⟩,⟨d4,r4⟩,⟨d5,r5⟩,⟨d6,r6⟩,⟨d7,r7⟩,hls⟩
  have hmk:(((cz u).mem.take j).map i64).length=j:=by simp;omega
  by_cases hjl:j<u.shared.length
  ·have e0:∀d,(u.shared.map Decl.av).getD ((j:Int)).toNat d=(u.shared.getD j default).av:=fun d=>by rw[Int.toNat_natCast];exact cx Decl.av u.shared j d hjl
   have a0:(u.shared.map Decl.av).length=u.shared.length:=by simp
   have hnx1:((cz u).mem.take (j+1)).map i64=((cz u).mem.take j).map i64++[i64 (u.shared.getD j default).word]:=by
    rw[List.take_succ_eq_append_getElem (by omega),List.map_append]
    simp[cz,List.getD,hjl]
   refine cP ?_
   exact⟨j+1,by omega,cC,by omega,cX,fun x hx=>⟨(hin x hx).1,Nat.lt_of_lt_of_le (hin x hx).2 cX⟩,⟨_,bu⟩,⟨_,bu⟩,⟨_,bu⟩,⟨_,bu⟩,⟨_,bu⟩,⟨_,by rw[hnx1];exact bu⟩,⟨_,bu⟩,⟨_,bu⟩,fun q hq=>by
    obtain⟨d,hd⟩:=hls q hq
    have:=hin _ (eE (l:=ids) (q:=q) (by omega))
    exact⟨d,Eq.trans cE hd⟩⟩
  ·obtain rfl:j=u.shared.length:=by omega
   rw[List.take_of_length_le (by omega)] at r5
   refine cP ?_
   rw[List.length_map]
   refine aF (fun j:Nat=>[(1, .pt 0 1 0 0),(2, .pt 1 1 0 0),(7, .pt 15 1 0 0),(62,i64 u.cB.length),(63,i64 j)])
    (fun j H n=>j<=u.cB.length/\26<=n/\(∀x∈ids,26<=x/\x<n)/\(∃d,bt H 0=some (.row 25 3 d [u.av]))/\(∃d,bt H 1=some (.row 96 8 d [gO true [.slice none 0 0, .slice none 0 0, .slice none 0 0, .slice none 0 0, .slice none 0 0, .slice none 0 0, .slice none 0 0, .slice none 0 0]]))/\(∃d,bt H 15=some (.row 96 8 d [.agg [cF u.shared,cF u.cB,cZ u.bw, .sl 21 u.bw.length, .sl 22 u.bw.length, .sl 23 u.shared.length, .sl 24 j, .sl 25 0]]))/\(∃d,bt H 21=some (.row 3 1 d ((cz u).at_.map i64)))/\(∃d,bt H 22=some (.row 93 1 d (dR ids (cz u).bz)))/\(∃d,bt H 23=some (.row 2 1 d ((cz u).mem.map i64)))/\(∃d,bt H 24=some (.row 3 1 d (((cz u).hold.take j).map i64)))/\(∃d,bt H 25=some (.row 155 2 d []))/\(∀t,t<u.bw.length->∃d,bt H (ids.getD t 0)=some (.row 2 1 d (((cz u).bz.getD t []).map i64)))) (fun j=>u.cB.length - j) 0 cC
    ⟨Nat.zero_le _,cX,fun x hx=>⟨(hin x hx).1,Nat.lt_of_lt_of_le (hin x hx).2 cX⟩,⟨_,bu⟩,⟨_,bu⟩,⟨_,bu⟩,⟨_,bu⟩,⟨_,bu⟩,⟨_,bu⟩,⟨_,bu⟩,⟨_,bu⟩,fun q hq=>by
     obtain⟨d,hd⟩:=hls q hq
     have:=hin _ (eE (l:=ids) (q:=q) (by omega))
     exact⟨d,Eq.trans cE hd⟩⟩ ?_
   clear r0' r1' r2' r3' r4 r5 r6 r7 hls hin hn hmk
   rintro j H n ⟨hj,hn,hin,⟨d0,r0'⟩,⟨d1,r1'⟩,⟨d2,r2'⟩,⟨d3,r3'⟩,⟨d4,r4⟩,⟨d5,r5⟩,⟨d6,r6⟩,⟨d7,r7⟩,hls⟩
   have hmk:(((cz u).hold.take j).map i64).length=j:=by simp;omega
   by_cases hjl:j<u.cB.length
   ·have hnx1:((cz u).hold.take (j+1)).map i64=((cz u).hold.take j).map i64++[i64 (-1)]:=by
     rw[List.take_succ_eq_append_getElem (by omega),List.map_append]
     simp[cz]
    refine cP ?_
    exact⟨j+1,by omega,cC,by omega,cX,fun x hx=>⟨(hin x hx).1,Nat.lt_of_lt_of_le (hin x hx).2 cX⟩,⟨_,bu⟩,⟨_,bu⟩,⟨_,bu⟩,⟨_,bu⟩,⟨_,bu⟩,⟨_,bu⟩,⟨_,by rw[hnx1];exact bu⟩,⟨_,bu⟩,fun q hq=>by
     obtain⟨d,hd⟩:=hls q hq
     have:=hin _ (eE (l:=ids) (q:=q) (by omega))
     exact⟨d,Eq.trans cE hd⟩⟩
   ·obtain rfl:j=u.cB.length:=by omega
    rw[List.take_of_length_le (by omega)] at r6
    refine cP ?_
    refine⟨?_⟩
    have hN:R3 u (cz u) 15 21 22 23 24 25 ids H:=by
     refine⟨⟨d2, ?_⟩,⟨_,r3'⟩,⟨_,r4⟩,fun t ht=>hls t (by rw[<-hnsl];exact ht),⟨_,r5⟩,⟨_,r6⟩,⟨_,r7⟩,by rw[hnsl];exact hil, ?_⟩
     ·rw[r2'];simp[MS.rows,cz]
     ·have hno:∀k,k<26->k∉ids:=fun k hk h=>by have:=hin _ h;omega
      simp only[List.nodup_cons,List.mem_cons,not_or]
      exact⟨⟨by omega,by omega,by omega,by omega,by omega,hno _ (by omega)⟩,⟨by omega,by omega,by omega,by omega,hno _ (by omega)⟩,⟨by omega,by omega,by omega,hno _ (by omega)⟩,⟨by omega,by omega,hno _ (by omega)⟩,⟨by omega,hno _ (by omega)⟩,hno _ (by omega),hnd⟩
    have hN1:ML.Nt ⟨15,21,22,23,24,25,ids⟩ u (cz u) H:=hN
    have hN2:ML.Nt ⟨15,21,22,23,24,25,ids⟩ u (cz u) ((1,some (.row 96 8 d1 [(cz u).rows u 21 22 23 24 25]))::H):=hN1.cc fun y hy=>by
     refine cN ?_
     rcases List.mem_cons.1 hy with rfl|hy
     ·show 15≠1;omega
     simp only[List.mem_cons] at hy
     rcases hy with rfl|rfl|rfl|rfl|rfl|hy
     all_goals first
      |(intro h;exact absurd h (by decide))
      |(have:=hin _ hy;omega)
    have hf:=hN2.QG 2
    have hrows:(cz u).rows u 21 22 23 24 25= .agg [cF u.shared,cF u.cB,cZ u.bw, .sl 21 u.bw.length, .sl 22 u.bw.length, .sl 23 u.shared.length, .sl 24 u.cB.length, .sl 25 0]:=by simp[MS.rows,cz]
    rw[hrows] at hf
    show AV.dI [cw.dY ((1,some (.row 96 8 d1 [.agg [cF u.shared,cF u.cB,cZ u.bw, .sl 21 u.bw.length, .sl 22 u.bw.length, .sl 23 u.shared.length, .sl 24 u.cB.length, .sl 25 0]]))::H) 5 (.agg [cF u.shared,cF u.cB,cZ u.bw, .sl 21 u.bw.length, .sl 22 u.bw.length, .sl 23 u.shared.length, .sl 24 u.cB.length, .sl 25 0]),i64 0]=_
    rw[hf]
end Go.Proofs.YtjopoheligmmoaaGreatDoor
