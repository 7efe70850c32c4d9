import Derived.Test.YtjopoheligmmoaaGreatDoorM39
import Derived.Test.YtjopoheligmmoaaGreatDoorM37
import Derived.Test.YtjopoheligmmoaaGreatDoorM40
import Derived.Test.YtjopoheligmmoaaGreatDoorM35
import Derived.Test.YtjopoheligmmoaaGreatDoorM30
import Derived.Test.YtjopoheligmmoaaGreatDoorM33
import Derived.Test.YtjopoheligmmoaaGreatDoorM25
namespace Go.cp
open Go.RowKit
set_option linter.unusedSimpArgs false
set_option linter.unusedVariables false
theorem cO.rt {P:Program} {f:FuncId} {args:List AV} {H:Hp} {nx:Nat} {R R2:AV->Hp->Nat->Prop} (h:cO P f args H nx R) (hR:∀r H' n,R r H' n->∃fr2 H2 n2,Rt [(0,r)] H' n fr2 H2 n2/\R2 (cc fr2 0) H2 n2):cO P f args H nx R2:=by
 refine⟨h.1,fun w0 c vs a1 a2 a3 a4=>(h.2 w0 c vs a1 a2 a3 a4).mono ?_⟩
 rintro e w' ⟨v,r,H',nx',ρ,U,rfl,hRr,hU,hS,hle,hv⟩
 obtain⟨fr2,H2,n2,hw,hR2⟩:=hR r H' nx' hRr
 have hh:Holds w0 c.M0 ⟨ρ,bw H',U,w',c.M0⟩ nx' 1 [(0,r)] H' nx' ⟨#[v],[]⟩ w':=by
  refine⟨rfl,rfl,ρ,U,hU,hS,fun t=> ?_,⟨hU,Cx.le.refl _⟩⟩
  by_cases ht:t=0
  ·subst ht;exact hv
  ·have:cc [(0,r)] t= .any:=by simp[cc,ht]
   rw[this];exact dN.any _ _ _ _ (by rw[VR];trivial)
 obtain⟨_,_,ρ2,U2,k1,k2,k3,k4⟩:=hw _ _ _ _ _ _ _ hh
 exact⟨v,_,H2,n2,ρ2,U2,rfl,hR2,k1,k2,hle.trans k4.2,k3 0⟩
theorem cO.LD {P:Program} {f:FuncId} {args:List AV} {e:TypeId} {sz:Nat} {es cs:List AV} (pc:kI cs) (h:cO P f args [] 0 (fun r1 H1 _=>∃b d0,r1= .dO (.sl b es.length::cs)/\bw H1 b=some (.row e sz d0 es))) (hes:c8 0 es) (d:AV) {H:Hp} {id:Nat} (hfa:c8 0 args):
 jy P f args H id (fun r' H''=>r'= .dO (.sl id es.length::cs)/\H''=dH H (some (id, .row e sz d es))):=by
 refine⟨h.1,fun w0 c vs hS hH hid hv=> ?_⟩
 have hS0:dY c.w ⟨fun _=>none,bw [],fun _=>False,c.w,c.M⟩:=⟨Below.refl _ _,hS.fit,fun b e sz d es he=>by simp[bw] at he,fun b b' k k' blk o z o' z' hk=>by simp[bw] at hk⟩
 have hv':cg ⟨fun _=>none,bw [],fun _=>False,c.w,c.M⟩ args vs:=cg.mK (fun _ h=>h) hfa hv
 refine(h.2 c.w _ vs hS0 rfl (fun _ h=>h.elim) hv').mono ?_
 rintro en w' ⟨v,r1,H1,nx',ρ,U,he,⟨b,d0,rfl,hb⟩,hU,hS',_,hvr⟩
 rw[VR] at hvr
 obtain⟨us,hus,hvr⟩:=hvr
 rw[cg] at hvr
 obtain⟨x,v3,hx3,hvr,hv3⟩:=hvr
 have fin:∀c2:Cx,VR c2 (.sl id es.length) x->VR c2 (.dO (.sl id es.length::cs)) v:=fun c2 h2=>by
  rw[VR]
  refine⟨us,hus, ?_⟩
  rw[hx3,cg]
  exact⟨x,v3,rfl,h2,mV pc hv3⟩
 rw[VR] at hvr
 obtain⟨_,ad,cap,hvv,hrr⟩:=hvr
 obtain⟨_,hr2⟩:=hrr _ _ _ _ hb
 have hr3:=hr2 rfl
 obtain⟨_,hz,hor⟩:=hS'.jU b _ _ _ _ hb (sh hr3)
 have hbel:=hS'.below
 obtain⟨s1,s2⟩:=hS.world hbel
 have hHeq:bw (dH H (some (id, .row e sz d es)))=eo c.H id (some (.row e sz d es)):=by rw[dV,hH]
 rcases hor with⟨h0,hes0⟩|⟨blk,o,z,hρ,hlow,⟨arr,harr,hsz⟩,hlz,hrow⟩
 ·subst hes0
  obtain⟨p1,p2⟩:=s1.E7 (b:=id) (e:=e) (sz:=sz) d hz hid
  refine⟨v,_,_,eo c.ρ id none,he,⟨rfl,rfl⟩, ?_, ?_,fin _ ?_⟩
  ·rw[hHeq];exact p1
  ·rw[hHeq];exact s2.trans p2
  ·rw[hHeq,VR]
   refine⟨.inr rfl,ad,cap,hvv,fun e' sz' d' es' he'=> ?_⟩
   simp only[iP,dI,Option.some.injEq,e8.row.injEq] at he'
   obtain⟨rfl,rfl,rfl,rfl⟩:=he'
   refine⟨Nat.le_refl _,fun _=> .inl ⟨by simp[iP], ?_⟩⟩
   rcases hr3 with⟨_,h2,h3⟩|⟨blk,o,z,h2,_⟩
   ·exact⟨h2,h3⟩
   ·rw[h0] at h2;cases h2
 ·obtain⟨p1,p2⟩:=hS.ow (b:=id) (e:=e) (sz:=sz) d (es:=es) (w':=w') (blk:=blk) (o:=o) (z:=z) hz (.inl hid) (.inl hlow) hbel.os hbel.tape hbel.output hbel.size (fun k hk _=>hbel.block k hk) harr hsz hlz (fun hle i hi=>by
   obtain⟨y,x1,x2⟩:=de hrow i hi
   refine⟨y,x1, ?_⟩
   refine VR.gB (n:=0) ?_ ?_ x2
   ·refine⟨fun b hb=>absurd hb (Nat.not_lt_zero _),fun q hq _=>⟨rfl,fun hm=>hq ?_⟩,fun b hb=>absurd hb (Nat.not_lt_zero _)⟩
    rcases hm with hm|⟨b',k',o',z',h1,h2⟩
    ·exact Or.inl (show c.M q from Or.inl hm)
    ·dsimp only at h1 h2
     by_cases e:b'=id
     ·subst e
      rw[dI] at h2
      cases h2
      exact Or.inr ⟨b,_,_,_,hb,hρ⟩
     ·simp only[eo,if_neg e] at h1 h2
      exact Or.inl (show c.M q from Or.inr ⟨b',k',o',z',h1,h2⟩)
   ·have hx4:es.getD i .any=es[i]:=by simp[List.getD,hi]
    rw[hx4]
    exact oM hes _ (List.getElem_mem hi))
  refine⟨v,_,_,eo c.ρ id (some (blk,o,z)),he,⟨rfl,rfl⟩, ?_, ?_,fin _ ?_⟩
  ·rw[hHeq];exact p1
  ·rw[hHeq];exact p2
  ·rw[hHeq,VR]
   refine⟨.inr rfl,ad,cap,hvv,fun e' sz' d' es' he'=> ?_⟩
   simp only[iP,dI,Option.some.injEq,e8.row.injEq] at he'
   obtain⟨rfl,rfl,rfl,rfl⟩:=he'
   refine⟨by omega,fun _=> .inr ⟨blk,o,z,by simp[iP], ?_⟩⟩
   rcases hr3 with⟨h2,_,_⟩|⟨blk',o',z',h2,h3,h4,h5,h6⟩
   ·rw[hρ] at h2;cases h2
   ·rw[hρ] at h2;cases h2
    exact⟨h3,h4,h5,h6⟩
theorem cO.HU {P:Program} {f:FuncId} {args:List AV} {e:TypeId} {sz:Nat} {es cs:List AV} (pc:kI cs) (h:cO P f args [] 0 (fun r1 H1 _=>∃b d0,r1= .dO (.sl b es.length::cs)/\bw H1 b=some (.row e sz d0 es))) (hes:c8 0 es) (hfa:c8 0 args) {H:Hp} {nx:Nat}:
 cO P f args H nx (fun r H' n=>r= .dO (.sl nx es.length::cs)/\H'=(nx,some (.row e sz .any es))::H/\n=nx+1):=
 (jy.VZ (h.LD pc hes .any hfa)).mono fun r H' n ⟨⟨h1,h2⟩,h3⟩=>⟨h1,h2,h3⟩
end Go.cp
namespace Go.Proofs.YtjopoheligmmoaaGreatDoor
open Go Go.cp Go.Proofs
set_option linter.unusedSimpArgs false
set_option linter.unusedVariables false
set_option maxRecDepth 8000
set_option maxHeartbeats 4000000 in
theorem wy (o:Nat) (l:List cn) (hl:l.length<=65536) (hok:∀e∈l,e.cQ.length<9223372036854775807/\e.mem.length<9223372036854775807) (H:Hp) (nx:Nat) (ho:o<nx) (hr:∃d,bw H o=some (.row 105 3 d (l.map cn.av))):
 cO Tryz.prog 97 [.sl o l.length, .fn (.func 98) [] []] H nx (fun r H' n=>nx<=n/\(∀y,y<nx->y≠o->bw H' y=bw H y)/\(r= .sl o l.length/\(kn l l.length).length=l.length/\(∃d,bw H' o=some (.row 105 3 d ((kn l l.length).map cn.av)))\/∃es:List AV,r= .sv o l.length 0 (kn l l.length).length/\es.length=l.length/\(kn l l.length).length<=l.length/\es.take (kn l l.length).length=(kn l l.length).map cn.av/\∃d,bw H' o=some (.row 105 3 d es))):=by
 obtain⟨d0,r0'⟩:=hr
 have a0:(l.map cn.av).length=l.length:=by simp
 have same:∀i j,i<l.length->j<l.length->Pure Tryz.prog 98 [(l.getD i default).av,(l.getD j default).av] (fun r=>r=bl (decide (l.getD i default=l.getD j default))):=fun i j hi hj=>by
  obtain⟨p1,p2⟩:=hok _ (cS default hi)
  have:=np (l.getD i default) (l.getD j default) p1 p2
  simpa only[pX] using this
 refine aJ S7 rfl ?_
 by_cases h2:l.length<2
 ·refine cV ?_
  have:kn l l.length=l:=by
   match l,h2 with
   |[],_=>rfl
   |[x],_=>rfl
  rw[this]
  exact⟨⟨ca,fun y y1 y2=>cB, .inl ⟨rfl,rfl,d0,cA⟩⟩⟩
 ·refine cV ?_
  refine aL (fun i:Nat=>[(0, .sl o l.length),(1, .fn (.func 98) [] []),(5,i64 i)]) (fun i H2 n=>1<=i/\i<=l.length/\nx<=n/\bw H2 o=some (.row 105 3 d0 (l.map cn.av))/\kn l i=l.take i/\∀y,y<nx->y≠o->bw H2 y=bw H y) (fun i=>l.length - i) 1 cI ⟨Nat.le_refl _,by omega,ca,cA,by rw[kn];cases l with|nil=>simp at h2|cons x t=>rfl,fun y y1 y2=>cB⟩ ?_
  clear r0'
  rintro i H2 n ⟨hi1,hi,hn,r0',hdd,hkp⟩
  by_cases hil:i<l.length
  ·have e0:∀d,(l.map cn.av).getD ((i:Int)).toNat d=(l.getD i default).av:=fun d=>by rw[Int.toNat_natCast];exact gY hil d
   have e1:∀d,(l.map cn.av).getD ((i:Int) - 1).toNat d=(l.getD (i - 1) default).av:=fun d=>by rw[show((i:Int) - 1).toNat=i - 1 by omega];exact gY (by omega) d
   have c0:=same i (i - 1) hil (by omega)
   have hsu:=oJ l hi1
   by_cases he:l.getD i default=l.getD (i - 1) default
   ·rw[decide_eq_true he] at c0
    rw[if_pos he] at hsu
    refine cV ?_
    refine aL (fun σ:Nat×Nat×List cn=>[(0, .sl o l.length),(1, .fn (.func 98) [] []),(5,i64 σ.1),(6, .sv o l.length i (l.length - i)),(7,i64 σ.2.1)])
     (fun σ H2 n=>1<=σ.2.1/\i+σ.2.1<=l.length/\i<=σ.1/\σ.1+1<=i+σ.2.1/\σ.2.2.length=l.length/\(∀q,σ.1<=q->σ.2.2.getD q default=l.getD q default)/\σ.2.2.take σ.1=kn l (i+σ.2.1)/\nx<=n/\(∃d,bw H2 o=some (.row 105 3 d (σ.2.2.map cn.av)))/\∀y,y<nx->y≠o->bw H2 y=bw H y) (fun σ=>l.length - σ.2.1) (i,1,l) cI
     ⟨Nat.le_refl _,by show i+1<=l.length;omega,Nat.le_refl _,Nat.le_refl _,rfl,fun _ _=>rfl,by dsimp only;rw[hsu,hdd],ca,⟨_,cA⟩,fun y y1 y2=>Eq.trans cB (hkp y y1 y2)⟩ ?_
    clear c0 e0 e1 hsu hdd r0' hn hkp
    rintro⟨k,j,es⟩ H3 n ⟨hj1,hj,hik,hkj,hel,hsame,hdd,hn,⟨d1,r1'⟩,hkp⟩
    dsimp only at hj1 hj hik hkj hel hsame hdd r1' ⊢
    have a1:(es.map cn.av).length=l.length:=by simp[hel]
    by_cases hjl:j<l.length - i
    ·have e0:∀d,(es.map cn.av).getD (i+((j:Int)).toNat) d=(l.getD (i+j) default).av:=fun d=>by rw[Int.toNat_natCast,gY (by omega) d,hsame _ (by omega)]
     have e1:∀d,(es.map cn.av).getD (i+((j:Int) - 1).toNat) d=(l.getD (i+j - 1) default).av:=fun d=>by rw[show i+((j:Int) - 1).toNat=i+j - 1 by omega,gY (by omega) d,hsame _ (by omega)]
     have e2:∀d,(es.map cn.av).getD ((k:Int)).toNat d=(es.getD k default).av:=fun d=>by rw[Int.toNat_natCast];exact gY (by omega) d
     have c0:=same (i+j) (i+j - 1) (by omega) (by omega)
     have hsu:=oJ l (k:=i+j) (by omega)
     by_cases he2:l.getD (i+j) default=l.getD (i+j - 1) default
     ·rw[decide_eq_true he2] at c0
      rw[if_pos he2] at hsu
      refine cV ?_
      exact⟨(k,j+1,es),by dsimp only;omega,cI,by dsimp only;omega,by dsimp only;omega,hik,by dsimp only;omega,hel,hsame,by dsimp only;rw[<-Nat.add_assoc,hsu];exact hdd,ca,⟨d1,cA⟩,fun y y1 y2=>Eq.trans cB (hkp y y1 y2)⟩
     ·rw[decide_eq_false he2] at c0
      rw[if_neg he2] at hsu
      refine cV ?_
      refine⟨(k+1,j+1,es.set k (l.getD (i+j) default)),by dsimp only;omega,cI,by dsimp only;omega,by dsimp only;omega,by dsimp only;omega,by dsimp only;omega,by simp[hel],fun q hq=> ?_, ?_,ca,⟨d1,by dsimp only;rw[List.map_set];exact cA⟩,fun y y1 y2=>Eq.trans cB (hkp y y1 y2)⟩
      ·have hq:k+1<=q:=hq
       dsimp only
       rw[getD_set_ne (by omega)];exact hsame q (by omega)
      ·dsimp only
       rw[<-Nat.add_assoc,hsu,jw (by omega),hdd]
    ·obtain rfl:j=l.length - i:=by omega
     rw[show i+(l.length - i)=l.length by omega] at hdd
     refine cV ?_
     rw[Int.toNat_natCast]
     have hkl:k<=l.length:=by omega
     have hkd:(kn l l.length).length=k:=by rw[<-hdd,List.length_take,hel];omega
     generalize hZ:List.replicate (l.length - k) (gN true [Value.slice none 0 0,Value.slice none 0 0,Value.bool false])=Z
     have hZl:Z.length=l.length - k:=by rw[<-hZ];simp
     rw[hkd]
     refine⟨⟨ca,fun y y1 y2=>Eq.trans cB (hkp y y1 y2), .inr ⟨(es.map cn.av).take k++Z++(es.map cn.av).drop (k+(l.length - k)),rfl, ?_,hkl, ?_,d1,cA⟩⟩⟩
     ·simp[hZl,hel];omega
     ·rw[List.append_assoc,List.take_append_of_le_length (by simp;omega),List.take_take,Nat.min_self,<-List.map_take,hdd]
   ·rw[decide_eq_false he] at c0
    rw[if_neg he] at hsu
    refine cV ?_
    refine⟨i+1,by omega,cI,by omega,by omega,ca,cA, ?_,fun y y1 y2=>Eq.trans cB (hkp y y1 y2)⟩
    rw[hsu,hdd,List.take_succ_eq_append_getElem hil,show l.getD i default=l[i] by simp[List.getD,hil]]
  ·obtain rfl:i=l.length:=by omega
   rw[List.take_length] at hdd
   refine cV ?_
   rw[hdd]
   exact⟨⟨ca,fun y y1 y2=>Eq.trans cB (hkp y y1 y2), .inl ⟨rfl,rfl,d0,cA⟩⟩⟩
theorem tK (o:Nat) (l:List cn) (hl:l.length<=65536) (hok:∀e∈l,e.cQ.length<9223372036854775807/\e.mem.length<9223372036854775807) (H:Hp) (nx:Nat) (ho:o<nx) (hr:∃d,bw H o=some (.row 105 3 d (l.map cn.av))):
 cO Tryz.prog 97 [.sl o l.length, .fn (.func 98) [] []] H nx (fun r H' n=>∃b,r= .sl b (kn l l.length).length/\(b=o\/nx<=b)/\b<n/\nx<=n/\(∃d,bw H' b=some (.row 105 3 d ((kn l l.length).map cn.av)))/\∀y,y<nx->y≠o->bw H' y=bw H y):=by
 refine(wy o l hl hok H nx ho hr).rt ?_
 rintro r H' n ⟨hn,hk,⟨rfl,h1,h2⟩|⟨es,rfl,h1,h2,h3,d,h4⟩⟩
 ·exact⟨_,H',n,Rt.refl _ _ _,o,by rw[h1];rfl, .inl rfl,by omega,hn,h2,hk⟩
 ·refine⟨_,_,n+1,Rt.part 0 rfl h4 h1 (by omega),n,rfl, .inr hn,by omega,by omega,⟨.any, ?_⟩,fun y y1 y2=> ?_⟩
  ·rw[List.drop_zero,h3];exact ct _ _ _
  ·exact(cZ (by omega)).trans ((cZ y2).trans (hk y y1 y2))
set_option maxHeartbeats 2000000 in
theorem DL (u:bx) (hu:u.Wf) (most:Int) (h0:(eH u most).1=0):cO Tryz.prog 54 [u.av,i64 most] [] 0 (fun r H n=>∃b d,r= .dO [.sl b (gu u (eH u most).2).length,i64 0]/\bw H b=some (.row 105 3 d ((gu u (eH u most).2).map cn.av))):=by
 refine aJ S3 rfl ?_
 by_cases hr:cW u
 ·by_cases hm:1<=most/\most<=65536
  ·rw[oD hr hm] at h0 ⊢
   refine cV ?_
   let l:=(gU u most.toNat).getD []
   let I:Nat->Hp->Prop:=fun k H=>(∃d,bw H 0=some (.row 25 3 d [u.av]))/\(∃d,bw H 3=some (.row 41 1 d [.sl 7 (dU u l k).length]))/\(∃d,bw H 7=some (.row 105 3 d ((dU u l k).map cn.av)))
   refine aI (R:=fun r H n=>8<=n/\wR u most I r H) (G1 (b:=3) 105 3 (by omega) (by omega) (d:=gN false [.slice none 0 0]) (te:=41) ?_ fun H2 q1 q2 q3=> ?_) ?_
   ·exact cA
   ·refine(rC u hu hr most hm _ [.pt 0 1 0 0, .pt 3 1 0 0] H2 8 I ?_ ?_ ?_).mono fun r H n h=>⟨h.1,h.short⟩
    ·exact⟨⟨_,(q3 0 (by omega) (by omega)).trans cA⟩,⟨_,q1⟩,⟨_,q2⟩⟩
    ·rintro k H H' ⟨⟨d0,p0⟩,⟨d1,p1⟩,⟨d2,p2⟩⟩ hk
     exact⟨⟨d0,(hk 0 (by omega)).trans p0⟩,⟨d1,(hk 3 (by omega)).trans p1⟩,⟨d2,(hk 7 (by omega)).trans p2⟩⟩
    ·intro l' hl' k H n hk hn ⟨p0,p1,p2⟩
     have hll:l=l':=by show(gU u most.toNat).getD []=l';rw[hl'];rfl
     rw[hll] at p1 p2
     obtain⟨hf,hlm,_⟩:=kd hu hr (by omega) hl'
     refine(B5 hr hf (by omega) hk (ub:=0) (ob:=3) (o:=7) (by omega) (by omega) (by omega) (by omega) p0 p1 p2).mono ?_
     rintro _ H' n' ⟨s1,s2,s3,s4⟩
     obtain⟨d0,p0⟩:=p0
     refine⟨⟨⟨d0,(s4 0 (by omega) (by omega) (by omega)).trans p0⟩, ?_, ?_⟩,s3,fun y y1 y2=>s4 y y2 (by omega) (by omega)⟩
     ·rw[hll];exact s1
     ·rw[hll];exact s2
   rintro r H' n' ⟨hn,hA⟩
   revert hA
   unfold wR
   cases hs:gU u most.toNat with
   |none=>rw[hs] at h0;cases h0
   |some l'=>
    rintro⟨rfl,⟨d0,p0⟩,⟨d1,p1⟩,p2⟩
    have hll:l=l':=by show(gU u most.toNat).getD []=l';rw[hs];rfl
    rw[hll] at p1 p2
    obtain⟨hf,hlm,_⟩:=kd hu hr (by omega) hs
    have hin:=uD hr hf (by omega) l'.length
    have hlen:=kr u l' l'.length
    refine cV ?_
    refine aI (uk 7 (dU u l' l'.length) hin (by omega) _ _ p2 ca) ?_
    rintro r H3 n3 ⟨⟨d5,r5⟩,hn3,hk3⟩
    have r6:=(hk3 3 ca (by omega)).trans p1
    have hsl:(fe ft (dU u l' l'.length)).length=(dU u l' l'.length).length:=my _ _
    refine cV ?_
    rw[<-hsl]
    refine aI (tK 7 (fe ft (dU u l' l'.length)) (by omega) (fun e he=>hin e ((lH _ _).mem_iff.1 he)) _ _ ca ⟨d5,r5⟩) ?_
    rintro r H4 n4 ⟨b,rfl,hb,hbn,hn4,⟨d6,r6⟩,hk4⟩
    refine cV ?_
    dsimp only
    have hE:gu u l'=kn (fe ft (dU u l' l'.length)) (fe ft (dU u l' l'.length)).length:=by rw[hsl];rfl
    rw[hE]
    exact⟨⟨b,d6,rfl,cA⟩⟩
  ·rw[kb hr hm] at h0;cases h0
 ·rw[oC hr] at h0;cases h0
def tO (f:cn->Bool):List cn->Nat->Int
 |[],_=>-1
 |e::l,k=>if f e=true then k else tO f l (k+1)
theorem sJ (f:cn->Bool):∀(l:List cn) (k:Nat),tO f l k=-1/\(∀x∈l,f x=false)\/∃i:Nat,tO f l k=(k+i:Nat)/\i<l.length/\(∀x∈l.take i,f x=false)/\f (l.getD i default)=true
 |[],k=> .inl ⟨rfl,fun x hx=>by cases hx⟩
 |e::l,k=>by
  rw[tO]
  split
  ·rename_i h
   exact .inr ⟨0,rfl,by simp,by simp,h⟩
  ·rename_i h
   simp only[Bool.not_eq_true] at h
   rcases sJ f l (k+1) with⟨h1,h2⟩|⟨i,h1,h2,h3,h4⟩
   ·refine .inl ⟨h1,fun x hx=> ?_⟩
    rcases List.mem_cons.1 hx with rfl|hx
    ·exact h
    ·exact h2 x hx
   ·refine .inr ⟨i+1,by rw[h1];congr 1;omega,by simpa using h2,fun x hx=> ?_,h4⟩
    rw[List.take_succ_cons] at hx
    rcases List.mem_cons.1 hx with rfl|hx
    ·exact h
    ·exact h3 x hx
theorem EG (f:cn->Bool) {l:List cn} {i:Nat} (h:i<l.length) (k:Nat):tO f (l.drop i) k=if f (l.getD i default)=true then(k:Int) else tO f (l.drop (i+1)) (k+1):=by
 rw[List.drop_eq_getElem_cons h,tO,show l.getD i default=l[i] by simp[List.getD,h]]
theorem pE (e:cn):Pure Tryz.prog 56 [e.av] (fun r=>r=bl e.ended):=by
 refine aG U5 rfl ?_
 refine cV ?_
 first|exact rfl|trivial
theorem x9 (l:List cn) (hl:l.length<=65536):Pure Tryz.prog 99 [iN l, .fn (.func 56) [] []] (fun r=>r=i64 (tO cn.ended l 0)):=by
 refine aG VQ rfl ?_
 refine cV ?_
 rw[List.length_map]
 refine aL (fun i:Nat=>[(0,iN l),(1, .fn (.func 56) [] []),(7,i64 l.length),(8,i64 i)])
  (fun i H2 n=>i<=l.length/\tO cn.ended (l.drop i) i=tO cn.ended l 0) (fun i=>l.length - i) 0
  cI ⟨Nat.zero_le _,rfl⟩ ?_
 rintro i H2 n ⟨hi,hix⟩
 have a0:(l.map cn.av).length=l.length:=List.length_map _
 by_cases hil:i<l.length
 ·have e0:∀d,(l.map cn.av).getD ((i:Int)).toNat d=(l.getD i default).av:=fun d=>by rw[Int.toNat_natCast];exact gY hil d
  rw[EG _ hil] at hix
  have c0:=pE (l.getD i default)
  generalize l.getD i default=x at *
  cases hx:x.ended with
  |true=>
   rw[hx] at c0
   rw[if_pos hx] at hix
   rw[<-hix]
   refine cV ?_
   first|exact rfl|trivial
  |false=>
   rw[hx] at c0
   rw[if_neg (by rw[hx];simp)] at hix
   refine cV ?_
   exact⟨i+1,by omega,cI,by omega,hix⟩
 ·obtain rfl:i=l.length:=by omega
  rw[List.drop_length] at hix
  rw[<-hix]
  refine cV ?_
  first|exact rfl|trivial
def lu (l:List cn):List cn:=l.filter fun e=> !e.ended
abbrev NH:AV:= .fn (.func 56) [] []
theorem zJ:Pure Tryz.prog 55 [.sc (.slice none 0 0),NH] (fun r=>r= .sc (.slice none 0 0)):=by
 have c0:Pure Tryz.prog 99 [.sc (.slice none 0 0),NH] (fun r=>r=i64 (-1)):=
  Pure.args (x9 [] (by decide)) fun c=> .cons (cp.dN.lU c c 3 .any) (.cons (fun _ h=>h) .nil)
 refine aG S4 rfl ?_
 refine cV ?_
 first|exact rfl|trivial
theorem FX {H:Hp} {b:Nat} {d:AV} {l:List cn} (h:bw H b=some (.row 105 3 d (l.map cn.av))):[AV.sl b l.length,NH].map (cp.dX H 6)=[iN l,NH]:=by
 show[cp.dX H 6 (.sl b l.length),cp.dX H 6 NH]=_
 rw[dZ (k:=5) h (by simp),cx _ (gZ l),dj _ (show cK 0 NH by simp[cK,c8])]
set_option maxHeartbeats 4000000 in
theorem xB {l:List cn} (hl:l.length<=65536) {b:Nat} {H:Hp} {nx:Nat} (hb:∃d,bw H b=some (.row 105 3 d (l.map cn.av))) (hlt:b<nx):
 cO Tryz.prog 55 [.sl b l.length,NH] H nx (fun r H' n=>cp.dX H' 5 r=iN (lu l)/\∃b m,r= .sl b m\/∃q,r= .sv b m 0 q):=by
 obtain⟨d0,r0'⟩:=hb
 have a0:(l.map cn.av).length=l.length:=List.length_map _
 have pc:=sJ cn.ended l 0
 refine aJ S4 rfl ?_
 refine cV ?_
 refine aS (x9 l hl) (FX (d:=d0) cA) (by simp only[c8,cK];exact⟨gZ l,⟨trivial,trivial⟩,trivial⟩) (by simp[fT]) ?_
 rcases pc with⟨h1,h2⟩|⟨i,h1,hil,h2,h3⟩
 ·rw[h1]
  refine cV ?_
  refine⟨?_,_,_, .inl rfl⟩
  have:lu l=l:=by
   unfold lu
   rw[List.filter_eq_self]
   intro e he
   rw[h2 e he];rfl
  rw[this]
  show cp.dX _ 5 (.sl b l.length)=_
  rw[dZ (k:=4) cA a0,cx _ (gZ l)]
 ·rw[h1,Nat.zero_add]
  have hst:(l.take (i+1)).filter (fun e=> !e.ended)=l.take i:=by
   rw[List.take_succ_eq_append_getElem hil,List.filter_append]
   have e1:(l.take i).filter (fun e=> !e.ended)=l.take i:=by
    rw[List.filter_eq_self]
    intro e he
    rw[h2 e he];rfl
   have e2:l[i]=l.getD i default:=by simp[List.getD,hil]
   rw[e1,e2,List.filter_cons,h3]
   simp
  refine cV ?_
  refine aL (fun σ:Nat×Nat×List cn=>[(0, .sl b l.length),(1,NH),(5,i64 σ.1),(6,i64 σ.2.1)])
   (fun σ H2 n=>σ.1+1<=σ.2.1/\σ.2.1<=l.length/\σ.2.2.length=l.length/\(∀q,σ.2.1<=q->σ.2.2.getD q default=l.getD q default)/\σ.2.2.take σ.1=(l.take σ.2.1).filter (fun e=> !e.ended)/\nx<=n/\(∃d,bw H2 b=some (.row 105 3 d (σ.2.2.map cn.av)))) (fun σ=>l.length - σ.2.1) (i,i+1,l)
   cI ⟨Nat.le_refl _,by show i+1<=l.length;omega,rfl,fun _ _=>rfl,hst.symm,ca,⟨_,cA⟩⟩ ?_
  clear r0' hst h1 h2 h3
  rintro⟨k,j,es⟩ H3 n ⟨hkj,hj,hel,hsame,hdd,hn,⟨d0,r0'⟩⟩
  dsimp only at hkj hj hel hsame hdd r0' ⊢
  have a1:(es.map cn.av).length=l.length:=by simp[hel]
  by_cases hjl:j<l.length
  ·have e0:∀d,(es.map cn.av).getD ((j:Int)).toNat d=(l.getD j default).av:=fun d=>by rw[Int.toNat_natCast,gY (by omega) d,hsame _ (by omega)]
   have e2:∀d,(es.map cn.av).getD ((k:Int)).toNat d=(es.getD k default).av:=fun d=>by rw[Int.toNat_natCast];exact gY (by omega) d
   have hnx:(l.take (j+1)).filter (fun e=> !e.ended)=(l.take j).filter (fun e=> !e.ended)++(if(l.getD j default).ended=true then[] else[l.getD j default]):=by
    rw[List.take_succ_eq_append_getElem hjl,List.filter_append,show l.getD j default=l[j] by simp[List.getD,hjl]]
    congr 1
    rw[List.filter_cons]
    cases l[j].ended<;>rfl
   have c0:=pE (l.getD j default)
   generalize l.getD j default=x at *
   cases hx:x.ended with
   |true=>
    rw[hx] at c0
    rw[if_pos hx,List.append_nil] at hnx
    refine cV ?_
    exact⟨(k,j+1,es),by dsimp only;omega,cI,by dsimp only;omega,by dsimp only;omega,hel,fun q hq=>hsame q (by dsimp only at hq;omega),by dsimp only;rw[hnx];exact hdd,ca,⟨d0,cA⟩⟩
   |false=>
    rw[hx] at c0
    rw[if_neg (by rw[hx];simp)] at hnx
    refine cV ?_
    refine⟨(k+1,j+1,es.set k x),by dsimp only;omega,cI,by dsimp only;omega,by dsimp only;omega,by simp[hel],fun q hq=> ?_, ?_,ca,⟨d0,by dsimp only;rw[List.map_set];exact cA⟩⟩
    ·have hq:j+1<=q:=hq
     dsimp only
     rw[getD_set_ne (by omega)];exact hsame q (by omega)
    ·dsimp only
     rw[hnx,jw (by omega),hdd]
  ·obtain rfl:j=l.length:=by omega
   rw[List.take_length] at hdd
   refine cV ?_
   refine⟨?_,_,_, .inr ⟨_,rfl⟩⟩
   rw[Int.toNat_natCast]
   have hkl:k<=l.length:=by omega
   generalize hZ:List.replicate (l.length - k) (gN true [Value.slice none 0 0,Value.slice none 0 0,Value.bool false])=Z
   have hZl:Z.length=l.length - k:=by rw[<-hZ];simp
   have hr2:∀G:Hp,(∃d,bw G b=some (.row 105 3 d ((es.map cn.av).take k++Z++(es.map cn.av).drop (k+(l.length - k)))))->cp.dX G 5 (.sv b l.length 0 (k - 0))=iN (lu l):=by
    rintro G ⟨d,hG⟩
    rw[HV (k:=4) hG (by simp[hZl,hel];omega),List.drop_zero,Nat.sub_zero,List.append_assoc,List.take_append_of_le_length (by simp;omega),List.take_take,Nat.min_self,<-List.map_take,hdd,cx _ (gZ _)]
    rfl
   exact hr2 _ ⟨d0,cA⟩
noncomputable def fZ (u:bx) (most:Int):List cn:=if(eH u most).1=0 then lu (gu u (eH u most).2) else[]
theorem xD (u:bx) (l:List cX):(gu u l).length<=l.length:=Nat.le_trans (B2 _ _) (kr u l l.length)
theorem BT {u:bx} (hu:u.Wf) {most:Int} (h0:(eH u most).1=0):cW u/\(1<=most/\most<=65536)/\∃l,gU u most.toNat=some l/\(eH u most).2=l:=by
 by_cases hr:cW u
 ·by_cases hm:1<=most/\most<=65536
  ·rw[oD hr hm] at h0 ⊢
   cases hs:gU u most.toNat with
   |none=>rw[hs] at h0;cases h0
   |some l=>exact⟨hr,hm,l,rfl,rfl⟩
  ·rw[kb hr hm] at h0;cases h0
 ·rw[oC hr] at h0;cases h0
theorem BS {u:bx} (hu:u.Wf) {most:Int} (h0:(eH u most).1=0):(eH u most).2.length<=65536:=by
 obtain⟨hr,hm,l,hs,he⟩:=BT hu h0
 obtain⟨_,h2,_⟩:=kd hu hr (by omega) hs
 rw[he];omega
theorem CA (l:List cn) (e:Int):cK 0 (.dO [iN l,i64 e]):=by
 have:=gZ l
 simp[cK,c8,this]
set_option maxHeartbeats 1000000 in
theorem wL (u:bx) (hu:u.Wf) (most:Int):Pure Tryz.prog 23 [u.av,i64 most] (fun r=>r= .dO [iN (fZ u most),i64 (eH u most).1]):=by
 have key:Pure Tryz.prog 23 [u.av,i64 most] (fun r=>r=if(eH u most).1=0 then .dO [iN (lu (gu u (eH u most).2)),i64 0] else .dO [.sc (.slice none 0 0),i64 (eH u most).1]):=by
  by_cases h0:(eH u most).1=0
  ·rw[if_pos h0]
   have hll:=BS hu h0
   have hel:=xD u (eH u most).2
   have hen:=DL u hu most h0
   have hfe:=gZ (gu u (eH u most).2)
   generalize gu u (eH u most).2=es at *
   refine cm ?_ (CA _ _)
   refine aJ SY rfl ?_
   refine cV ?_
   refine aI (cO.HU (e:=105) (sz:=3) (es:=es.map cn.av) (cs:=[i64 0]) (by simp[kI]) (by rw[List.length_map];exact hen) hfe (by simp[cK,c8,cD])) ?_
   rintro _ H1 n1 ⟨rfl,rfl,rfl⟩
   rw[List.length_map]
   refine cV ?_
   refine aI (xB (b:=5) (l:=es) (by omega) ⟨.any, ?_⟩ ?_) ?_
   ·exact cA
   ·exact ca
   rintro r H2 n2 ⟨hfz,b,m,hform⟩
   rcases hform with rfl|⟨q,rfl⟩
   all_goals
    refine cV ?_
    refine⟨?_⟩
    show AV.dO [cp.dX _ 5 _,i64 0]=_
    exact congrArg (fun x=>AV.dO [x,i64 0]) hfz
  ·rw[if_neg h0]
   have c0:=DM u hu most
   unfold uB at c0
   rw[if_neg h0] at c0
   have c1:=zJ
   generalize (eH u most).1=er at *
   refine aG SY rfl ?_
   refine cV ?_
   first|exact rfl|trivial
 refine iC key (CA _ _) fun c=> ?_
 unfold fZ
 by_cases h0:(eH u most).1=0
 ·rw[if_pos h0,if_pos h0,h0];exact fun _ h=>h
 ·rw[if_neg h0,if_neg h0]
  exact dN.dO (.cons (dN.lU _ _ _ _) (.cons (fun _ h=>h) .nil))
theorem vZ (l:List cn):∀k,∀e∈kn l k,∃j,j<k/\e=l.getD j default
 |0,e,h=>by simp[kn] at h
 |1,e,h=>by simp only[kn,List.mem_cons,List.not_mem_nil,or_false] at h;exact⟨0,by omega,h⟩
 |k+2,e,h=>by
  rw[kn] at h
  split at h
  ·obtain⟨j,h1,h2⟩:=vZ l (k+1) e h
   exact⟨j,by omega,h2⟩
  ·rcases List.mem_append.1 h with h|h
   ·obtain⟨j,h1,h2⟩:=vZ l (k+1) e h
    exact⟨j,by omega,h2⟩
   ·simp only[List.mem_cons,List.not_mem_nil,or_false] at h
    exact⟨k+1,by omega,h⟩
theorem qj (l:List cn):∀k j,j<k->l.getD j default∈kn l k
 |0,j,h=>by omega
 |1,j,h=>by
  obtain rfl:j=0:=by omega
  simp[kn]
 |k+2,j,h=>by
  rw[kn]
  split
  ·rename_i e
   by_cases hj:j=k+1
   ·rw[hj,e];exact qj l (k+1) k (by omega)
   ·exact qj l (k+1) j (by omega)
  ·by_cases hj:j=k+1
   ·rw[hj];exact List.mem_append.2 (.inr (by simp))
   ·exact List.mem_append.2 (.inl (qj l (k+1) j (by omega)))
theorem wC {α:Type} {R:α->α->Prop} {l:List α} (h:l.Pairwise R) (d:α) {i j:Nat} (hi:i<j) (hj:j<l.length):R (l.getD i d) (l.getD j d):=by
 have:=List.pairwise_iff_getElem.1 h i j (by omega) hj hi
 simpa[List.getD,hj,show i<l.length by omega] using this
theorem nQ {l:List cn} (h:l.Pairwise fun x y=>u7 ft x y=true):∀k,k<=l.length->(kn l k).Pairwise fun x y=>ft x y<0
 |0,_=>by simp[kn]
 |1,_=>by simp[kn]
 |k+2,hk=>by
  rw[kn]
  split
  ·exact nQ h (k+1) (by omega)
  ·rename_i hne
   refine List.pairwise_append.2 ⟨nQ h (k+1) (by omega),by simp,fun a ha b hb=> ?_⟩
   simp only[List.mem_cons,List.not_mem_nil,or_false] at hb
   subst hb
   obtain⟨j,hj,rfl⟩:=vZ l _ a ha
   have h1:=wC h default (i:=j) (j:=k+1) (by omega) (by omega)
   have h2:u7 ft (l.getD j default) (l.getD k default)=true:=by
    by_cases e:j=k
    ·rw[e];simp[u7,(jZ.zero _ _).2 rfl]
    ·exact wC h default (by omega) (by omega)
   have h3:=wC h default (i:=k) (j:=k+1) (by omega) (by omega)
   have h4:ft (l.getD j default) (l.getD (k+1) default)≠0:=fun e=>by
    have e1:=(jZ.zero _ _).1 e
    rw[<-e1] at h3
    have:=jZ.CI h3 h2
    exact hne (by rw[this,<-e1])
   simp only[u7,decide_eq_true_eq] at h1
   omega
theorem zO {u:bx} {l:List cX} {e:cn}:e∈dU u l l.length↔∃i,i<l.length/\(l.getD i default).m.stuck u=true/\e=(l.getD i default).m.end_ u:=by
 unfold dU
 rw[List.take_length,List.mem_filterMap]
 constructor
 ·rintro⟨f,hf,he⟩
  obtain⟨i,hi,rfl⟩:=List.mem_iff_getElem.1 hf
  split at he
  ·rename_i hs
   cases he
   refine⟨i,hi, ?_⟩
   rw[show l.getD i default=l[i] by simp[List.getD,hi]]
   exact⟨hs,rfl⟩
  ·cases he
 ·rintro⟨i,hi,hs,rfl⟩
  refine⟨l.getD i default,cS default hi, ?_⟩
  rw[if_pos hs]
theorem uC {u:bx} {l:List cX} {e:cn}:e∈gu u l↔e∈dU u l l.length:=by
 have hp:=lH ft (dU u l l.length)
 unfold gu
 constructor
 ·intro h
  obtain⟨j,hj,rfl⟩:=vZ _ _ _ h
  exact hp.mem_iff.1 (cS default (by rw[hp.length_eq];exact hj))
 ·intro h
  obtain⟨j,hj,rfl⟩:=List.mem_iff_getElem.1 (hp.mem_iff.2 h)
  have:=qj (fe ft (dU u l l.length)) (dU u l l.length).length j (by rw[<-hp.length_eq];exact hj)
  rwa[show(fe ft (dU u l l.length)).getD j default=(fe ft (dU u l l.length))[j] by simp[List.getD,hj]] at this
theorem v8 (u:bx) (l:List cX):(gu u l).Pairwise fun x y=>ft x y<0:=by
 unfold gu
 refine nQ (jZ.sorted _) _ ?_
 rw[my]
 exact Nat.le_refl _
theorem EH {l l':List cX} (h:l<+:l') {k:List UInt8} (hk:k∈jL l):k∈jL l':=by
 obtain⟨t,rfl⟩:=h
 simp only[jL,List.map_append,List.mem_append]
 exact .inl hk
theorem HW {l l':List cX} (h:l<+:l') {k:Nat} (hk:k<l.length):l'.getD k default=l.getD k default:=by
 obtain⟨t,rfl⟩:=h
 simp[List.getD,List.getElem?_append,hk]
def BP (u:bx) (l:List cX) (k t:Nat):Prop:=(l.getD k default).m.kZ u t=0->gn ((l.getD k default).m.step u t).1∈jL l
theorem BP.pre {u:bx} {l l':List cX} {k t:Nat} (h:BP u l k t) (hk:k<l.length) (hp:l<+:l'):BP u l' k t:=by
 unfold BP at *
 rw[HW hp hk]
 exact fun hb=>EH hp (h hb)
end Go.Proofs.YtjopoheligmmoaaGreatDoor
namespace Go.Proofs.YtjopoheligmmoaaGreatDoor
open Go Go.cp Go.Proofs
open Go.Lib (decDigits itoa)
set_option linter.unusedSimpArgs false
set_option linter.unusedVariables false
end Go.Proofs.YtjopoheligmmoaaGreatDoor
namespace Go.Proofs.YtjopoheligmmoaaGreatDoor
open Go Go.cp Go.Proofs
set_option linter.unusedSimpArgs false
set_option linter.unusedVariables false
set_option maxRecDepth 8000
theorem LM {u:bx} {l:List cX} {e:cn} (h:e∈gu u l):∃i,i<l.length/\fK u l e l.length=some i/\(l.getD i default).m.stuck u=true/\(l.getD i default).m.end_ u=e:=by
 obtain⟨i,hi,h1,h2⟩:=zO.1 (uC.1 h)
 cases hh:fK u l e l.length with
 |none=>
  exfalso
  unfold fK at hh
  have:=List.find?_eq_none.1 hh i (List.mem_range.2 hi)
  rw[h1,h2,(jZ.zero _ _).2 rfl] at this
  simp at this
 |some j=>
  refine⟨j,IL hh,rfl, ?_⟩
  unfold fK at hh
  have:=List.find?_some hh
  simp only[Bool.and_eq_true,decide_eq_true_eq] at this
  exact⟨this.1,(jZ.zero _ _).1 this.2⟩
theorem zB (a b:List Int) (ha:a.length<9223372036854775807):Pure Tryz.prog 63 [cL a,cL b] (fun r=>r=i64 (ec eX a b)):=by
 refine aG VA rfl ?_
 refine cV ?_
 rw[List.length_map]
 refine aL (fun i:Nat=>[(0,cL a),(1,cL b),(9,cL a),(10,i64 a.length),(11,i64 i)]) (fun i H n=>i<=a.length/\i<=b.length/\ec eX a b=ec eX (a.drop i) (b.drop i)) (fun i=>a.length - i) 0 cI ⟨Nat.zero_le _,Nat.zero_le _,rfl⟩ ?_
 rintro i H n ⟨hi,hib,ho⟩
 rw[ho]
 have a0:(a.map i64).length=a.length:=by simp
 have a1:(b.map i64).length=b.length:=by simp
 by_cases hil:i<a.length
 ·have e0:=fun d=>ints_at hil d
  by_cases hbl:i<b.length
  ·have e1:=fun d=>ints_at hbl d
   have hd:=vU eX 0 hil hbl
   have c0:=rT (a.getD i 0) (b.getD i 0)
   generalize a.getD i 0=p at *
   generalize b.getD i 0=q at *
   by_cases hz:eX p q=0
   ·have r0:=hz
    rw[if_pos hz] at hd
    refine cV ?_
    exact⟨i+1,by omega,cI,by omega,by omega,hd⟩
   ·have r0:=decide_eq_true hz
    rw[if_neg hz] at hd
    refine cV ?_
    rw[hd]
  ·rw[rX eX hil (by omega)]
   refine cV ?_
   first|exact rfl|trivial
 ·obtain rfl:i=a.length:=by omega
  rw[rV eX (Nat.le_refl _) hib]
  by_cases h:a.length<b.length
  ·rw[if_pos h]
   refine cV ?_
   first|exact rfl|trivial
  ·rw[if_neg h]
   refine cV ?_
   first|exact rfl|trivial
def DE (a b:List Int):Int:=s7 [eX a.length b.length,ec eX a b]
theorem DF (a b:List Int) (ha:a.length<9223372036854775807) (hb:b.length<9223372036854775807):Pure Tryz.prog 60 [cL a,cL b] (fun r=>r=i64 (DE a b)):=by
 have e:DE a b=s7 [eX ((a.map i64).length:Int) ((b.map i64).length:Int),ec eX a b]:=by
  unfold DE;rw[List.length_map,List.length_map]
 rw[e]
 have c0:=rT ((a.map i64).length:Int) ((b.map i64).length:Int)
 have c1:=zB a b ha
 have c2:=wB [eX ((a.map i64).length:Int) ((b.map i64).length:Int),ec eX a b] (by simp)
 refine aG U8 rfl ?_
 refine cV ?_
 refine aS (args2:=[cL [eX ((a.map i64).length:Int) ((b.map i64).length:Int),ec eX a b]]) (r:=i64 (s7 [eX ((a.map i64).length:Int) ((b.map i64).length:Int),ec eX a b])) c2 rfl (by simp[c8,cK]) trivial ?_
 refine cV ?_
 first|exact rfl|trivial
def vu (w:List Int):List (List Int)->List Int
 |[]=>w
 |x::r=>vu (if DE x w<0 then x else w) r
abbrev V3:AV:= .fn (.func 60) [] []
abbrev jx (l:List (List Int)):List AV:=l.map cL
theorem C0 {l:List (List Int)} {i:Nat} (h:i<l.length) (d:AV):(jx l).getD i d=cL (l.getD i []):=dJ cL l i d h
theorem EV {l:List (List Int)} {i:Nat} (h:i<l.length) (w:List Int):vu w (l.drop i)=vu (if DE (l.getD i []) w<0 then l.getD i [] else w) (l.drop (i+1)):=by
 rw[List.drop_eq_getElem_cons h,vu,show l.getD i []=l[i] by simp[List.getD,h]]
set_option maxHeartbeats 2000000 in
theorem JB {l:List (List Int)} (h0:0<l.length) (hl:l.length<=65536) (hw:∀w∈l,w.length<=1048576) {b:Nat} {H:Hp} {nx:Nat} (hb:∃d,bw H b=some (.row 31 1 d (jx l))) (hlt:b<nx):
 cO Tryz.prog 59 [.sl b l.length,V3] H nx (fun r H' n=>r=cL (vu (l.getD 0 []) (l.drop 1))):=by
 obtain⟨d0,r0'⟩:=hb
 have a0:(jx l).length=l.length:=List.length_map _
 have e0:∀d,(jx l).getD (0:Int).toNat d=cL (l.getD 0 []):=fun d=>C0 h0 d
 refine aJ U7 rfl ?_
 refine cV ?_
 clear e0
 refine aL (fun σ:Nat×List Int=>[(0, .sl b l.length),(1,V3),(5,cL σ.2),(6,i64 σ.1)])
  (fun σ H2 n=>σ.1<=l.length/\σ.2.length<=1048576/\vu σ.2 (l.drop σ.1)=vu (l.getD 0 []) (l.drop 1)/\nx<=n/\bw H2 b=some (.row 31 1 d0 (jx l))) (fun σ=>l.length - σ.1) (1,l.getD 0 [])
  cI ⟨by show 1<=l.length;omega,hw _ (cS [] h0),rfl,ca,cA⟩ ?_
 clear r0'
 rintro⟨i,w⟩ H2 n ⟨hi,hwl,hm,hn,r0'⟩
 dsimp only at hi hwl hm ⊢
 by_cases hil:i<l.length
 ·have e0:∀d,(jx l).getD ((i:Int)).toNat d=cL (l.getD i []):=fun d=>by rw[Int.toNat_natCast];exact C0 hil d
  have hxl:=hw _ (cS [] hil)
  rw[EV hil] at hm
  generalize l.getD i []=x at *
  have c0:=DF x w (by omega) (by omega)
  by_cases hc:DE x w<0
  ·rw[if_pos hc] at hm
   have r1:=decide_eq_true hc
   refine cV ?_
   exact⟨(i+1,x),by dsimp only;omega,cI,by dsimp only;omega,hxl,hm,ca,cA⟩
  ·rw[if_neg hc] at hm
   have r1:=decide_eq_false hc
   refine cV ?_
   exact⟨(i+1,w),by dsimp only;omega,cI,by dsimp only;omega,hwl,hm,ca,cA⟩
 ·obtain rfl:i=l.length:=by omega
  rw[List.drop_length,vu] at hm
  refine cV ?_
  exact⟨by rw[<-hm]⟩
theorem GX {u:bx} {l:List cX} (hf:iK u l):∀i,i<l.length->(nE l i).length<=i:=by
 intro i
 induction i using Nat.strongRecOn with
 |_ i ih=>
  intro hi
  by_cases h0:i=0
  ·subst h0
   rw[tn (by rw[hf.first];show ¬(0:Int)<=-1;omega)]
   exact Nat.le_refl _
  ·obtain⟨k,t,h1,h2,h3,h4⟩:=hf.G2 i (by omega) hi
   have hfr:(l.getD i default).from_=k:=by rw[h4]
   rw[wc hf hi (by rw[hfr];omega),hfr,Int.toNat_natCast,List.length_cons]
   have:=ih k h1 (by omega)
   omega
theorem FP {u:bx} (hu:u.Wf) {most:Int} (h0:(eH u most).1=0) {e:cn} (he:e∈fZ u most):∃i,i<(eH u most).2.length/\fK u (eH u most).2 e (eH u most).2.length=some i/\((eH u most).2.getD i default).m.stuck u=true/\((eH u most).2.getD i default).m.end_ u=e/\e.ended=false:=by
 unfold fZ at he
 rw[if_pos h0] at he
 obtain⟨h1,h2⟩:=List.mem_filter.1 he
 obtain⟨i,g1,g2,g3,g4⟩:=LM h1
 exact⟨i,g1,g2,g3,g4,by simpa using h2⟩
theorem KP {u:bx} (hu:u.Wf) {most:Int} (h0:(eH u most).1=0):cW u/\iK u (eH u most).2/\(eH u most).2.length<=65536:=by
 obtain⟨hr,hm,l,hs,he⟩:=BT hu h0
 obtain⟨hf,h2,_⟩:=kd hu hr (by omega) hs
 rw[he]
 exact⟨hr,hf,by omega⟩
noncomputable def pI (u:bx) (most:Int) (e:cn):List Int:=jg (eH u most).2 (fK u (eH u most).2 e (eH u most).2.length)
theorem F0 {u:bx} (hu:u.Wf) {most:Int} (h0:(eH u most).1=0) {e:cn} (he:e∈fZ u most):Pure Tryz.prog 58 [u.av,i64 most,e.av] (fun r=>r= .dO [cL (pI u most e),bl true,i64 0])/\(pI u most e).length<=65536:=by
 obtain⟨hr,hf,hl⟩:=KP hu h0
 obtain⟨i,g1,g2,g3,g4,g5⟩:=FP hu h0 he
 obtain⟨q1,q2⟩:=hf.ok i g1
 have hm:=q1.ml
 have hs:=hr.qa
 have c:=J7 u hu most e (by rw[<-g4];show(((eH u most).2.getD i default).m.cQ).length * 16<=_;omega) (by rw[<-g4];show(((eH u most).2.getD i default).m.mem).length * 8<=_;omega)
 unfold uu at c
 rw[if_pos h0,g2] at c
 refine⟨?_, ?_⟩
 ·unfold pI;rw[g2];exact c
 ·unfold pI;rw[g2]
  show((nE _ i).reverse).length<=_
  have:=GX hf i g1
  rw[List.length_reverse];omega
noncomputable def uw (u:bx) (most:Int):List (List Int):=(fZ u most).map (pI u most)
noncomputable def wN (u:bx) (most:Int):List Int:=vu ((uw u most).getD 0 []) ((uw u most).drop 1)
theorem BI {u:bx} (hu:u.Wf) {most:Int} (h0:(eH u most).1=0):(fZ u most).length<=65536:=by
 have hll:=BS hu h0
 have hel:=xD u (eH u most).2
 unfold fZ;rw[if_pos h0]
 exact Nat.le_trans (List.length_filter_le _ _) (by omega)
theorem hX (l:List Int) (b:Bool) (e:Int):cK 0 (.dO [cL l,bl b,i64 e]):=by
 simp[cK,c8,cD]
set_option maxHeartbeats 2000000 in
theorem J6 (u:bx) (hu:u.Wf) (most:Int) (h0:(eH u most).1=0) (hne:fZ u most≠[]):Pure Tryz.prog 25 [u.av,i64 most] (fun r=>r= .dO [cL (wN u most),bl true,i64 0]):=by
 have c0:=wL u hu most
 rw[h0] at c0
 have hsl:=BI hu h0
 have hwp:=fun e he=>F0 (e:=e) hu h0 he
 have hpos:0<(fZ u most).length:=List.length_pos_iff.2 hne
 unfold wN uw
 generalize fZ u most=es at *
 have a0:(es.map cn.av).length=es.length:=List.length_map _
 refine cm ?_ (hX _ _ _)
 refine aJ O2 rfl ?_
 refine cV ?_
 simp only[List.length_map]
 refine aU (fun i:Nat=>[(2, .pt 0 1 0 0),(1,i64 most),(9, .sl 17 i),(24,iN es),(25,i64 es.length),(26,i64 i)])
  (fun i H n=>i<=es.length/\18<=n/\(∃d,bw H 0=some (.row 25 3 d [u.av]))/\∃d,bw H 17=some (.row 31 1 d (jx ((es.take i).map (pI u most))))) (fun i=>es.length - i) 0
  ⟨_,_,_,Rt.nil 9 31 1 (by omega) rfl,cI,Nat.zero_le _,ca,⟨_,cA⟩,⟨_,cA⟩⟩ ?_
 rintro i H n ⟨hi,hn,⟨d0,r0⟩,⟨d1,r1⟩⟩
 have a1:(jx ((es.take i).map (pI u most))).length=i:=by
  unfold jx;rw[List.length_map,List.length_map,List.length_take];omega
 by_cases hil:i<es.length
 ·have e0:∀d,(es.map cn.av).getD ((i:Int)).toNat d=(es.getD i default).av:=fun d=>by rw[Int.toNat_natCast];exact gY hil d
  have hmem:=cS (default:cn) hil
  obtain⟨c1,hwl⟩:=hwp _ hmem
  have hnx:(es.take (i+1)).map (pI u most)=(es.take i).map (pI u most)++[pI u most (es.getD i default)]:=by
   rw[List.take_succ_eq_append_getElem hil,List.map_append];simp[List.getD,hil]
  refine cV ?_
  exact⟨i+1,by omega,_,_,_,Rt.refl _ _ _,cI,by omega,ca,⟨_,cA⟩,⟨_,by rw[hnx];unfold jx;rw[List.map_append];exact cA⟩⟩
 ·obtain rfl:i=es.length:=by omega
  rw[List.take_length] at r1
  have hlen:(es.map (pI u most)).length=es.length:=List.length_map _
  have hmin:=fun(H:Hp) (nx:Nat)=>JB (H:=H) (nx:=nx) (l:=es.map (pI u most)) (b:=17) (by omega) (by omega) (fun w hw=>by
   obtain⟨e,he,rfl⟩:=List.mem_map.1 hw
   have:=(hwp e he).2
   omega)
  rw[hlen] at hmin
  refine cV ?_
  refine aI (hmin _ _ ⟨d1, ?_⟩ ca) ?_
  ·exact cA
  rintro _ H2 n2 rfl
  refine cV ?_
  exact⟨rfl⟩
theorem V1 (u:bx) (hu:u.Wf) (most:Int):Pure Tryz.prog 25 [u.av,i64 most] (fun r=>r= .dO [cL (wN u most),bl (decide (fZ u most≠[])),i64 (eH u most).1]):=by
 by_cases h0:(eH u most).1=0
 ·by_cases hne:fZ u most=[]
  ·have c0:=wL u hu most
   rw[hne,h0] at c0
   have hw:wN u most=[]:=by unfold wN uw;rw[hne];rfl
   rw[hw,h0,decide_eq_false (fun h=>h hne)]
   have key:Pure Tryz.prog 25 [u.av,i64 most] (fun r=>r= .dO [.sc (.slice none 0 0),bl false,i64 0]):=by
    refine aG O2 rfl ?_
    refine cV ?_
    refine aL (fun _:Nat=>[(9, .sc (.slice none 0 0)),(25,i64 0),(26,i64 0)]) (fun _ H n=>True) (fun _=>0) 0 cI trivial ?_
    rintro _ H n _
    refine cV ?_
    first|exact rfl|trivial
   refine iC key (hX _ _ _) fun c=>dN.dO (.cons (dN.lU _ _ _ _) (.cons (fun _ h=>h) (.cons (fun _ h=>h) .nil)))
  ·rw[h0,decide_eq_true hne]
   exact J6 u hu most h0 hne
 ·have hs:fZ u most=[]:=by unfold fZ;rw[if_neg h0]
  have hw:wN u most=[]:=by unfold wN uw;rw[hs];rfl
  rw[hw,decide_eq_false (fun h=>h hs)]
  have c0:=wL u hu most
  have key:Pure Tryz.prog 25 [u.av,i64 most] (fun r=>r= .dO [.sc (.slice none 0 0),bl false,i64 (eH u most).1]):=by
   generalize fZ u most=es at *
   generalize (eH u most).1=er at *
   refine aG O2 rfl ?_
   refine cV ?_
   first|exact rfl|trivial
  refine iC key (hX _ _ _) fun c=>dN.dO (.cons (dN.lU _ _ _ _) (.cons (fun _ h=>h) (.cons (fun _ h=>h) .nil)))
end Go.Proofs.YtjopoheligmmoaaGreatDoor
namespace Go.cp
open Go.RowKit
set_option linter.unusedSimpArgs false
set_option linter.unusedVariables false
theorem cO.OQ {P:Program} {f:FuncId} {args args2:List AV} {e:TypeId} {sz:Nat} {es cs:List AV} (pc:kI cs) (h:cO P f args2 [] 0 (fun r1 H1 _=>∃b d0,r1= .dO (.sl b es.length::cs)/\bw H1 b=some (.row e sz d0 es))) (hfl:∀i,i<es.length->fT (es.getD i .any)) (d:AV) {H:Hp} {id:Nat} (ha:args.map (dX H 6)=args2) (hfa:c8 0 args2):
 jy P f args H id (fun r' H''=>r'= .dO (.sl id es.length::cs)/\H''=dH H (some (id, .row e sz d es))):=by
 refine⟨h.1,fun w0 c vs hS hH hid hv=> ?_⟩
 have hS0:dY c.w ⟨fun _=>none,bw [],fun _=>False,c.w,c.M0⟩:=⟨Below.refl _ _,hS.kx,fun b e sz d es he=>by simp[bw] at he,fun b b' k k' blk o z o' z' hk=>by simp[bw] at hk⟩
 subst ha
 have hv':cg ⟨fun _=>none,bw [],fun _=>False,c.w,c.M0⟩ (args.map (dX H 6)) vs:=kK hS hH hfa hv
 refine(h.2 c.w _ vs hS0 rfl (fun _ h=>h.elim) hv').mono ?_
 rintro en w' ⟨v,r1,H1,nx',ρ,U,he,⟨b,d0,rfl,hb⟩,hU,hS',_,hvr⟩
 rw[VR] at hvr
 obtain⟨us,hus,hvr⟩:=hvr
 rw[cg] at hvr
 obtain⟨x,v3,hx3,hvr,hv3⟩:=hvr
 rw[VR] at hvr
 obtain⟨_,ad,cap,hvv,hrr⟩:=hvr
 obtain⟨_,hr2⟩:=hrr _ _ _ _ hb
 have hr3:=hr2 rfl
 obtain⟨_,hz,hor⟩:=hS'.jU b _ _ _ _ hb (sh hr3)
 have hbel:=hS'.below
 obtain⟨s1,s2⟩:=hS.world hbel
 have hHeq:bw (dH H (some (id, .row e sz d es)))=eo c.H id (some (.row e sz d es)):=by rw[dV,hH]
 have fin:∀c2:Cx,VR c2 (.sl id es.length) x->VR c2 (.dO (.sl id es.length::cs)) v:=fun c2 h2=>by
  rw[VR]
  refine⟨us,hus, ?_⟩
  rw[hx3,cg]
  exact⟨x,v3,rfl,h2,mV pc hv3⟩
 rcases hor with⟨h0,hes⟩|⟨blk,o,z,hρ,hlow,⟨arr,harr,hsz⟩,hlz,hrow⟩
 ·subst hes
  obtain⟨p1,p2⟩:=s1.E7 (b:=id) (e:=e) (sz:=sz) d hz hid
  refine⟨v,_,_,eo c.ρ id none,he,⟨rfl,rfl⟩, ?_, ?_,fin _ ?_⟩
  ·rw[hHeq];exact p1
  ·rw[hHeq];exact s2.trans p2
  ·rw[hHeq,VR]
   refine⟨.inr rfl,ad,cap,hvv,fun e' sz' d' es' he'=> ?_⟩
   simp only[iP,dI,Option.some.injEq,e8.row.injEq] at he'
   obtain⟨rfl,rfl,rfl,rfl⟩:=he'
   refine⟨Nat.le_refl _,fun _=> .inl ⟨by simp[iP], ?_⟩⟩
   rcases hr3 with⟨_,h2,h3⟩|⟨blk,o,z,h2,_⟩
   ·exact⟨h2,h3⟩
   ·rw[h0] at h2;cases h2
 ·obtain⟨p1,p2⟩:=hS.ow (b:=id) (e:=e) (sz:=sz) d (es:=es) (w':=w') (blk:=blk) (o:=o) (z:=z) hz (.inl hid) (.inl hlow) hbel.os hbel.tape hbel.output hbel.size (fun k hk _=>hbel.block k hk) harr hsz hlz (fun hle i hi=>by
   obtain⟨y,x1,x2⟩:=de hrow i hi
   refine⟨y,x1,ln ?_ x2⟩
   have:=hfl i hi
   simpa[List.getD,hi] using this)
  refine⟨v,_,_,eo c.ρ id (some (blk,o,z)),he,⟨rfl,rfl⟩, ?_, ?_,fin _ ?_⟩
  ·rw[hHeq];exact p1
  ·rw[hHeq];exact p2
  ·rw[hHeq,VR]
   refine⟨.inr rfl,ad,cap,hvv,fun e' sz' d' es' he'=> ?_⟩
   simp only[iP,dI,Option.some.injEq,e8.row.injEq] at he'
   obtain⟨rfl,rfl,rfl,rfl⟩:=he'
   refine⟨by omega,fun _=> .inr ⟨blk,o,z,by simp[iP], ?_⟩⟩
   rcases hr3 with⟨h2,_,_⟩|⟨blk',o',z',h2,h3,h4,h5,h6⟩
   ·rw[hρ] at h2;cases h2
   ·rw[hρ] at h2;cases h2
    exact⟨h3,h4,h5,h6⟩
theorem cO.CB {P:Program} {f:FuncId} {args args2:List AV} {e:TypeId} {sz:Nat} {es cs:List AV} (pc:kI cs) (h:cO P f args2 [] 0 (fun r1 H1 _=>∃b d0,r1= .dO (.sl b es.length::cs)/\bw H1 b=some (.row e sz d0 es))) (hfl:∀i,i<es.length->fT (es.getD i .any)) {H:Hp} {nx:Nat} (ha:args.map (dX H 6)=args2) (hfa:c8 0 args2):
 cO P f args H nx (fun r H' n=>r= .dO (.sl nx es.length::cs)/\H'=(nx,some (.row e sz .any es))::H/\n=nx+1):=
 (jy.VZ (h.OQ pc hfl .any ha hfa)).mono fun r H' n ⟨⟨h1,h2⟩,h3⟩=>⟨h1,h2,h3⟩
end Go.cp
namespace Go.Proofs.YtjopoheligmmoaaGreatDoor
open Go Go.cp Go.Proofs
set_option linter.unusedSimpArgs false
set_option linter.unusedVariables false
set_option maxRecDepth 8000
theorem AY (l m:List Int) (hl:l.length * 8<=140737488351232) (hm:m.length * 8<=140737488351232):Pure Tryz.prog 44 [fV l,fV m] (fun r=>r=bl (decide (l=m))):=by
 refine aG UY rfl ?_
 unfold fV
 repeat' (first|refine aQ ?_|exact aC|with_reducible refine aD ?_ ?_|(apply aA;(·exact cU))|refine aH ?_|((with_reducible refine aE ?_ ?_)<;>intro hc<;>try(exfalso;omega)))
 ·refine ez (Eq.symm ?_)
  exact decide_eq_false fun e=>hc (by rw[e])
 ·have hlm:l.length=m.length:=by omega
  refine aL (fun i:Nat=>[(0,fV l),(1,fV m),(5,i64 i)])
   (fun i H n=>i<=l.length/\∀j,j<i->l.getD j 0=m.getD j 0) (fun i=>l.length - i) 0 cI ⟨Nat.zero_le _,fun _ h=>by omega⟩ ?_
  unfold fV
  rintro i H n ⟨hi,hall⟩
  by_cases hil:i<l.length
  ·have e1:=oU (l:=l) hil
   have e2:=oU (l:=m) (i:=i) (by omega)
   repeat' (first|refine aQ ?_|exact aC|with_reducible refine aD ?_ ?_|(apply aA;(·(first|exact e1 _|exact e2 _|exact cU)))|refine aH ?_|((with_reducible refine aE ?_ ?_)<;>intro hc<;>try(exfalso;omega)))
   ·refine ez (Eq.symm ?_)
    exact decide_eq_false fun e=>hc (by rw[e])
   ·refine⟨i+1,by omega,cI,by omega,fun j hj=> ?_⟩
    by_cases hji:j=i
    ·subst hji;exact hc
    ·exact hall j (by omega)
  ·have:i=l.length:=by omega
   subst this
   repeat' (first|refine aQ ?_|exact aC|with_reducible refine aD ?_ ?_|(apply aA;(·exact cU))|refine aH ?_|((with_reducible refine aE ?_ ?_)<;>intro hc<;>try(exfalso;omega)))
   refine ez (Eq.symm ?_)
   refine decide_eq_true (List.ext_getElem hlm fun j h1 h2=> ?_)
   have:=hall j h1
   simpa[List.getD,h1,h2] using this
theorem j3 (l m:List Int) (hl:l.length * 8<=140737488351232) (hm:m.length * 8<=140737488351232):Pure Tryz.prog 18 [cL l,cL m] (fun r=>r=bl (decide (l=m))):=by
 have c0:=AY l m hl hm
 unfold fV at c0
 refine aG UN rfl ?_
 refine cV ?_
 first|exact rfl|trivial
def QP (k th nx o:Int):Node:=⟨k,0,0,th,⟨false,0,0⟩,⟨false,0,0⟩,nx,0,o⟩
def P3 (name:List UInt8) (a b:Int):cF:=⟨⟨name.toArray⟩,0,0,[QP 5 a 1 0,QP 5 b 2 1,QP 6 b 3 2,QP 6 a 4 3,QP 9 0 0 4]⟩
def lg:bx:=⟨[],[⟨⟨(List.toArray [108])⟩,0,0⟩,⟨⟨(List.toArray [109])⟩,0,0⟩],[P3 [97] 0 1,P3 [98] 1 0]⟩
theorem rb (name:List UInt8) (a b:Int):Pure Tryz.prog 47 [.sc (.string ⟨(List.toArray name)⟩),i64 a,i64 b] (fun r=>r=(P3 name a b).av):=by
 refine cm ?_ (by simp[cK,cD])
 refine aJ UZ rfl ?_
 refine cV ?_
 exact⟨rfl⟩
theorem oI:cW lg:=kF.1 (by decide+kernel)
theorem xA:lg.Wf:=by
 have hd:∀d∈lg.cG,d.Wf:=fun d h=>by
  simp only[lg,List.mem_cons,List.not_mem_nil,or_false] at h
  rcases h with rfl|rfl<;>exact⟨by decide+kernel,by decide+kernel,by decide+kernel⟩
 refine⟨fun _ h=>by simp[lg] at h,by simp[lg],hd,by simp[lg],fun g hg=> ?_,by simp[lg]⟩
 simp only[lg,List.mem_cons,List.not_mem_nil,or_false] at hg
 rcases hg with rfl|rfl<;>
 ·refine⟨by decide+kernel,by decide+kernel,by decide+kernel,fun n hn=> ?_,by decide+kernel⟩
  simp only[P3,List.mem_cons,List.not_mem_nil,or_false] at hn
  rcases hn with rfl|rfl|rfl|rfl|rfl<;>
   exact⟨by decide+kernel,by decide+kernel,by decide+kernel,by decide+kernel,⟨by decide+kernel,by decide+kernel⟩,⟨by decide+kernel,by decide+kernel⟩,by decide+kernel,by decide+kernel,by decide+kernel⟩
theorem wz:dS lg=[⟨0,1,0,1⟩,⟨1,0,1,1⟩]:=by decide+kernel
theorem K4:fc lg=fun h=>if h=0 then[1] else if h=1 then[0] else[]:=by
 funext h
 unfold fc
 rw[wz]
 have e:jD [⟨0,1,0,1⟩,⟨1,0,1,1⟩] h=if h=0 then[1] else if h=1 then[0] else[]:=by
  unfold jD
  simp only[List.foldl_cons,List.foldl_nil]
  by_cases h0:h=0
  ·subst h0;simp
  ·by_cases h1:h=1
   ·subst h1;simp
   ·have e0:¬(0:Int)=h:=fun e=>h0 e.symm
    have e1:¬(1:Int)=h:=fun e=>h1 e.symm
    simp[h0,h1,e0,e1]
 rw[e]
 unfold eG
 split
 ·simp
 ·split<;>simp
theorem K5:qX lg=some [0,1]:=by
 unfold qX
 rw[K4]
 decide+kernel
theorem K3:jM lg (eK lg (dQ lg) [0,1])=some [0,1]:=by decide+kernel
def KE:List cX:=(gU lg 99).getD []
theorem OF:gU lg 99=some KE:=by
 have h:(gU lg 99).isSome=true:=by decide+kernel
 unfold KE
 cases hs:gU lg 99 with
 |none=>rw[hs] at h;cases h
 |some l=>rfl
def P2:cn:=⟨[],[],false⟩
theorem K2:∀e∈dU lg KE KE.length,e.ended=true\/e=P2:=by decide+kernel
theorem OG:P2∈dU lg KE KE.length:=by decide+kernel
theorem OH:jg KE (fK lg KE P2 KE.length)=[0,1]:=by decide+kernel
theorem BZ:eH lg 99=(0,KE):=by rw[oD oI (by decide),show(99:Int).toNat=99 from rfl,OF]
theorem I5 {u:bx} {l:List cX} {x:cn} (h:∀e∈dU u l l.length,e.ended=true\/e=x) (hx:x∈dU u l l.length) (hx2:x.ended=false):lu (gu u l)=[x]:=by
 have h1:=(v8 u l).filter fun e=> !e.ended
 change (lu (gu u l)).Pairwise _ at h1
 have h2:∀e,e∈lu (gu u l)↔e=x:=fun e=>by
  unfold lu
  rw[List.mem_filter,uC]
  constructor
  ·rintro⟨q1,q2⟩
   rcases h e q1 with h3|h3
   ·rw[h3] at q2;cases q2
   ·exact h3
  ·rintro rfl
   exact⟨hx,by rw[hx2];rfl⟩
 cases hl:lu (gu u l) with
 |nil=>exact absurd ((h2 x).2 rfl) (by rw[hl];simp)
 |cons a t=>
  rw[hl] at h1 h2
  have ha:=(h2 a).1 (by simp)
  subst ha
  cases t with
  |nil=>rfl
  |cons b t=>
   have hb:=(h2 b).1 (by simp)
   subst hb
   have:=(List.pairwise_cons.1 h1).1 b (by simp)
   rw[(jZ.zero _ _).2 rfl] at this
   omega
theorem rZ:fZ lg 99=[P2]:=by
 unfold fZ
 rw[BZ]
 rw[if_pos rfl]
 exact I5 K2 OG rfl
theorem K6:wN lg 99=[0,1]:=by
 unfold wN uw
 rw[rZ]
 show pI lg 99 P2=[0,1]
 unfold pI
 rw[BZ]
 exact OH
abbrev G7:AV:= .agg [.sc (.slice none 0 0),cw lg.cG,df lg.bz]
theorem rY (c:Cx):dN c c G7 lg.av:=cp.dN.agg (.cons (cp.dN.lU c c 3 .any) (.cons (fun _ h=>h) (.cons (fun _ h=>h) .nil)))
theorem TF (u:bx) (hu:u.Wf) (hr:cW u):Pure Tryz.prog 15 [u.av] (fun r=>r= .dO [cL ((qX u).getD []),bl (qX u).isSome,i64 0]):=by
 have key:Pure Tryz.prog 15 [u.av] (fun r=>r=match qX u with|none=> .dO [.sc (.slice none 0 0),bl false,i64 0]|some w=> .dO [cL w,bl true,i64 0]):=by
  refine cm ((FC u hu hr).mono ?_) (by split<;>simp[cK,c8,cD])
  intro r H n h
  unfold GD at h
  cases hq:qX u with
  |none=>rw[hq] at h;dsimp only at h ⊢;rw[h];rfl
  |some w=>
   rw[hq] at h
   obtain⟨b,d,rfl,hb⟩:=h
   show AV.dO [cp.dX H 5 (.sl b w.length),bl true,i64 0]=_
   rw[dZ (k:=4) hb (by simp),cx _ ((cD _ _).2 fun _ _=>by simp[cK])]
 refine iC key (hX _ _ _) fun c=> ?_
 cases qX u with
 |none=>exact dN.dO (.cons (dN.lU _ _ _ _) (.cons (fun _ h=>h) (.cons (fun _ h=>h) .nil)))
 |some w=>exact fun _ h=>h
theorem Q6 (u:bx) (hu:u.Wf) (hr:cW u) (w:List Int) (hw:w.length<=1048576):Pure Tryz.prog 21 [u.av,cL w] (fun r=>r= .dO [cL ((jM u (eK u (dQ u) w)).getD []),bl (jM u (eK u (dQ u) w)).isSome,i64 0]):=by
 have key:Pure Tryz.prog 21 [u.av,cL w] (fun r=>r=match jM u (eK u (dQ u) w) with|none=> .dO [.sc (.slice none 0 0),bl false,i64 0]|some w=> .dO [cL w,bl true,i64 0]):=by
  refine cm ((ph u hu hr w hw).mono ?_) (by split<;>simp[cK,c8,cD])
  intro r H n h
  unfold ta at h
  cases hq:jM u (eK u (dQ u) w) with
  |none=>rw[hq] at h;dsimp only at h ⊢;rw[h];rfl
  |some w=>
   rw[hq] at h
   obtain⟨b,d,rfl,hb⟩:=h
   show AV.dO [cp.dX H 5 (.sl b w.length),bl true,i64 0]=_
   rw[dZ (k:=4) hb (by simp),cx _ ((cD _ _).2 fun _ _=>by simp[cK])]
 refine iC key (hX _ _ _) fun c=> ?_
 cases jM u (eK u (dQ u) w) with
 |none=>exact dN.dO (.cons (dN.lU _ _ _ _) (.cons (fun _ h=>h) (.cons (fun _ h=>h) .nil)))
 |some w=>exact fun _ h=>h
theorem G8 {H:Hp} {nx:Nat} {b:Nat} (hb:∃d,bw H b=some (.row 3 1 d [i64 0,i64 1])):cO Tryz.prog 21 [G7, .sl b 2] H nx (fun r H' n=>r= .dO [.sl nx 2,bl true,i64 0]/\H'=(nx,some (.row 3 1 .any [i64 0,i64 1]))::H/\n=nx+1):=by
 have h:=ph lg xA oI [0,1] (by decide)
 have h2:=cO.args (bs:=[G7,cL [0,1]]) h fun c=> .cons (rY c) (.cons (fun _ h=>h) .nil)
 obtain⟨d,hb⟩:=hb
 refine cO.CB (es:=[i64 0,i64 1]) (cs:=[bl true,i64 0]) (args2:=[G7,cL [0,1]]) (by simp[kI]) (h2.mono ?_) ?_ ?_ ?_
 ·intro r H1 n1 hR
  unfold ta at hR
  rw[K3] at hR
  exact hR
 ·intro i hi
  match i,hi with
  |0,_=>trivial
  |1,_=>trivial
 ·show[cp.dX H 6 G7,cp.dX H 6 (.sl b [i64 0,i64 1].length)]=_
  rw[dj _ (show cK 0 G7 by simp[cK,c8,cD]),dZ (k:=5) hb rfl]
  rfl
 ·simp[cK,c8,cD]
theorem vX {H:Hp} {b:Nat} {d:AV} (hb:bw H b=some (.row 3 1 d [i64 0,i64 1])):cp.dX H 6 (.sl b 2)=cL [0,1]:=by
 show cp.dX H 6 (.sl b [i64 0,i64 1].length)=_
 rw[dZ (k:=5) hb rfl]
 rfl
theorem vY {H:Hp} {x y a b:AV} (h1:cp.dX H 6 x=a) (h2:cp.dX H 6 y=b):[x,y].map (cp.dX H 6)=[a,b]:=by
 subst h1 h2
 rfl
theorem B0 {H:Hp}:cp.dX H 6 (cL [0,1])=cL [0,1]:=dj _ (by simp[cK,c8,cD])
theorem we:Pure Tryz.prog 20 [] (fun r=>r=bl true):=by
 have c0:Pure Tryz.prog 47 [.sc (.string ⟨⟨[⟨⟨⟨97,by decide⟩⟩⟩]⟩⟩),i64 0,i64 1] (fun r=>r=(P3 [97] 0 1).av):=rb [97] 0 1
 have c1:Pure Tryz.prog 47 [.sc (.string ⟨⟨[⟨⟨⟨98,by decide⟩⟩⟩]⟩⟩),i64 1,i64 0] (fun r=>r=(P3 [98] 1 0).av):=rb [98] 1 0
 refine cm ?_ (by simp[cK])
 refine au UO rfl ?_
 refine WL.cut ?_
 refine cV ?_
 refine⟨_,_,_,Rt.refl _ _ _,WL.cut ?_⟩
 refine cV ?_
 refine⟨[(1, .pt 6 1 0 0)],_,_,Rt.trans (Rt.wk (Wk.gm (cb:=6) (jf [3,4] _) 5 .any rfl fun b q hq=>qG hq)) (Rt.less cI),WL.last ?_⟩
 refine ah (b:=6) (q:=some (.row 25 3 .any [G7])) rfl ?_
 intro H2 r3
 have c0:Pure Tryz.prog 13 [G7] (fun r=>r= .dO [v7 (dS lg),i64 0]):=Pure.args (ri lg xA oI) fun c=> .cons (rY c) .nil
 have c1:Pure Tryz.prog 15 [G7] (fun r=>r= .dO [cL [0,1],bl true,i64 0]):=Pure.args (by have:=TF lg xA oI;rw[K5] at this;exact this) fun c=> .cons (rY c) .nil
 have c2:Pure Tryz.prog 25 [G7,i64 99] (fun r=>r= .dO [cL [0,1],bl true,i64 0]):=Pure.args (by have:=V1 lg xA 99;rw[K6,rZ,BZ] at this;exact this) fun c=> .cons (rY c) (.cons (fun _ h=>h) .nil)
 have c3:Pure Tryz.prog 23 [G7,i64 99] (fun r=>r= .dO [iN [P2],i64 0]):=Pure.args (by have:=wL lg xA 99;rw[rZ,BZ] at this;exact this) fun c=> .cons (rY c) (.cons (fun _ h=>h) .nil)
 refine cV ?_
 refine aI (G8 ⟨_,cA⟩) ?_
 rintro _ H3 n3 ⟨rfl,rfl,rfl⟩
 rw[wz]
 refine cV ?_
 refine aS (args2:=[cL [0,1],cL [0,1]]) (j3 [0,1] [0,1] (by decide) (by decide)) (vY B0 (vX cA)) (by simp[c8,cK,cD]) trivial ?_
 refine cV ?_
 refine aS (args2:=[cL [0,1],cL [0,1]]) (j3 [0,1] [0,1] (by decide) (by decide)) (vY (vX cA) (vX cA)) (by simp[c8,cK,cD]) trivial ?_
 refine cV ?_
 refine aS (args2:=[cL [0,1],cL [0,1]]) (j3 [0,1] [0,1] (by decide) (by decide)) (vY B0 (vX cA)) (by simp[c8,cK,cD]) trivial ?_
 refine cV ?_
 first|exact rfl|exact⟨rfl⟩|trivial
section
section
variable {u:bx} {m:MS}
def GF (u:bx) (m:MS):Prop:=(∀t,t<u.bz.length->m.kZ u (t:Nat)≠0)/\∃t,t<u.bz.length/\m.kZ u (t:Nat)≠70
theorem GF.WH (hr:cW u) (h:pL u m) (hs:GF u m):∃l,jM u m=some l:=by
 obtain⟨h1,t,h2,h3⟩:=hs
 exact BG hr h h1 h2 h3
theorem ep.next {l:List Int} (hk:ep u m l) {i:Nat} (hi:i<l.length):(m.node u (l.getD i 0).toNat).kind=5/\m.hold.getD (m.node u (l.getD i 0).toNat).cR.toNat 0=l.getD ((i+1)%l.length) 0:=by
 have h1:=hk.ring.on i hi
 have h3:=hk.ring.nn _ (cS 0 (Nat.mod_lt (i+1) hk.ring.pos))
 unfold eM at h1
 split at h1
 ·rename_i h5
  exact⟨h5,h1⟩
 ·omega
end
end
section
open Classical in
noncomputable def lP (u:bx) (w:List Int):Int:=if cW u then(if w.length<=1048576 then 0 else 3) else 60
open Classical in
noncomputable def iT (u:bx) (w:List Int):Option (List Int):=if lP u w=0 then jM u (eK u (dQ u) w) else none
theorem IV (u:bx) (hu:u.Wf) (w:List Int):Pure Tryz.prog 21 [u.av,cL w] (fun r=>r= .dO [cL ((iT u w).getD []),bl (iT u w).isSome,i64 (lP u w)]):=by
 have nilR:∀(e:Int) (c:Cx),dN c c (.dO [.sc (.slice none 0 0),bl false,i64 e]) (.dO [cL [],bl false,i64 e]):=fun e c=>dN.dO (.cons (dN.lU _ _ _ _) (.cons (fun _ h=>h) (.cons (fun _ h=>h) .nil)))
 by_cases hr:cW u
 ·by_cases hw:w.length<=1048576
  ·have hE:lP u w=0:=by unfold lP;rw[if_pos hr,if_pos hw]
   have hQ:iT u w=jM u (eK u (dQ u) w):=by unfold iT;rw[if_pos hE]
   rw[hE,hQ]
   exact Q6 u hu hr w hw
  ·have hE:lP u w=3:=by unfold lP;rw[if_pos hr,if_neg hw]
   have hQ:iT u w=none:=by unfold iT;rw[hE];rfl
   rw[hE,hQ]
   refine iC (cm ((u6 u hu hr w (by omega)).mono fun r H n h=>by rw[h];rfl) (by simp[cK,c8])) (hX _ _ _) fun c=>nilR 3 c
 ·have hE:lP u w=60:=by unfold lP;rw[if_neg hr]
  have hQ:iT u w=none:=by unfold iT;rw[hE];rfl
  rw[hE,hQ]
  exact iC (IW u hu hr w) (hX _ _ _) fun c=>nilR 60 c
theorem L9 (u:bx) (hu:u.Wf) (hr:¬cW u) (w:List Int):Pure Tryz.prog 29 [u.av,cL w] (fun r=>r= .sc (.pointer none)):=by
 have c0:=vw u hu hr
 refine aG O3 rfl ?_
 refine cV ?_
 first|exact rfl|trivial
theorem JK (u:bx) (hu:u.Wf) (hr:cW u) (w:List Int) (hw:65536<w.length):cO Tryz.prog 29 [u.av,cL w] [] 0 (fun r H n=>r= .sc (.pointer none)):=by
 have a0:(w.map i64).length=w.length:=List.length_map _
 refine aJ O3 rfl ?_
 refine cV ?_
 refine aI (kT u hu hr _ _) ?_
 rintro _ H1 n1 ⟨L,rfl,hM,hL,hn1,hkp⟩
 refine cV ?_
 exact⟨rfl⟩
theorem MA (u:bx) (hu:u.Wf) (w:List Int) (h:¬(cW u/\w.length<=65536)):Pure Tryz.prog 29 [u.av,cL w] (fun r=>r= .sc (.pointer none)):=by
 by_cases hr:cW u
 ·exact cm ((JK u hu hr w (by have:¬w.length<=65536:=fun hh=>h ⟨hr,hh⟩;omega)).mono fun r H n h=>by rw[h];rfl) (by simp[cK])
 ·exact L9 u hu hr w
set_option maxHeartbeats 2000000 in
theorem yG (u:bx) (hu:u.Wf) (hr:cW u) (w:List Int) (hw:w.length<=65536) (H0:Hp) (nx:Nat):cO Tryz.prog 29 [u.av,cL w] H0 nx (fun r H n=>∃L:ML,r= .pt L.mr 1 0 0/\L.At u (eK u (dQ u) w) H/\(eK u (dQ u) w).cQ.length<=w.length/\(∀x∈L.all,nx<=x/\x<n)/\nx<=n/\∀y,y<nx->bw H y=bw H0 y):=by
 have a0:(w.map i64).length=w.length:=List.length_map _
 have r0:decide (65536<((w.map i64).length:Int))=false:=decide_eq_false (by omega)
 refine aJ O3 rfl ?_
 refine cV ?_
 refine aI (kT u hu hr _ _) ?_
 rintro _ H1 n1 ⟨L,rfl,hM,hL,hn1,hkp⟩
 refine cV ?_
 refine aL (fun i:Nat=>[(1,cL w),(5, .pt L.mr 1 0 0),(7,i64 i)])
  (fun i H n=>i<=w.length/\n1<=n/\L.At u (eK u (dQ u) (w.take i)) H/\(eK u (dQ u) (w.take i)).cQ.length<=i/\∀y,y<nx->bw H y=bw H0 y) (fun i=>w.length - i) 0
  cI ⟨Nat.zero_le _,ca,hM.cT fun y hy=> ?_,Nat.zero_le _,fun y hy=> ?_⟩ ?_
 ·have:=hL y hy;exact cB
 ·exact Eq.trans cB ((hkp y (by omega)).trans cB)
 rintro i H n ⟨hi,hn,hM,hpr,hkeep⟩
 have hsit:pL u (eK u (dQ u) (w.take i)):=pL.s9 hu hr (pL.new hu hr)
 by_cases hil:i<w.length
 ·have e0:∀d,(w.map i64).getD ((i:Int)).toNat d=i64 (w.getD i 0):=fun d=>ints_at hil d
  have hpn:=qD u (dQ u) w hil
  have hp2:=nj u (eK u (dQ u) (w.take i)) (w.getD i 0)
  rw[<-hpn] at hp2
  refine cV ?_
  refine aI (lI hu hr hsit.ok (hM.cT fun y hy=> ?_) (fun y hy=> ?_) (by omega) (w.getD i 0)) ?_
  ·have:=hL y hy;exact cB
  ·exact Nat.lt_of_lt_of_le (Nat.lt_of_lt_of_le (hL y hy).2 hn) ca
  rintro _ H2 n2 ⟨⟨d,e,rfl⟩,hM2,hn2,hkeep2⟩
  rw[<-hpn] at hM2
  refine cV ?_
  refine⟨i+1,by omega,cI,by omega,ca,hM2.cT fun y hy=> ?_,by omega,fun y hy=> ?_⟩
  ·have:=hL y hy;exact cB
  ·exact Eq.trans cB ((hkeep2 y (by omega) fun h=>by have:=hL y h;omega).trans (Eq.trans cB (hkeep y hy)))
 ·obtain rfl:i=w.length:=by omega
  rw[List.take_length] at hM hpr hsit
  refine cV ?_
  refine⟨⟨L,rfl,hM.cT fun y hy=> ?_,hpr,fun x hx=>⟨by have:=hL x hx;omega,Nat.lt_of_lt_of_le (Nat.lt_of_lt_of_le (hL x hx).2 hn) ca⟩,ca,fun y hy=>Eq.trans cB (hkeep y hy)⟩⟩
  have:=hL y hy;exact cB
end
theorem IU {u:bx} (hu:u.Wf) {w k:List Int} (h:iT u w=some k):cW u/\lP u w=0/\ep u (eK u (dQ u) w) k:=by
 unfold iT at h
 split at h
 ·rename_i h0
  have hr:cW u:=by
   apply Classical.byContradiction
   intro hr
   unfold lP at h0
   rw[if_neg hr] at h0
   cases h0
  exact⟨hr,h0,CH hr ((pL.new hu hr).s9 hu hr).ok h⟩
 ·cases h
end Go.Proofs.YtjopoheligmmoaaGreatDoor
namespace Go.cp
open Go.RowKit
set_option linter.unusedSimpArgs false
set_option linter.unusedVariables false
end Go.cp
namespace Go.Proofs.YtjopoheligmmoaaGreatDoor
open Go Go.cp Go.Proofs
set_option linter.unusedSimpArgs false
set_option linter.unusedVariables false
set_option maxRecDepth 8000
theorem FY {H:Hp} {b:Nat} {e:TypeId} {d:AV} {l:List Int} (h:bw H b=some (.row e 1 d (l.map i64))):cp.dX H 6 (.sl b (l.map i64).length)=cL l:=by
 rw[dZ (k:=5) h rfl,cx _ ((cD _ _).2 fun _ _=>by simp[cK])]
theorem LG {H:Hp} (l:List Int):cp.dX H 6 (cL l)=cL l:=dj _ (by simp[cK,c8,cD])
def ej (f:Nat->AV) (n i:Nat):List AV:=(List.range n).map fun j=>if j<i then f j else i64 0
@[simp] theorem uL (f:Nat->AV) (n i:Nat):(ej f n i).length=n:=by simp[ej]
theorem zW (f:Nat->AV) (n:Nat):ej f n 0=List.replicate n (i64 0):=by
 apply List.ext_getElem (by simp)
 intro j h1 h2
 simp[ej]
theorem DP (f:Nat->AV) {n i:Nat} (h:i<n):(ej f n i).set i (f i)=ej f n (i+1):=by
 apply List.ext_getElem (by simp)
 intro j h1 h2
 simp only[ej,List.getElem_set,List.getElem_map,List.getElem_range]
 by_cases e:i=j
 ·subst e;simp
 ·rw[if_neg e]
  by_cases h3:j<i
  ·rw[if_pos h3,if_pos (by omega)]
  ·rw[if_neg h3,if_neg (by omega)]
theorem HJ (f:Nat->AV) {n i:Nat} (h:i<n) (d:AV):(ej f n n).getD i d=f i:=by
 simp[ej,List.getD,h]
theorem zV (f:Nat->AV) {n i:Nat} (h:i<n) (d:AV):(ej f n i).getD i d=i64 0:=by
 simp[ej,List.getD,h]
set_option maxHeartbeats 8000000 in
theorem BE (u:bx) (hu:u.Wf) (w v:List Int) (hwl:w.length * 8<=140737488351232) (hvl:v.length * 8<=140737488351232):Pure Tryz.prog 8 [u.av,cL w,cL v] (fun r=>r=bl true):=by
 have c0:=we
 have c1:=IV u hu w
 by_cases hc:cW u/\w.length<=65536
 ·obtain⟨hr,hw⟩:=hc
  cases hk:iT u w with
  |none=>
   rw[hk] at c1
   dsimp only[Option.getD,Option.isSome] at c1
   generalize lP u w=e1 at *
   refine cm ?_ (by simp[cK])
   refine aJ VI rfl ?_
   refine cV ?_
   refine aI (yG u hu hr w hw _ _) ?_
   rintro _ H1 n1 ⟨L,rfl,hM,hpr,hL,hn1,hkp⟩
   by_cases h1:e1=0
   ·have r0:decide (e1≠0)=false:=decide_eq_false fun h=>h h1
    refine cV ?_
    exact⟨rfl⟩
   ·have r0:decide (e1≠0)=true:=decide_eq_true h1
    refine cV ?_
    exact⟨rfl⟩
  |some k=>
   obtain⟨_,hE,hK⟩:=IU hu hk
   rw[hk,hE] at c1
   dsimp only[Option.getD,Option.isSome] at c1
   have hsit:pL u (eK u (dQ u) w):=(pL.new hu hr).s9 hu hr
   have hgl:=hr.qa
   have hkl:=hK.len
   have hp:=hK.ring.pos
   have a0:(k.map i64).length=k.length:=List.length_map _
   have a1:(v.map i64).length=v.length:=List.length_map _
   have a2:(w.map i64).length=w.length:=List.length_map _
   refine cm ?_ (by simp[cK])
   refine aJ VI rfl ?_
   refine cV ?_
   refine aI (yG u hu hr w hw _ _) ?_
   rintro _ H1 n1 ⟨L,rfl,hM,hpr,hL,hn1,hkp⟩
   have hL0:∀x∈L.all,14<=x:=fun x hx=>by have:=(hL x hx).1;omega
   have hL1:∀x∈L.all,x<n1:=fun x hx=>(hL x hx).2
   have hz:(0:Nat)∉L.all:=fun h=>by have:=hL0 0 h;omega
   have r0':bw H1 0=some (.row 25 3 .any [u.av]):=Eq.trans (hkp 0 (by omega)) cA
   have hplay:=qC u w v (dQ u)
   have hst:=fun q=>hK.s9 hu hr q hsit
   generalize hm:eK u (dQ u) w=m at *
   refine cV ?_
   simp only[List.length_map,Int.toNat_natCast]
   have atv:∀i,i<k.length->∃t:Nat,k.getD i 0=t/\t<u.bz.length:=fun i hi=>by
    have:=hK.Q3 i hi
    exact⟨(k.getD i 0).toNat,by omega,by omega⟩
   obtain⟨f,hf⟩:∃f:Nat->AV,f=fun j=>i64 (m.at_.getD (k.getD j 0).toNat 0):=⟨_,rfl⟩
   refine aL (fun i:Nat=>[(1,cL w),(2,cL v),(3, .pt 0 1 0 0),(7,cL k),(10, .pt L.mr 1 0 0),(11, .sl (n1+13) k.length),(12,i64 i)])
    (fun i H n=>i<=k.length/\n1+14<=n/\(∃d,bw H 0=some (.row 25 3 d [u.av]))/\L.At u m H/\∃d,bw H (n1+13)=some (.row 3 1 d (ej f k.length i))) (fun i=>k.length - i) 0
    cI ⟨Nat.zero_le _,ca,⟨_,cA⟩,hM.cT fun y hy=> ?_,⟨_,by rw[zW];exact cA⟩⟩ ?_
   ·have:=hL1 y hy;have:=hL0 y hy;exact cB
   clear hM r0' c0 c1 hkp
   rintro i H n ⟨hi,hn,⟨d0,r0'⟩,hM,⟨d1,r1'⟩⟩
   by_cases hil:i<k.length
   ·obtain⟨t,ht,htl⟩:=atv i hil
    have e0:∀d,(k.map i64).getD ((i:Int)).toNat d=i64 (t:Int):=fun d=>by rw[<-ht];exact ints_at hil d
    refine cV ?_
    refine aS (GU u m hsit.ok htl) (BN hM t ?_) (by simp[c8,cK,ll]) trivial ?_
    ·exact fun y hy=>by have:=hL1 y hy;have:=hL0 y hy;exact cB
    have hset:ej f k.length (i+1)=(ej f k.length i).set i (i64 (m.at_.getD t 0)):=by
     rw[<-DP f hil,hf]
     dsimp only
     rw[ht,Int.toNat_natCast]
    have aF:(ej f k.length i).length=k.length:=uL ..
    have e1:∀d,(ej f k.length i).getD ((i:Int)).toNat d=i64 0:=fun d=>by rw[Int.toNat_natCast];exact zV f hil d
    refine cV ?_
    refine⟨i+1,by omega,cI,by omega,ca,⟨_,cA⟩,hM.cT fun y hy=> ?_,⟨_,by rw[hset];exact cA⟩⟩
    have:=hL1 y hy;have:=hL0 y hy;exact cB
   ·obtain rfl:i=k.length:=by omega
    refine cV ?_
    refine aL (fun i:Nat=>[(1,cL w),(2,cL v),(3, .pt 0 1 0 0),(7,cL k),(10, .pt L.mr 1 0 0),(11, .sl (n1+13) k.length),(13,i64 i)])
     (fun i H n=>i<=v.length/\i<=5000/\n1+14<=n/\(∃d,bw H 0=some (.row 25 3 d [u.av]))/\L.At u (eK u m (v.take i)) H/\(eK u m (v.take i)).cQ.length<=w.length+i/\∃d,bw H (n1+13)=some (.row 3 1 d (ej f k.length k.length))) (fun i=>v.length - i) 0
     cI ⟨Nat.zero_le _,Nat.zero_le _,ca,⟨_,cA⟩,hM.cT fun y hy=> ?_,hpr,⟨_,cA⟩⟩ ?_
    ·have:=hL1 y hy;have:=hL0 y hy;exact cB
    clear hM r0' r1'
    rintro i H n ⟨hi,hi5,hn,⟨d0,r0'⟩,hM,hpr2,⟨d1,r1'⟩⟩
    have hs2:pL u (eK u m (v.take i)):=pL.s9 hu hr hsit
    by_cases hil:i<v.length/\i<5000
    ·obtain⟨hil,hi5l⟩:=hil
     have e0:∀d,(v.map i64).getD ((i:Int)).toNat d=i64 (v.getD i 0):=fun d=>ints_at hil d
     have hpn:=qD u m v hil
     have hp2:=nj u (eK u m (v.take i)) (v.getD i 0)
     rw[<-hpn] at hp2
     refine cV ?_
     refine aI (lI hu hr hs2.ok (hM.cT fun y hy=> ?_) (fun y hy=> ?_) (by omega) (v.getD i 0)) ?_
     ·have:=hL1 y hy;have:=hL0 y hy;exact cB
     ·exact Nat.lt_of_lt_of_le (Nat.lt_of_lt_of_le (hL1 y hy) (Nat.le_trans (Nat.le_add_right _ 14) hn)) ca
     rintro _ H2 n2 ⟨⟨d,e,rfl⟩,hM2,hn2,hkeep2⟩
     rw[<-hpn] at hM2
     have r2:bw H2 0=some (.row 25 3 d0 [u.av]):=Eq.trans (hkeep2 0 (by omega) fun h=>by have:=hL0 0 h;omega) (Eq.trans cB r0')
     have r3:bw H2 (n1+13)=some (.row 3 1 d1 (ej f k.length k.length)):=Eq.trans (hkeep2 (n1+13) (by omega) fun h=>by have:=hL1 _ h;omega) (Eq.trans cB r1')
     refine cV ?_
     refine⟨i+1,by omega,cI,by omega,by omega,ca,⟨_,cA⟩,hM2.cT fun y hy=> ?_,by omega,⟨_,cA⟩⟩
     have:=hL1 y hy;have:=hL0 y hy;exact cB
    ·have r0:decide ((i:Int)<((v.map i64).length:Int))=decide (i<v.length):=by rw[a1];simp
     obtain⟨hK2,hat2⟩:=hst (v.take i)
     generalize eK u m (v.take i)=m2 at *
     refine cV ?_
     have hM2:∀{H':Hp},(∀y∈L.all,bw H' y=bw H y)->L.At u m2 H':=fun h=>hM.cT h
     have hno:n1+13∉L.all:=fun h=>by have:=hL1 _ h;omega
     refine aU (fun i:Nat=>[(1,cL w),(2,cL v),(3, .pt 0 1 0 0),(7,cL k),(10,m2.fz u),(11, .sl (n1+13) k.length),(14,i64 i)])
      (fun i H n=>i<=k.length/\n1+14<=n/\(∃d,bw H 0=some (.row 25 3 d [u.av]))/\∃d,bw H (n1+13)=some (.row 3 1 d (ej f k.length k.length))) (fun i=>k.length - i) 0
      ⟨_,_,_,Rt.slot 10 rfl (GV (hM2 fun y hy=> ?_) _),cI,Nat.zero_le _,ca,⟨_,(dn hz).trans (Eq.trans cB r0')⟩,⟨_,(dn hno).trans (Eq.trans cB r1')⟩⟩ ?_
     ·have:=hL1 y hy;have:=hL0 y hy;exact cB
     clear hM hM2 r0' r1' r0
     rintro i H n ⟨hi,hn,⟨d0,r0'⟩,⟨d1,r1'⟩⟩
     have aF:(ej f k.length k.length).length=k.length:=uL ..
     by_cases hil:i<k.length
     ·obtain⟨t,ht,htl⟩:=atv i hil
      have hmem:k.getD i 0∈k:=cS 0 hil
      have e0:∀d,(k.map i64).getD ((i:Int)).toNat d=i64 (t:Int):=fun d=>by rw[<-ht];exact ints_at hil d
      have e1:∀d,(ej f k.length k.length).getD ((i:Int)).toNat d=i64 (m.at_.getD t 0):=fun d=>by rw[Int.toNat_natCast,HJ f hil,hf];dsimp only;rw[ht,Int.toNat_natCast]
      have c0:=GU u m2 hs2.ok htl
      have hsame:=hat2 _ hmem
      rw[ht,Int.toNat_natCast] at hsame
      rw[hsame] at c0
      have c1:=yx u hr m2 hs2.ok t
      have hbar:=hK2.GY hs2.ok hmem
      rw[ht] at hbar
      rw[hbar,show decide ((71:Int)=0)=false from rfl] at c1
      have r0:decide (m.at_.getD t 0≠m.at_.getD t 0)=false:=decide_eq_false fun h=>h rfl
      refine cV ?_
      exact⟨i+1,by omega,_,_,_,Rt.refl _ _ _,cI,by omega,ca,⟨_,cA⟩,⟨_,cA⟩⟩
     ·obtain rfl:i=k.length:=by omega
      refine cV ?_
      have hview:∀{H':Hp} {d:AV} {b:Nat},bw H' b=some (.row 3 1 d ([]++w.map i64++v.map i64))->[u.av,AV.sl b (0+(w.map i64).length+(v.map i64).length)].map (cp.dX H' 6)=[u.av,cL (w++v)]:=fun {H' d b} h=>by
       show[cp.dX H' 6 u.av,cp.dX H' 6 (.sl b (0+(w.map i64).length+(v.map i64).length))]=_
       rw[dj _ (show cK 0 u.av by simp[cK,c8,cD]),dZ (k:=5) h (by simp)]
       rw[cx _ (by rw[List.nil_append,<-List.map_append];exact(cD _ _).2 fun _ _=>by simp[cK]),List.nil_append,<-List.map_append]
      have hfa:c8 0 [u.av,cL (w++v)]:=by simp[cK,c8,cD,-List.map_append]
      by_cases hlong:1048576<(w++v).length
      ·have c3:Pure Tryz.prog 21 [u.av,cL (w++v)] (fun r=>r= .dO [.sc (.slice none 0 0),bl false,i64 3]):=
        cm ((u6 u hu hr (w++v) hlong).mono fun r H n h=>by rw[h];rfl) (by simp[cK,c8])
       refine aS c3 (hview cA) hfa (by simp[fT,kI]) ?_
       refine cV ?_
       exact⟨rfl⟩
      ·have hv2:=hst v
       obtain⟨b,hb,hbk⟩:=sL hv2.1
       rw[<-hplay] at hb
       have hbp:=(CH hr ((pL.new hu hr).s9 hu hr).ok hb).ring.pos
       refine aI (cO.CB (e:=3) (sz:=1) (es:=b.map i64) (cs:=[bl true,i64 0]) (args2:=[u.av,cL (w++v)]) (by simp[kI,fT]) ((ph u hu hr (w++v) (by omega)).mono ?_) ?_ (hview cA) hfa) ?_
       ·intro r H1 n1 hR
        unfold ta at hR
        rw[hb] at hR
        simpa using hR
       ·intro i hi
        rw[List.length_map] at hi
        simp[List.getD,hi,fT]
       rintro _ H4 n4 ⟨rfl,rfl,rfl⟩
       have aB:(b.map i64).length=b.length:=List.length_map _
       have e0:∀d,(b.map i64).getD (0:Int).toNat d=i64 (b.getD 0 0):=fun d=>dJ i64 b 0 d hbp
       have e1:∀d,(k.map i64).getD (0:Int).toNat d=i64 (k.getD 0 0):=fun d=>dJ i64 k 0 d hp
       by_cases hlt:b.getD 0 0<k.getD 0 0
       ·have r0:=decide_eq_true hlt
        refine cV ?_
        exact⟨rfl⟩
       ·have r0:=decide_eq_false hlt
        have hbe:b=k:=hbk.resolve_left hlt
        subst hbe
        refine cV ?_
        refine aS (args2:=[cL b,cL b]) (j3 b b (by omega) (by omega)) (vY (FY cA) (LG b)) (by simp[c8,cK,cD]) trivial ?_
        rw[decide_eq_true rfl]
        refine cV ?_
        exact⟨rfl⟩
 ·have c2:=MA u hu w hc
  have hl:(iT u w).isSome=false->((iT u w).getD []).length=0:=fun h=>by
   cases hq:iT u w with
   |none=>rfl
   |some x=>rw[hq] at h;cases h
  generalize lP u w=e1 at *
  generalize (iT u w).isSome=b1 at *
  generalize (iT u w).getD []=l1 at *
  have a0:(l1.map i64).length=l1.length:=List.length_map _
  refine aG VI rfl ?_
  by_cases h1:e1=0
  ·have r0:decide (e1≠0)=false:=decide_eq_false fun h=>h h1
   cases b1 with
   |true=>
    by_cases h2:l1.length=0
    ·have r1:decide (((l1.map i64).length:Int)=0)=true:=decide_eq_true (by omega)
     refine cV ?_
     first|exact rfl|trivial
    ·have r1:decide (((l1.map i64).length:Int)=0)=false:=decide_eq_false (by omega)
     refine cV ?_
     first|exact rfl|trivial
   |false=>
    have r1:decide (((l1.map i64).length:Int)=0)=true:=decide_eq_true (by have:=hl rfl;omega)
    refine cV ?_
    first|exact rfl|trivial
  ·have r0:decide (e1≠0)=true:=decide_eq_true h1
   refine cV ?_
   first|exact rfl|trivial
end Go.Proofs.YtjopoheligmmoaaGreatDoor
