import Derived.Test.YtjopoheligmmoaaGreatDoorM45
import Derived.Test.YtjopoheligmmoaaGreatDoorM41
import Derived.Test.YtjopoheligmmoaaGreatDoorM46
import Derived.Test.YtjopoheligmmoaaGreatDoorM38
import Derived.Test.YtjopoheligmmoaaGreatDoorM33
import Derived.Test.YtjopoheligmmoaaGreatDoorM36
section
/- Ends as rows of the caller's own; what deletes from them. -/
namespace Go.cY
open Go.RowKit
set_option linter.unusedSimpArgs false
set_option linter.unusedVariables false
theorem cJ.rt {P:Program} {f:FuncId} {args:List AV} {H:Hp} {nx:Nat} {R R2:AV→Hp→Nat→Prop} (h:cJ P f args H nx R) (hR:∀r H' n,R r H' n→∃fr2 H2 n2,Rt [(0,r)] H' n fr2 H2 n2∧R2 (ca fr2 0) H2 n2):cJ P f args H nx R2:=by
 refine⟨h.1,fun w0 c vs a1 a2 a3 a4=>(h.2 w0 c vs a1 a2 a3 a4).mono ?_⟩
 rintro e w' ⟨v,r,H',nx',ρ,U,rfl,hRr,hU,hS,hle,hv⟩
 obtain⟨fr2,H2,n2,hw,hR2⟩:=hR r H' nx' hRr
 have hh:Holds w0 c.M0 ⟨ρ,bt H',U,w',c.M0⟩ nx' 1 [(0,r)] H' nx' ⟨#[v],[]⟩ w':=by
  refine⟨rfl,rfl,ρ,U,hU,hS,fun t=> ?_,⟨hU,Cx.le.refl _⟩⟩
  by_cases ht:t=0
  ·subst ht;exact hv
  ·have:ca [(0,r)] t= .any:=by simp[ca,ht]
   rw[this];exact dO.any _ _ _ _ (by rw[VR];trivial)
 obtain⟨_,_,ρ2,U2,k1,k2,k3,k4⟩:=hw _ _ _ _ _ _ _ hh
 exact⟨v,_,H2,n2,ρ2,U2,rfl,hR2,k1,k2,hle.trans k4.2,k3 0⟩
theorem cJ.Q5 {P:Program} {f:FuncId} {args:List AV} {e:TypeId} {sz:Nat} {es cs:List AV} (da:lp cs) (h:cJ P f args [] 0 (fun r1 H1 _=>∃b d0,r1= .dP (.sl b es.length::cs)∧bt H1 b=some (.row e sz d0 es))) (hes:cZ 0 es) (d:AV) {H:Hp} {id:Nat} (hfa:cZ 0 args):
 jz P f args H id (fun r' H''=>r'= .dP (.sl id es.length::cs)∧H''=dC H (some (id, .row e sz d es))):=by
 refine⟨h.1,fun w0 c vs hS hH hid hv=> ?_⟩
 have hS0:dY c.w ⟨fun _=>none,bt [],fun _=>False,c.w,c.M⟩:=⟨Below.refl _ _,hS.fit,fun b e sz d es he=>by simp[bt] at he,fun b b' k k' blk o z o' z' hk=>by simp[bt] at hk⟩
 have hv':cd ⟨fun _=>none,bt [],fun _=>False,c.w,c.M⟩ args vs:=cd.mM (fun _ h=>h) hfa hv
 refine(h.2 c.w _ vs hS0 rfl (fun _ h=>h.elim) hv').mono ?_
 rintro en w' ⟨v,r1,H1,nx',ρ,U,he,⟨b,d0,rfl,hb⟩,hU,hS',_,hvr⟩
 rw[VR] at hvr
 obtain⟨us,hus,hvr⟩:=hvr
 rw[cd] at hvr
 obtain⟨x,v3,hx3,hvr,hv3⟩:=hvr
 have fin:∀c2:Cx,VR c2 (.sl id es.length) x→VR c2 (.dP (.sl id es.length::cs)) v:=fun c2 h2=>by
  rw[VR]
  refine⟨us,hus, ?_⟩
  rw[hx3,cd]
  exact⟨x,v3,rfl,h2,mZ da hv3⟩
 rw[VR] at hvr
 obtain⟨_,ad,cap,hvv,hrr⟩:=hvr
 obtain⟨_,hr2⟩:=hrr _ _ _ _ hb
 have hr3:=hr2 rfl
 obtain⟨_,hz,hor⟩:=hS'.jU b _ _ _ _ hb (sx hr3)
 have hbel:=hS'.below
 obtain⟨s1,s2⟩:=hS.world hbel
 have hHeq:bt (dC H (some (id, .row e sz d es)))=eu c.H id (some (.row e sz d es)):=by rw[dU,hH]
 rcases hor with⟨h0,hes0⟩|⟨blk,o,z,hρ,hlow,⟨arr,harr,hsz⟩,hlz,hrow⟩
 ·subst hes0
  obtain⟨p1,p2⟩:=s1.JW (b:=id) (e:=e) (sz:=sz) d hz hid
  refine⟨v,_,_,eu c.ρ id none,he,⟨rfl,rfl⟩, ?_, ?_,fin _ ?_⟩
  ·rw[hHeq];exact p1
  ·rw[hHeq];exact s2.trans p2
  ·rw[hHeq,VR]
   refine⟨.inr rfl,ad,cap,hvv,fun e' sz' d' es' he'=> ?_⟩
   simp only[iT,dJ,Option.some.injEq,eT.row.injEq] at he'
   obtain⟨rfl,rfl,rfl,rfl⟩:=he'
   refine⟨Nat.le_refl _,fun _=> .inl ⟨by simp[iT], ?_⟩⟩
   rcases hr3 with⟨_,h2,h3⟩|⟨blk,o,z,h2,_⟩
   ·exact⟨h2,h3⟩
   ·rw[h0] at h2;cases h2
 ·obtain⟨p1,p2⟩:=hS.pI (b:=id) (e:=e) (sz:=sz) d (es:=es) (w':=w') (blk:=blk) (o:=o) (z:=z) hz (.inl hid) (.inl hlow) hbel.os hbel.tape hbel.output hbel.size (fun k hk _=>hbel.block k hk) harr hsz hlz (fun hle i hi=>by
   obtain⟨y,x1,x2⟩:=dc hrow i hi
   refine⟨y,x1, ?_⟩
   refine VR.gB (n:=0) ?_ ?_ x2
   ·refine⟨fun b hb=>absurd hb (Nat.not_lt_zero _),fun q hq _=>⟨rfl,fun hm=>hq ?_⟩,fun b hb=>absurd hb (Nat.not_lt_zero _)⟩
    rcases hm with hm|⟨b',k',o',z',h1,h2⟩
    ·exact Or.inl (show c.M q from Or.inl hm)
    ·dsimp only at h1 h2
     by_cases e:b'=id
     ·subst e
      rw[dJ] at h2
      cases h2
      exact Or.inr ⟨b,_,_,_,hb,hρ⟩
     ·simp only[eu,if_neg e] at h1 h2
      exact Or.inl (show c.M q from Or.inr ⟨b',k',o',z',h1,h2⟩)
   ·have hx4:es.getD i .any=es[i]:=by simp[List.getD,hi]
    rw[hx4]
    exact oX hes _ (List.getElem_mem hi))
  refine⟨v,_,_,eu c.ρ id (some (blk,o,z)),he,⟨rfl,rfl⟩, ?_, ?_,fin _ ?_⟩
  ·rw[hHeq];exact p1
  ·rw[hHeq];exact p2
  ·rw[hHeq,VR]
   refine⟨.inr rfl,ad,cap,hvv,fun e' sz' d' es' he'=> ?_⟩
   simp only[iT,dJ,Option.some.injEq,eT.row.injEq] at he'
   obtain⟨rfl,rfl,rfl,rfl⟩:=he'
   refine⟨by omega,fun _=> .inr ⟨blk,o,z,by simp[iT], ?_⟩⟩
   rcases hr3 with⟨h2,_,_⟩|⟨blk',o',z',h2,h3,h4,h5,h6⟩
   ·rw[hρ] at h2;cases h2
   ·rw[hρ] at h2;cases h2
    exact⟨h3,h4,h5,h6⟩
theorem cJ.MO {P:Program} {f:FuncId} {args:List AV} {e:TypeId} {sz:Nat} {es cs:List AV} (da:lp cs) (h:cJ P f args [] 0 (fun r1 H1 _=>∃b d0,r1= .dP (.sl b es.length::cs)∧bt H1 b=some (.row e sz d0 es))) (hes:cZ 0 es) (hfa:cZ 0 args) {H:Hp} {nx:Nat}:
 cJ P f args H nx (fun r H' n=>r= .dP (.sl nx es.length::cs)∧H'=(nx,some (.row e sz .any es))::H∧n=nx+1):=
 (jz.W9 (h.Q5 da hes .any hfa)).mono fun r H' n ⟨⟨h1,h2⟩,h3⟩=>⟨h1,h2,h3⟩
end Go.cY
namespace Go.Proofs.YtjopoheligmmoaaGreatDoor
open Go Go.cY Go.Proofs
set_option linter.unusedSimpArgs false
set_option linter.unusedVariables false
set_option maxRecDepth 8000
set_option maxHeartbeats 4000000 in
theorem xV (o:Nat) (l:List cm) (hl:l.length≤65536) (hok:∀e∈l,e.cP.length<9223372036854775807∧e.mem.length<9223372036854775807) (H:Hp) (nx:Nat) (ho:o<nx) (hr:∃d,bt H o=some (.row 105 3 d (l.map cm.av))):
 cJ Tryz.prog 97 [.sl o l.length, .fn (.func 98) [] []] H nx (fun r H' n=>nx≤n∧(∀y,y<nx→y≠o→bt H' y=bt H y)∧(r= .sl o l.length∧(kq l l.length).length=l.length∧(∃d,bt H' o=some (.row 105 3 d ((kq l l.length).map cm.av)))∨∃es:List AV,r= .sv o l.length 0 (kq l l.length).length∧es.length=l.length∧(kq l l.length).length≤l.length∧es.take (kq l l.length).length=(kq l l.length).map cm.av∧∃d,bt H' o=some (.row 105 3 d es))):=by
 obtain⟨d0,r0'⟩:=hr
 have a0:(l.map cm.av).length=l.length:=by simp
 have same:∀i j,i<l.length→j<l.length→Pure Tryz.prog 98 [(l.getD i default).av,(l.getD j default).av] (fun r=>r=bl (decide (l.getD i default=l.getD j default))):=fun i j hi hj=>by
  obtain⟨p1,p2⟩:=hok _ (cS default hi)
  have:=oA (l.getD i default) (l.getD j default) p1 p2
  simpa only[pf] using this
 refine aL JD rfl ?_
 by_cases h2:l.length<2
 ·refine cU ?_
  have:kq l l.length=l:=by
   match l,h2 with
   |[],_=>rfl
   |[x],_=>rfl
  rw[this]
  exact⟨⟨c8,fun y y1 y2=>cA, .inl ⟨rfl,rfl,d0,bx⟩⟩⟩
 ·refine cU ?_
  refine aM (fun i:Nat=>[(0, .sl o l.length),(1, .fn (.func 98) [] []),(5,i64 i)]) (fun i H2 n=>1≤i∧i≤l.length∧nx≤n∧bt H2 o=some (.row 105 3 d0 (l.map cm.av))∧kq l i=l.take i∧∀y,y<nx→y≠o→bt H2 y=bt H y) (fun i=>l.length - i) 1 cH ⟨Nat.le_refl _,by omega,c8,bx,by rw[kq];cases l with|nil=>simp at h2|cons x t=>rfl,fun y y1 y2=>cA⟩ ?_
  clear r0'
  rintro i H2 n ⟨hi1,hi,hn,r0',hdd,hkp⟩
  by_cases hil:i<l.length
  ·have e0:∀d,(l.map cm.av).getD ((i:Int)).toNat d=(l.getD i default).av:=fun d=>by rw[Int.toNat_natCast];exact gX hil d
   have e1:∀d,(l.map cm.av).getD ((i:Int) - 1).toNat d=(l.getD (i - 1) default).av:=fun d=>by rw[show((i:Int) - 1).toNat=i - 1 by omega];exact gX (by omega) d
   have c0:=same i (i - 1) hil (by omega)
   have hsu:=oU l hi1
   by_cases he:l.getD i default=l.getD (i - 1) default
   ·rw[decide_eq_true he] at c0
    rw[if_pos he] at hsu
    refine cU ?_
    refine aM (fun σ:Nat×Nat×List cm=>[(0, .sl o l.length),(1, .fn (.func 98) [] []),(5,i64 σ.1),(6, .sv o l.length i (l.length - i)),(7,i64 σ.2.1)])
     (fun σ H2 n=>1≤σ.2.1∧i+σ.2.1≤l.length∧i≤σ.1∧σ.1+1≤i+σ.2.1∧σ.2.2.length=l.length∧(∀q,σ.1≤q→σ.2.2.getD q default=l.getD q default)∧σ.2.2.take σ.1=kq l (i+σ.2.1)∧nx≤n∧(∃d,bt H2 o=some (.row 105 3 d (σ.2.2.map cm.av)))∧∀y,y<nx→y≠o→bt H2 y=bt H y) (fun σ=>l.length - σ.2.1) (i,1,l) cH
     ⟨Nat.le_refl _,by show i+1≤l.length;omega,Nat.le_refl _,Nat.le_refl _,rfl,fun _ _=>rfl,by dsimp only;rw[hsu,hdd],c8,⟨_,bx⟩,fun y y1 y2=>Eq.trans cA (hkp y y1 y2)⟩ ?_
    clear c0 e0 e1 hsu hdd r0' hn hkp
    rintro⟨k,j,es⟩ H3 n ⟨hj1,hj,hik,hkj,hel,hsame,hdd,hn,⟨d1,r1'⟩,hkp⟩
    dsimp only at hj1 hj hik hkj hel hsame hdd r1' ⊢
    have a1:(es.map cm.av).length=l.length:=by simp[hel]
    by_cases hjl:j<l.length - i
    ·have e0:∀d,(es.map cm.av).getD (i+((j:Int)).toNat) d=(l.getD (i+j) default).av:=fun d=>by rw[Int.toNat_natCast,gX (by omega) d,hsame _ (by omega)]
     have e1:∀d,(es.map cm.av).getD (i+((j:Int) - 1).toNat) d=(l.getD (i+j - 1) default).av:=fun d=>by rw[show i+((j:Int) - 1).toNat=i+j - 1 by omega,gX (by omega) d,hsame _ (by omega)]
     have e2:∀d,(es.map cm.av).getD ((k:Int)).toNat d=(es.getD k default).av:=fun d=>by rw[Int.toNat_natCast];exact gX (by omega) d
     have c0:=same (i+j) (i+j - 1) (by omega) (by omega)
     have hsu:=oU l (k:=i+j) (by omega)
     by_cases he2:l.getD (i+j) default=l.getD (i+j - 1) default
     ·rw[decide_eq_true he2] at c0
      rw[if_pos he2] at hsu
      refine cU ?_
      exact⟨(k,j+1,es),by dsimp only;omega,cH,by dsimp only;omega,by dsimp only;omega,hik,by dsimp only;omega,hel,hsame,by dsimp only;rw[←Nat.add_assoc,hsu];exact hdd,c8,⟨d1,bx⟩,fun y y1 y2=>Eq.trans cA (hkp y y1 y2)⟩
     ·rw[decide_eq_false he2] at c0
      rw[if_neg he2] at hsu
      refine cU ?_
      refine⟨(k+1,j+1,es.set k (l.getD (i+j) default)),by dsimp only;omega,cH,by dsimp only;omega,by dsimp only;omega,by dsimp only;omega,by dsimp only;omega,by simp[hel],fun q hq=> ?_, ?_,c8,⟨d1,by dsimp only;rw[List.map_set];exact bx⟩,fun y y1 y2=>Eq.trans cA (hkp y y1 y2)⟩
      ·have hq:k+1≤q:=hq
       dsimp only
       rw[getD_set_ne (by omega)];exact hsame q (by omega)
      ·dsimp only
       rw[←Nat.add_assoc,hsu,jx (by omega),hdd]
    ·obtain rfl:j=l.length - i:=by omega
     rw[show i+(l.length - i)=l.length by omega] at hdd
     refine cU ?_
     rw[Int.toNat_natCast]
     have hkl:k≤l.length:=by omega
     have hkd:(kq l l.length).length=k:=by rw[←hdd,List.length_take,hel];omega
     generalize hZ:List.replicate (l.length - k) (gM true [Value.slice none 0 0,Value.slice none 0 0,Value.bool false])=Z
     have hZl:Z.length=l.length - k:=by rw[←hZ];simp
     rw[hkd]
     refine⟨⟨c8,fun y y1 y2=>Eq.trans cA (hkp y y1 y2), .inr ⟨(es.map cm.av).take k++Z++(es.map cm.av).drop (k+(l.length - k)),rfl, ?_,hkl, ?_,d1,bx⟩⟩⟩
     ·simp[hZl,hel];omega
     ·rw[List.append_assoc,List.take_append_of_le_length (by simp;omega),List.take_take,Nat.min_self,←List.map_take,hdd]
   ·rw[decide_eq_false he] at c0
    rw[if_neg he] at hsu
    refine cU ?_
    refine⟨i+1,by omega,cH,by omega,by omega,c8,bx, ?_,fun y y1 y2=>Eq.trans cA (hkp y y1 y2)⟩
    rw[hsu,hdd,List.take_succ_eq_append_getElem hil,show l.getD i default=l[i] by simp[List.getD,hil]]
  ·obtain rfl:i=l.length:=by omega
   rw[List.take_length] at hdd
   refine cU ?_
   rw[hdd]
   exact⟨⟨c8,fun y y1 y2=>Eq.trans cA (hkp y y1 y2), .inl ⟨rfl,rfl,d0,bx⟩⟩⟩
theorem tS (o:Nat) (l:List cm) (hl:l.length≤65536) (hok:∀e∈l,e.cP.length<9223372036854775807∧e.mem.length<9223372036854775807) (H:Hp) (nx:Nat) (ho:o<nx) (hr:∃d,bt H o=some (.row 105 3 d (l.map cm.av))):
 cJ Tryz.prog 97 [.sl o l.length, .fn (.func 98) [] []] H nx (fun r H' n=>∃b,r= .sl b (kq l l.length).length∧(b=o∨nx≤b)∧b<n∧nx≤n∧(∃d,bt H' b=some (.row 105 3 d ((kq l l.length).map cm.av)))∧∀y,y<nx→y≠o→bt H' y=bt H y):=by
 refine(xV o l hl hok H nx ho hr).rt ?_
 rintro r H' n ⟨hn,hk,⟨rfl,h1,h2⟩|⟨es,rfl,h1,h2,h3,d,h4⟩⟩
 ·exact⟨_,H',n,Rt.refl _ _ _,o,by rw[h1];rfl, .inl rfl,by omega,hn,h2,hk⟩
 ·refine⟨_,_,n+1,Rt.part 0 rfl h4 h1 (by omega),n,rfl, .inr hn,by omega,by omega,⟨.any, ?_⟩,fun y y1 y2=> ?_⟩
  ·rw[List.drop_zero,h3];exact cp _ _ _
  ·exact(cX (by omega)).trans ((cX y2).trans (hk y y1 y2))
set_option maxHeartbeats 2000000 in
theorem HV (u:bw) (hu:u.Wf) (most:Int) (h0:(eH u most).1=0):cJ Tryz.prog 54 [u.av,i64 most] [] 0 (fun r H n=>∃b d,r= .dP [.sl b (gq u (eH u most).2).length,i64 0]∧bt H b=some (.row 105 3 d ((gq u (eH u most).2).map cm.av))):=by
 refine aL I9 rfl ?_
 by_cases hr:cT u
 ·by_cases hm:1≤most∧most≤65536
  ·rw[oO hr hm] at h0 ⊢
   refine cU ?_
   let l:=(gU u most.toNat).getD []
   let I:Nat→Hp→Prop:=fun k H=>(∃d,bt H 0=some (.row 25 3 d [u.av]))∧(∃d,bt H 3=some (.row 41 1 d [.sl 7 (dS u l k).length]))∧(∃d,bt H 7=some (.row 105 3 d ((dS u l k).map cm.av)))
   refine aJ (R:=fun r H n=>8≤n∧wh u most I r H) (LP (b:=3) 105 3 (by omega) (by omega) (d:=gM false [.slice none 0 0]) (te:=41) ?_ fun H2 q1 q2 q3=> ?_) ?_
   ·exact bx
   ·refine(rU u hu hr most hm _ [.pt 0 1 0 0, .pt 3 1 0 0] H2 8 I ?_ ?_ ?_).mono fun r H n h=>⟨h.1,h.short⟩
    ·exact⟨⟨_,(q3 0 (by omega) (by omega)).trans bx⟩,⟨_,q1⟩,⟨_,q2⟩⟩
    ·rintro k H H' ⟨⟨d0,p0⟩,⟨d1,p1⟩,⟨d2,p2⟩⟩ hk
     exact⟨⟨d0,(hk 0 (by omega)).trans p0⟩,⟨d1,(hk 3 (by omega)).trans p1⟩,⟨d2,(hk 7 (by omega)).trans p2⟩⟩
    ·intro l' hl' k H n hk hn ⟨p0,p1,p2⟩
     have hll:l=l':=by show(gU u most.toNat).getD []=l';rw[hl'];rfl
     rw[hll] at p1 p2
     obtain⟨hf,hlm,_⟩:=kn hu hr (by omega) hl'
     refine(EK hr hf (by omega) hk (ub:=0) (ob:=3) (o:=7) (by omega) (by omega) (by omega) (by omega) p0 p1 p2).mono ?_
     rintro _ H' n' ⟨s1,s2,s3,s4⟩
     obtain⟨d0,p0⟩:=p0
     refine⟨⟨⟨d0,(s4 0 (by omega) (by omega) (by omega)).trans p0⟩, ?_, ?_⟩,s3,fun y y1 y2=>s4 y y2 (by omega) (by omega)⟩
     ·rw[hll];exact s1
     ·rw[hll];exact s2
   rintro r H' n' ⟨hn,hA⟩
   revert hA
   unfold wh
   cases hs:gU u most.toNat with
   |none=>rw[hs] at h0;cases h0
   |some l'=>
    rintro⟨rfl,⟨d0,p0⟩,⟨d1,p1⟩,p2⟩
    have hll:l=l':=by show(gU u most.toNat).getD []=l';rw[hs];rfl
    rw[hll] at p1 p2
    obtain⟨hf,hlm,_⟩:=kn hu hr (by omega) hs
    have hin:=uM hr hf (by omega) l'.length
    have hlen:=ky u l' l'.length
    refine cU ?_
    refine aJ (vE 7 (dS u l' l'.length) hin (by omega) _ _ p2 c8) ?_
    rintro r H3 n3 ⟨⟨d5,r5⟩,hn3,hk3⟩
    have r6:=(hk3 3 c8 (by omega)).trans p1
    have hsl:(fc fq (dS u l' l'.length)).length=(dS u l' l'.length).length:=nC _ _
    refine cU ?_
    rw[←hsl]
    refine aJ (tS 7 (fc fq (dS u l' l'.length)) (by omega) (fun e he=>hin e ((lJ _ _).mem_iff.1 he)) _ _ c8 ⟨d5,r5⟩) ?_
    rintro r H4 n4 ⟨b,rfl,hb,hbn,hn4,⟨d6,r6⟩,hk4⟩
    refine cU ?_
    dsimp only
    have hE:gq u l'=kq (fc fq (dS u l' l'.length)) (fc fq (dS u l' l'.length)).length:=by rw[hsl];rfl
    rw[hE]
    exact⟨⟨b,d6,rfl,bx⟩⟩
  ·rw[kj hr hm] at h0;cases h0
 ·rw[oM hr] at h0;cases h0
def tV (f:cm→Bool):List cm→Nat→Int
 |[],_=>-1
 |e::l,k=>if f e=true then k else tV f l (k+1)
theorem sR (f:cm→Bool):∀(l:List cm) (k:Nat),tV f l k=-1∧(∀x∈l,f x=false)∨∃i:Nat,tV f l k=(k+i:Nat)∧i<l.length∧(∀x∈l.take i,f x=false)∧f (l.getD i default)=true
 |[],k=> .inl ⟨rfl,fun x hx=>by cases hx⟩
 |e::l,k=>by
  rw[tV]
  split
  ·rename_i h
   exact .inr ⟨0,rfl,by simp,by simp,h⟩
  ·rename_i h
   simp only[Bool.not_eq_true] at h
   rcases sR f l (k+1) with⟨h1,h2⟩|⟨i,h1,h2,h3,h4⟩
   ·refine .inl ⟨h1,fun x hx=> ?_⟩
    rcases List.mem_cons.1 hx with rfl|hx
    ·exact h
    ·exact h2 x hx
   ·refine .inr ⟨i+1,by rw[h1];congr 1;omega,by simpa using h2,fun x hx=> ?_,h4⟩
    rw[List.take_succ_cons] at hx
    rcases List.mem_cons.1 hx with rfl|hx
    ·exact h
    ·exact h3 x hx
theorem IW (f:cm→Bool) {l:List cm} {i:Nat} (h:i<l.length) (k:Nat):tV f (l.drop i) k=if f (l.getD i default)=true then(k:Int) else tV f (l.drop (i+1)) (k+1):=by
 rw[List.drop_eq_getElem_cons h,tV,show l.getD i default=l[i] by simp[List.getD,h]]
theorem pR (e:cm):Pure Tryz.prog 56 [e.av] (fun r=>r=bl e.ended):=by
 refine aI N5 rfl ?_
 refine cU ?_
 first|exact rfl|trivial
theorem xz (l:List cm) (hl:l.length≤65536):Pure Tryz.prog 99 [iR l, .fn (.func 56) [] []] (fun r=>r=i64 (tV cm.ended l 0)):=by
 refine aI OO rfl ?_
 refine cU ?_
 rw[List.length_map]
 refine aM (fun i:Nat=>[(0,iR l),(1, .fn (.func 56) [] []),(7,i64 l.length),(8,i64 i)])
  (fun i H2 n=>i≤l.length∧tV cm.ended (l.drop i) i=tV cm.ended l 0) (fun i=>l.length - i) 0
  cH ⟨Nat.zero_le _,rfl⟩ ?_
 rintro i H2 n ⟨hi,hix⟩
 have a0:(l.map cm.av).length=l.length:=List.length_map _
 by_cases hil:i<l.length
 ·have e0:∀d,(l.map cm.av).getD ((i:Int)).toNat d=(l.getD i default).av:=fun d=>by rw[Int.toNat_natCast];exact gX hil d
  rw[IW _ hil] at hix
  have c0:=pR (l.getD i default)
  generalize l.getD i default=x at *
  cases hx:x.ended with
  |true=>
   rw[hx] at c0
   rw[if_pos hx] at hix
   rw[←hix]
   refine cU ?_
   first|exact rfl|trivial
  |false=>
   rw[hx] at c0
   rw[if_neg (by rw[hx];simp)] at hix
   refine cU ?_
   exact⟨i+1,by omega,cH,by omega,hix⟩
 ·obtain rfl:i=l.length:=by omega
  rw[List.drop_length] at hix
  rw[←hix]
  refine cU ?_
  first|exact rfl|trivial
end Go.Proofs.YtjopoheligmmoaaGreatDoor
end
section
/- Stuck: the walk. -/
namespace Go.Proofs.YtjopoheligmmoaaGreatDoor
open Go Go.cY Go.Proofs
set_option linter.unusedSimpArgs false
set_option linter.unusedVariables false
set_option maxRecDepth 8000
def mA (l:List cm):List cm:=l.filter fun e=> !e.ended
abbrev T7:AV:= .fn (.func 56) [] []
theorem BJ:Pure Tryz.prog 55 [.sc (.slice none 0 0),T7] (fun r=>r= .sc (.slice none 0 0)):=by
 have c0:Pure Tryz.prog 99 [.sc (.slice none 0 0),T7] (fun r=>r=i64 (-1)):=
  Pure.args (xz [] (by decide)) fun c=> .cons (cY.dO.lW c c 3 .any) (.cons (fun _ h=>h) .nil)
 refine aI JA rfl ?_
 refine cU ?_
 first|exact rfl|trivial
theorem KK {H:Hp} {b:Nat} {d:AV} {l:List cm} (h:bt H b=some (.row 105 3 d (l.map cm.av))):[AV.sl b l.length,T7].map (cY.dX H 6)=[iR l,T7]:=by
 show[cY.dX H 6 (.sl b l.length),cY.dX H 6 T7]=_
 rw[dh (k:=5) h (by simp),cy _ (gY l),dv _ (show cK 0 T7 by simp[cK,cZ])]
set_option maxHeartbeats 4000000 in
theorem xY {l:List cm} (hl:l.length≤65536) {b:Nat} {H:Hp} {nx:Nat} (hb:∃d,bt H b=some (.row 105 3 d (l.map cm.av))) (hlt:b<nx):
 cJ Tryz.prog 55 [.sl b l.length,T7] H nx (fun r H' n=>cY.dX H' 5 r=iR (mA l)∧∃b m,r= .sl b m∨∃q,r= .sv b m 0 q):=by
 obtain⟨d0,r0'⟩:=hb
 have a0:(l.map cm.av).length=l.length:=List.length_map _
 have da:=sR cm.ended l 0
 refine aL JA rfl ?_
 refine cU ?_
 refine aS (xz l hl) (KK (d:=d0) bx) (by simp only[cZ,cK];exact⟨gY l,⟨trivial,trivial⟩,trivial⟩) (by simp[gA]) ?_
 rcases da with⟨h1,h2⟩|⟨i,h1,hil,h2,h3⟩
 ·rw[h1]
  refine cU ?_
  refine⟨?_,_,_, .inl rfl⟩
  have:mA l=l:=by
   unfold mA
   rw[List.filter_eq_self]
   intro e he
   rw[h2 e he];rfl
  rw[this]
  show cY.dX _ 5 (.sl b l.length)=_
  rw[dh (k:=4) bx a0,cy _ (gY l)]
 ·rw[h1,Nat.zero_add]
  have hst:(l.take (i+1)).filter (fun e=> !e.ended)=l.take i:=by
   rw[List.take_succ_eq_append_getElem hil,List.filter_append]
   have e1:(l.take i).filter (fun e=> !e.ended)=l.take i:=by
    rw[List.filter_eq_self]
    intro e he
    rw[h2 e he];rfl
   have e2:l[i]=l.getD i default:=by simp[List.getD,hil]
   rw[e1,e2,List.filter_cons,h3]
   simp
  refine cU ?_
  refine aM (fun σ:Nat×Nat×List cm=>[(0, .sl b l.length),(1,T7),(5,i64 σ.1),(6,i64 σ.2.1)])
   (fun σ H2 n=>σ.1+1≤σ.2.1∧σ.2.1≤l.length∧σ.2.2.length=l.length∧(∀q,σ.2.1≤q→σ.2.2.getD q default=l.getD q default)∧σ.2.2.take σ.1=(l.take σ.2.1).filter (fun e=> !e.ended)∧nx≤n∧(∃d,bt H2 b=some (.row 105 3 d (σ.2.2.map cm.av)))) (fun σ=>l.length - σ.2.1) (i,i+1,l)
   cH ⟨Nat.le_refl _,by show i+1≤l.length;omega,rfl,fun _ _=>rfl,hst.symm,c8,⟨_,bx⟩⟩ ?_
  clear r0' hst h1 h2 h3
  rintro⟨k,j,es⟩ H3 n ⟨hkj,hj,hel,hsame,hdd,hn,⟨d0,r0'⟩⟩
  dsimp only at hkj hj hel hsame hdd r0' ⊢
  have a1:(es.map cm.av).length=l.length:=by simp[hel]
  by_cases hjl:j<l.length
  ·have e0:∀d,(es.map cm.av).getD ((j:Int)).toNat d=(l.getD j default).av:=fun d=>by rw[Int.toNat_natCast,gX (by omega) d,hsame _ (by omega)]
   have e2:∀d,(es.map cm.av).getD ((k:Int)).toNat d=(es.getD k default).av:=fun d=>by rw[Int.toNat_natCast];exact gX (by omega) d
   have hnx:(l.take (j+1)).filter (fun e=> !e.ended)=(l.take j).filter (fun e=> !e.ended)++(if(l.getD j default).ended=true then[] else[l.getD j default]):=by
    rw[List.take_succ_eq_append_getElem hjl,List.filter_append,show l.getD j default=l[j] by simp[List.getD,hjl]]
    congr 1
    rw[List.filter_cons]
    cases l[j].ended<;>rfl
   have c0:=pR (l.getD j default)
   generalize l.getD j default=x at *
   cases hx:x.ended with
   |true=>
    rw[hx] at c0
    rw[if_pos hx,List.append_nil] at hnx
    refine cU ?_
    exact⟨(k,j+1,es),by dsimp only;omega,cH,by dsimp only;omega,by dsimp only;omega,hel,fun q hq=>hsame q (by dsimp only at hq;omega),by dsimp only;rw[hnx];exact hdd,c8,⟨d0,bx⟩⟩
   |false=>
    rw[hx] at c0
    rw[if_neg (by rw[hx];simp)] at hnx
    refine cU ?_
    refine⟨(k+1,j+1,es.set k x),by dsimp only;omega,cH,by dsimp only;omega,by dsimp only;omega,by simp[hel],fun q hq=> ?_, ?_,c8,⟨d0,by dsimp only;rw[List.map_set];exact bx⟩⟩
    ·have hq:j+1≤q:=hq
     dsimp only
     rw[getD_set_ne (by omega)];exact hsame q (by omega)
    ·dsimp only
     rw[hnx,jx (by omega),hdd]
  ·obtain rfl:j=l.length:=by omega
   rw[List.take_length] at hdd
   refine cU ?_
   refine⟨?_,_,_, .inr ⟨_,rfl⟩⟩
   rw[Int.toNat_natCast]
   have hkl:k≤l.length:=by omega
   generalize hZ:List.replicate (l.length - k) (gM true [Value.slice none 0 0,Value.slice none 0 0,Value.bool false])=Z
   have hZl:Z.length=l.length - k:=by rw[←hZ];simp
   have hr2:∀G:Hp,(∃d,bt G b=some (.row 105 3 d ((es.map cm.av).take k++Z++(es.map cm.av).drop (k+(l.length - k)))))→cY.dX G 5 (.sv b l.length 0 (k - 0))=iR (mA l):=by
    rintro G ⟨d,hG⟩
    rw[MP (k:=4) hG (by simp[hZl,hel];omega),List.drop_zero,Nat.sub_zero,List.append_assoc,List.take_append_of_le_length (by simp;omega),List.take_take,Nat.min_self,←List.map_take,hdd,cy _ (gY _)]
    rfl
   exact hr2 _ ⟨d0,bx⟩
noncomputable def fY (u:bw) (most:Int):List cm:=if(eH u most).1=0 then mA (gq u (eH u most).2) else[]
theorem x6 (u:bw) (l:List cV):(gq u l).length≤l.length:=Nat.le_trans (EH _ _) (ky u l l.length)
theorem D8 {u:bw} (hu:u.Wf) {most:Int} (h0:(eH u most).1=0):cT u∧(1≤most∧most≤65536)∧∃l,gU u most.toNat=some l∧(eH u most).2=l:=by
 by_cases hr:cT u
 ·by_cases hm:1≤most∧most≤65536
  ·rw[oO hr hm] at h0 ⊢
   cases hs:gU u most.toNat with
   |none=>rw[hs] at h0;cases h0
   |some l=>exact⟨hr,hm,l,rfl,rfl⟩
  ·rw[kj hr hm] at h0;cases h0
 ·rw[oM hr] at h0;cases h0
theorem D7 {u:bw} (hu:u.Wf) {most:Int} (h0:(eH u most).1=0):(eH u most).2.length≤65536:=by
 obtain⟨hr,hm,l,hs,he⟩:=D8 hu h0
 obtain⟨_,h2,_⟩:=kn hu hr (by omega) hs
 rw[he];omega
theorem EP (l:List cm) (e:Int):cK 0 (.dP [iR l,i64 e]):=by
 have:=gY l
 simp[cK,cZ,this]
set_option maxHeartbeats 1000000 in
theorem w7 (u:bw) (hu:u.Wf) (most:Int):Pure Tryz.prog 23 [u.av,i64 most] (fun r=>r= .dP [iR (fY u most),i64 (eH u most).1]):=by
 have key:Pure Tryz.prog 23 [u.av,i64 most] (fun r=>r=if(eH u most).1=0 then .dP [iR (mA (gq u (eH u most).2)),i64 0] else .dP [.sc (.slice none 0 0),i64 (eH u most).1]):=by
  by_cases h0:(eH u most).1=0
  ·rw[if_pos h0]
   have hll:=D7 hu h0
   have hel:=x6 u (eH u most).2
   have hen:=HV u hu most h0
   have hfe:=gY (gq u (eH u most).2)
   generalize gq u (eH u most).2=es at *
   refine dD ?_ (EP _ _)
   refine aL I5 rfl ?_
   refine cU ?_
   refine aJ (cJ.MO (e:=105) (sz:=3) (es:=es.map cm.av) (cs:=[i64 0]) (by simp[lp]) (by rw[List.length_map];exact hen) hfe (by simp[cK,cZ,cC])) ?_
   rintro _ H1 n1 ⟨rfl,rfl,rfl⟩
   rw[List.length_map]
   refine cU ?_
   refine aJ (xY (b:=5) (l:=es) (by omega) ⟨.any, ?_⟩ ?_) ?_
   ·exact bx
   ·exact c8
   rintro r H2 n2 ⟨hfz,b,m,hform⟩
   rcases hform with rfl|⟨q,rfl⟩
   all_goals
    refine cU ?_
    refine⟨?_⟩
    show AV.dP [cY.dX _ 5 _,i64 0]=_
    exact congrArg (fun x=>AV.dP [x,i64 0]) hfz
  ·rw[if_neg h0]
   have c0:=HW u hu most
   unfold uK at c0
   rw[if_neg h0] at c0
   have c1:=BJ
   generalize (eH u most).1=er at *
   refine aI I5 rfl ?_
   refine cU ?_
   first|exact rfl|trivial
 refine iD key (EP _ _) fun c=> ?_
 unfold fY
 by_cases h0:(eH u most).1=0
 ·rw[if_pos h0,if_pos h0,h0];exact fun _ h=>h
 ·rw[if_neg h0,if_neg h0]
  exact dO.dP (.cons (dO.lW _ _ _ _) (.cons (fun _ h=>h) .nil))
end Go.Proofs.YtjopoheligmmoaaGreatDoor
end
section
/- More is the same: the least that is enough. -/
namespace Go.Proofs.YtjopoheligmmoaaGreatDoor
open Go Go.cY Go.Proofs
set_option linter.unusedSimpArgs false
set_option linter.unusedVariables false
set_option maxRecDepth 8000
end Go.Proofs.YtjopoheligmmoaaGreatDoor
end
section
/- Ends: in order, each once. -/
namespace Go.Proofs.YtjopoheligmmoaaGreatDoor
open Go Go.cY Go.Proofs
set_option linter.unusedSimpArgs false
set_option linter.unusedVariables false
theorem vr (l:List cm):∀k,∀e∈kq l k,∃j,j<k∧e=l.getD j default
 |0,e,h=>by simp[kq] at h
 |1,e,h=>by simp only[kq,List.mem_cons,List.not_mem_nil,or_false] at h;exact⟨0,by omega,h⟩
 |k+2,e,h=>by
  rw[kq] at h
  split at h
  ·obtain⟨j,h1,h2⟩:=vr l (k+1) e h
   exact⟨j,by omega,h2⟩
  ·rcases List.mem_append.1 h with h|h
   ·obtain⟨j,h1,h2⟩:=vr l (k+1) e h
    exact⟨j,by omega,h2⟩
   ·simp only[List.mem_cons,List.not_mem_nil,or_false] at h
    exact⟨k+1,by omega,h⟩
theorem qx (l:List cm):∀k j,j<k→l.getD j default∈kq l k
 |0,j,h=>by omega
 |1,j,h=>by
  obtain rfl:j=0:=by omega
  simp[kq]
 |k+2,j,h=>by
  rw[kq]
  split
  ·rename_i e
   by_cases hj:j=k+1
   ·rw[hj,e];exact qx l (k+1) k (by omega)
   ·exact qx l (k+1) j (by omega)
  ·by_cases hj:j=k+1
   ·rw[hj];exact List.mem_append.2 (.inr (by simp))
   ·exact List.mem_append.2 (.inl (qx l (k+1) j (by omega)))
theorem wV {α:Type} {R:α→α→Prop} {l:List α} (h:l.Pairwise R) (d:α) {i j:Nat} (hi:i<j) (hj:j<l.length):R (l.getD i d) (l.getD j d):=by
 have:=List.pairwise_iff_getElem.1 h i j (by omega) hj hi
 simpa[List.getD,hj,show i<l.length by omega] using this
theorem nX {l:List cm} (h:l.Pairwise fun x y=>uh fq x y=true):∀k,k≤l.length→(kq l k).Pairwise fun x y=>fq x y<0
 |0,_=>by simp[kq]
 |1,_=>by simp[kq]
 |k+2,hk=>by
  rw[kq]
  split
  ·exact nX h (k+1) (by omega)
  ·rename_i hne
   refine List.pairwise_append.2 ⟨nX h (k+1) (by omega),by simp,fun a ha b hb=> ?_⟩
   simp only[List.mem_cons,List.not_mem_nil,or_false] at hb
   subst hb
   obtain⟨j,hj,rfl⟩:=vr l _ a ha
   have h1:=wV h default (i:=j) (j:=k+1) (by omega) (by omega)
   have h2:uh fq (l.getD j default) (l.getD k default)=true:=by
    by_cases e:j=k
    ·rw[e];simp[uh,(j0.zero _ _).2 rfl]
    ·exact wV h default (by omega) (by omega)
   have h3:=wV h default (i:=k) (j:=k+1) (by omega) (by omega)
   have h4:fq (l.getD j default) (l.getD (k+1) default)≠0:=fun e=>by
    have e1:=(j0.zero _ _).1 e
    rw[←e1] at h3
    have:=j0.EW h3 h2
    exact hne (by rw[this,←e1])
   simp only[uh,decide_eq_true_eq] at h1
   omega
theorem BO {u:bw} {l:List cV} {e:cm}:e∈dS u l l.length↔∃i,i<l.length∧(l.getD i default).m.stuck u=true∧e=(l.getD i default).m.end_ u:=by
 unfold dS
 rw[List.take_length,List.mem_filterMap]
 constructor
 ·rintro⟨f,hf,he⟩
  obtain⟨i,hi,rfl⟩:=List.mem_iff_getElem.1 hf
  split at he
  ·rename_i hs
   cases he
   refine⟨i,hi, ?_⟩
   rw[show l.getD i default=l[i] by simp[List.getD,hi]]
   exact⟨hs,rfl⟩
  ·cases he
 ·rintro⟨i,hi,hs,rfl⟩
  refine⟨l.getD i default,cS default hi, ?_⟩
  rw[if_pos hs]
theorem uL {u:bw} {l:List cV} {e:cm}:e∈gq u l↔e∈dS u l l.length:=by
 have hp:=lJ fq (dS u l l.length)
 unfold gq
 constructor
 ·intro h
  obtain⟨j,hj,rfl⟩:=vr _ _ _ h
  exact hp.mem_iff.1 (cS default (by rw[hp.length_eq];exact hj))
 ·intro h
  obtain⟨j,hj,rfl⟩:=List.mem_iff_getElem.1 (hp.mem_iff.2 h)
  have:=qx (fc fq (dS u l l.length)) (dS u l l.length).length j (by rw[←hp.length_eq];exact hj)
  rwa[show(fc fq (dS u l l.length)).getD j default=(fc fq (dS u l l.length))[j] by simp[List.getD,hj]] at this
theorem vt (u:bw) (l:List cV):(gq u l).Pairwise fun x y=>fq x y<0:=by
 unfold gq
 refine nX (j0.sorted _) _ ?_
 rw[nC]
 exact Nat.le_refl _
end Go.Proofs.YtjopoheligmmoaaGreatDoor
end
section
/- All that is found is closed; one thread: what it comes to. -/
namespace Go.Proofs.YtjopoheligmmoaaGreatDoor
open Go Go.cY Go.Proofs
set_option linter.unusedSimpArgs false
set_option linter.unusedVariables false
theorem IX {l l':List cV} (h:l<+:l') {k:List UInt8} (hk:k∈jL l):k∈jL l':=by
 obtain⟨t,rfl⟩:=h
 simp only[jL,List.map_append,List.mem_append]
 exact .inl hk
theorem MR {l l':List cV} (h:l<+:l') {k:Nat} (hk:k<l.length):l'.getD k default=l.getD k default:=by
 obtain⟨t,rfl⟩:=h
 simp[List.getD,List.getElem?_append,hk]
def D4 (u:bw) (l:List cV) (k t:Nat):Prop:=(l.getD k default).m.k9 u t=0→gm ((l.getD k default).m.step u t).1∈jL l
theorem D4.pre {u:bw} {l l':List cV} {k t:Nat} (h:D4 u l k t) (hk:k<l.length) (hp:l<+:l'):D4 u l' k t:=by
 unfold D4 at *
 rw[MR hp hk]
 exact fun hb=>IX hp (h hb)
end Go.Proofs.YtjopoheligmmoaaGreatDoor
end
section
/- The key tells the situation. -/
namespace Go.Proofs.YtjopoheligmmoaaGreatDoor
open Go Go.cY Go.Proofs
open Go.Lib (decDigits itoa)
set_option linter.unusedSimpArgs false
set_option linter.unusedVariables false
end Go.Proofs.YtjopoheligmmoaaGreatDoor
end
section
/- One thread: what it comes to. -/
namespace Go.Proofs.YtjopoheligmmoaaGreatDoor
open Go Go.cY Go.Proofs
set_option linter.unusedSimpArgs false
set_option linter.unusedVariables false
end Go.Proofs.YtjopoheligmmoaaGreatDoor
end
section
/- What a machine comes to is found. -/
namespace Go.Proofs.YtjopoheligmmoaaGreatDoor
open Go Go.cY Go.Proofs
set_option linter.unusedSimpArgs false
set_option linter.unusedVariables false
end Go.Proofs.YtjopoheligmmoaaGreatDoor
end
section
/- Ways go to ends; each beginning of an end's prints is shown. -/
namespace Go.Proofs.YtjopoheligmmoaaGreatDoor
open Go Go.cY Go.Proofs
set_option linter.unusedSimpArgs false
set_option linter.unusedVariables false
theorem RB {u:bw} {l:List cV} {e:cm} (h:e∈gq u l):∃i,i<l.length∧fM u l e l.length=some i∧(l.getD i default).m.stuck u=true∧(l.getD i default).m.end_ u=e:=by
 obtain⟨i,hi,h1,h2⟩:=BO.1 (uL.1 h)
 cases hh:fM u l e l.length with
 |none=>
  exfalso
  unfold fM at hh
  have:=List.find?_eq_none.1 hh i (List.mem_range.2 hi)
  rw[h1,h2,(j0.zero _ _).2 rfl] at this
  simp at this
 |some j=>
  refine⟨j,NF hh,rfl, ?_⟩
  unfold fM at hh
  have:=List.find?_some hh
  simp only[Bool.and_eq_true,decide_eq_true_eq] at this
  exact⟨this.1,(j0.zero _ _).1 this.2⟩
end Go.Proofs.YtjopoheligmmoaaGreatDoor
end
section
/- Way: the walk. -/
namespace Go.Proofs.YtjopoheligmmoaaGreatDoor
open Go Go.cY Go.Proofs
set_option linter.unusedSimpArgs false
set_option linter.unusedVariables false
set_option maxRecDepth 8000
theorem BB (a b:List Int) (ha:a.length<9223372036854775807):Pure Tryz.prog 63 [cO a,cO b] (fun r=>r=i64 (ec eX a b)):=by
 refine aI OA rfl ?_
 refine cU ?_
 rw[List.length_map]
 refine aM (fun i:Nat=>[(0,cO a),(1,cO b),(9,cO a),(10,i64 a.length),(11,i64 i)]) (fun i H n=>i≤a.length∧i≤b.length∧ec eX a b=ec eX (a.drop i) (b.drop i)) (fun i=>a.length - i) 0 cH ⟨Nat.zero_le _,Nat.zero_le _,rfl⟩ ?_
 rintro i H n ⟨hi,hib,ho⟩
 rw[ho]
 have a0:(a.map i64).length=a.length:=by simp
 have a1:(b.map i64).length=b.length:=by simp
 by_cases hil:i<a.length
 ·have e0:=fun d=>ints_at hil d
  by_cases hbl:i<b.length
  ·have e1:=fun d=>ints_at hbl d
   have hd:=vm eX 0 hil hbl
   have c0:=ri (a.getD i 0) (b.getD i 0)
   generalize a.getD i 0=p at *
   generalize b.getD i 0=q at *
   by_cases hz:eX p q=0
   ·have r0:=hz
    rw[if_pos hz] at hd
    refine cU ?_
    exact⟨i+1,by omega,cH,by omega,by omega,hd⟩
   ·have r0:=decide_eq_true hz
    rw[if_neg hz] at hd
    refine cU ?_
    rw[hd]
  ·rw[rn eX hil (by omega)]
   refine cU ?_
   first|exact rfl|trivial
 ·obtain rfl:i=a.length:=by omega
  rw[rk eX (Nat.le_refl _) hib]
  by_cases h:a.length<b.length
  ·rw[if_pos h]
   refine cU ?_
   first|exact rfl|trivial
  ·rw[if_neg h]
   refine cU ?_
   first|exact rfl|trivial
def HL (a b:List Int):Int:=sj [eX a.length b.length,ec eX a b]
theorem HM (a b:List Int) (ha:a.length<9223372036854775807) (hb:b.length<9223372036854775807):Pure Tryz.prog 60 [cO a,cO b] (fun r=>r=i64 (HL a b)):=by
 have e:HL a b=sj [eX ((a.map i64).length:Int) ((b.map i64).length:Int),ec eX a b]:=by
  unfold HL;rw[List.length_map,List.length_map]
 rw[e]
 have c0:=ri ((a.map i64).length:Int) ((b.map i64).length:Int)
 have c1:=BB a b ha
 have c2:=wS [eX ((a.map i64).length:Int) ((b.map i64).length:Int),ec eX a b] (by simp)
 refine aI N8 rfl ?_
 refine cU ?_
 refine aS (args2:=[cO [eX ((a.map i64).length:Int) ((b.map i64).length:Int),ec eX a b]]) (r:=i64 (sj [eX ((a.map i64).length:Int) ((b.map i64).length:Int),ec eX a b])) c2 rfl (by simp[cZ,cK]) trivial ?_
 refine cU ?_
 first|exact rfl|trivial
def wL (w:List Int):List (List Int)→List Int
 |[]=>w
 |x::r=>wL (if HL x w<0 then x else w) r
abbrev Z4:AV:= .fn (.func 60) [] []
abbrev jy (l:List (List Int)):List AV:=l.map cO
theorem G6 {l:List (List Int)} {i:Nat} (h:i<l.length) (d:AV):(jy l).getD i d=cO (l.getD i []):=dA cO l i d h
theorem JL {l:List (List Int)} {i:Nat} (h:i<l.length) (w:List Int):wL w (l.drop i)=wL (if HL (l.getD i []) w<0 then l.getD i [] else w) (l.drop (i+1)):=by
 rw[List.drop_eq_getElem_cons h,wL,show l.getD i []=l[i] by simp[List.getD,h]]
set_option maxHeartbeats 2000000 in
theorem OW {l:List (List Int)} (h0:0<l.length) (hl:l.length≤65536) (hw:∀w∈l,w.length≤1048576) {b:Nat} {H:Hp} {nx:Nat} (hb:∃d,bt H b=some (.row 31 1 d (jy l))) (hlt:b<nx):
 cJ Tryz.prog 59 [.sl b l.length,Z4] H nx (fun r H' n=>r=cO (wL (l.getD 0 []) (l.drop 1))):=by
 obtain⟨d0,r0'⟩:=hb
 have a0:(jy l).length=l.length:=List.length_map _
 have e0:∀d,(jy l).getD (0:Int).toNat d=cO (l.getD 0 []):=fun d=>G6 h0 d
 refine aL N7 rfl ?_
 refine cU ?_
 clear e0
 refine aM (fun σ:Nat×List Int=>[(0, .sl b l.length),(1,Z4),(5,cO σ.2),(6,i64 σ.1)])
  (fun σ H2 n=>σ.1≤l.length∧σ.2.length≤1048576∧wL σ.2 (l.drop σ.1)=wL (l.getD 0 []) (l.drop 1)∧nx≤n∧bt H2 b=some (.row 31 1 d0 (jy l))) (fun σ=>l.length - σ.1) (1,l.getD 0 [])
  cH ⟨by show 1≤l.length;omega,hw _ (cS [] h0),rfl,c8,bx⟩ ?_
 clear r0'
 rintro⟨i,w⟩ H2 n ⟨hi,hwl,hm,hn,r0'⟩
 dsimp only at hi hwl hm ⊢
 by_cases hil:i<l.length
 ·have e0:∀d,(jy l).getD ((i:Int)).toNat d=cO (l.getD i []):=fun d=>by rw[Int.toNat_natCast];exact G6 hil d
  have hxl:=hw _ (cS [] hil)
  rw[JL hil] at hm
  generalize l.getD i []=x at *
  have c0:=HM x w (by omega) (by omega)
  by_cases hc:HL x w<0
  ·rw[if_pos hc] at hm
   have r1:=decide_eq_true hc
   refine cU ?_
   exact⟨(i+1,x),by dsimp only;omega,cH,by dsimp only;omega,hxl,hm,c8,bx⟩
  ·rw[if_neg hc] at hm
   have r1:=decide_eq_false hc
   refine cU ?_
   exact⟨(i+1,w),by dsimp only;omega,cH,by dsimp only;omega,hwl,hm,c8,bx⟩
 ·obtain rfl:i=l.length:=by omega
  rw[List.drop_length,wL] at hm
  refine cU ?_
  exact⟨by rw[←hm]⟩
theorem LM {u:bw} {l:List cV} (hf:iN u l):∀i,i<l.length→(nJ l i).length≤i:=by
 intro i
 induction i using Nat.strongRecOn with
 |_ i ih=>
  intro hi
  by_cases h0:i=0
  ·subst h0
   rw[uC (by rw[hf.first];show ¬(0:Int)≤-1;omega)]
   exact Nat.le_refl _
  ·obtain⟨k,t,h1,h2,h3,h4⟩:=hf.LR i (by omega) hi
   have hfr:(l.getD i default).from_=k:=by rw[h4]
   rw[xJ hf hi (by rw[hfr];omega),hfr,Int.toNat_natCast,List.length_cons]
   have:=ih k h1 (by omega)
   omega
theorem KD {u:bw} (hu:u.Wf) {most:Int} (h0:(eH u most).1=0) {e:cm} (he:e∈fY u most):∃i,i<(eH u most).2.length∧fM u (eH u most).2 e (eH u most).2.length=some i∧((eH u most).2.getD i default).m.stuck u=true∧((eH u most).2.getD i default).m.end_ u=e∧e.ended=false:=by
 unfold fY at he
 rw[if_pos h0] at he
 obtain⟨h1,h2⟩:=List.mem_filter.1 he
 obtain⟨i,g1,g2,g3,g4⟩:=RB h1
 exact⟨i,g1,g2,g3,g4,by simpa using h2⟩
theorem QG {u:bw} (hu:u.Wf) {most:Int} (h0:(eH u most).1=0):cT u∧iN u (eH u most).2∧(eH u most).2.length≤65536:=by
 obtain⟨hr,hm,l,hs,he⟩:=D8 hu h0
 obtain⟨hf,h2,_⟩:=kn hu hr (by omega) hs
 rw[he]
 exact⟨hr,hf,by omega⟩
noncomputable def pU (u:bw) (most:Int) (e:cm):List Int:=jh (eH u most).2 (fM u (eH u most).2 e (eH u most).2.length)
theorem KM {u:bw} (hu:u.Wf) {most:Int} (h0:(eH u most).1=0) {e:cm} (he:e∈fY u most):Pure Tryz.prog 58 [u.av,i64 most,e.av] (fun r=>r= .dP [cO (pU u most e),bl true,i64 0])∧(pU u most e).length≤65536:=by
 obtain⟨hr,hf,hl⟩:=QG hu h0
 obtain⟨i,g1,g2,g3,g4,g5⟩:=KD hu h0 he
 obtain⟨q1,q2⟩:=hf.ok i g1
 have hm:=q1.ml
 have hs:=hr.qX
 have c:=PY u hu most e (by rw[←g4];show(((eH u most).2.getD i default).m.cP).length * 16≤_;omega) (by rw[←g4];show(((eH u most).2.getD i default).m.mem).length * 8≤_;omega)
 unfold vI at c
 rw[if_pos h0,g2] at c
 refine⟨?_, ?_⟩
 ·unfold pU;rw[g2];exact c
 ·unfold pU;rw[g2]
  show((nJ _ i).reverse).length≤_
  have:=LM hf i g1
  rw[List.length_reverse];omega
noncomputable def vJ (u:bw) (most:Int):List (List Int):=(fY u most).map (pU u most)
noncomputable def w9 (u:bw) (most:Int):List Int:=wL ((vJ u most).getD 0 []) ((vJ u most).drop 1)
theorem DW {u:bw} (hu:u.Wf) {most:Int} (h0:(eH u most).1=0):(fY u most).length≤65536:=by
 have hll:=D7 hu h0
 have hel:=x6 u (eH u most).2
 unfold fY;rw[if_pos h0]
 exact Nat.le_trans (List.length_filter_le _ _) (by omega)
theorem iA (l:List Int) (b:Bool) (e:Int):cK 0 (.dP [cO l,bl b,i64 e]):=by
 simp[cK,cZ,cC]
set_option maxHeartbeats 2000000 in
theorem PX (u:bw) (hu:u.Wf) (most:Int) (h0:(eH u most).1=0) (hne:fY u most≠[]):Pure Tryz.prog 25 [u.av,i64 most] (fun r=>r= .dP [cO (w9 u most),bl true,i64 0]):=by
 have c0:=w7 u hu most
 rw[h0] at c0
 have hsl:=DW hu h0
 have hwp:=fun e he=>KM (e:=e) hu h0 he
 have hpos:0<(fY u most).length:=List.length_pos_iff.2 hne
 unfold w9 vJ
 generalize fY u most=es at *
 have a0:(es.map cm.av).length=es.length:=List.length_map _
 refine dD ?_ (iA _ _ _)
 refine aL CE rfl ?_
 refine cU ?_
 simp only[List.length_map]
 refine aU (fun i:Nat=>[(2, .pt 0 1 0 0),(1,i64 most),(9, .sl 17 i),(24,iR es),(25,i64 es.length),(26,i64 i)])
  (fun i H n=>i≤es.length∧18≤n∧(∃d,bt H 0=some (.row 25 3 d [u.av]))∧∃d,bt H 17=some (.row 31 1 d (jy ((es.take i).map (pU u most))))) (fun i=>es.length - i) 0
  ⟨_,_,_,Rt.nil 9 31 1 (by omega) rfl,cH,Nat.zero_le _,c8,⟨_,bx⟩,⟨_,bx⟩⟩ ?_
 rintro i H n ⟨hi,hn,⟨d0,r0⟩,⟨d1,r1⟩⟩
 have a1:(jy ((es.take i).map (pU u most))).length=i:=by
  unfold jy;rw[List.length_map,List.length_map,List.length_take];omega
 by_cases hil:i<es.length
 ·have e0:∀d,(es.map cm.av).getD ((i:Int)).toNat d=(es.getD i default).av:=fun d=>by rw[Int.toNat_natCast];exact gX hil d
  have hmem:=cS (default:cm) hil
  obtain⟨c1,hwl⟩:=hwp _ hmem
  have hnx:(es.take (i+1)).map (pU u most)=(es.take i).map (pU u most)++[pU u most (es.getD i default)]:=by
   rw[List.take_succ_eq_append_getElem hil,List.map_append];simp[List.getD,hil]
  refine cU ?_
  exact⟨i+1,by omega,_,_,_,Rt.refl _ _ _,cH,by omega,c8,⟨_,bx⟩,⟨_,by rw[hnx];unfold jy;rw[List.map_append];exact bx⟩⟩
 ·obtain rfl:i=es.length:=by omega
  rw[List.take_length] at r1
  have hlen:(es.map (pU u most)).length=es.length:=List.length_map _
  have hmin:=fun(H:Hp) (nx:Nat)=>OW (H:=H) (nx:=nx) (l:=es.map (pU u most)) (b:=17) (by omega) (by omega) (fun w hw=>by
   obtain⟨e,he,rfl⟩:=List.mem_map.1 hw
   have:=(hwp e he).2
   omega)
  rw[hlen] at hmin
  refine cU ?_
  refine aJ (hmin _ _ ⟨d1, ?_⟩ c8) ?_
  ·exact bx
  rintro _ H2 n2 rfl
  refine cU ?_
  exact⟨rfl⟩
theorem Z2 (u:bw) (hu:u.Wf) (most:Int):Pure Tryz.prog 25 [u.av,i64 most] (fun r=>r= .dP [cO (w9 u most),bl (decide (fY u most≠[])),i64 (eH u most).1]):=by
 by_cases h0:(eH u most).1=0
 ·by_cases hne:fY u most=[]
  ·have c0:=w7 u hu most
   rw[hne,h0] at c0
   have hw:w9 u most=[]:=by unfold w9 vJ;rw[hne];rfl
   rw[hw,h0,decide_eq_false (fun h=>h hne)]
   have key:Pure Tryz.prog 25 [u.av,i64 most] (fun r=>r= .dP [.sc (.slice none 0 0),bl false,i64 0]):=by
    refine aI CE rfl ?_
    refine cU ?_
    refine aM (fun _:Nat=>[(9, .sc (.slice none 0 0)),(25,i64 0),(26,i64 0)]) (fun _ H n=>True) (fun _=>0) 0 cH trivial ?_
    rintro _ H n _
    refine cU ?_
    first|exact rfl|trivial
   refine iD key (iA _ _ _) fun c=>dO.dP (.cons (dO.lW _ _ _ _) (.cons (fun _ h=>h) (.cons (fun _ h=>h) .nil)))
  ·rw[h0,decide_eq_true hne]
   exact PX u hu most h0 hne
 ·have hs:fY u most=[]:=by unfold fY;rw[if_neg h0]
  have hw:w9 u most=[]:=by unfold w9 vJ;rw[hs];rfl
  rw[hw,decide_eq_false (fun h=>h hs)]
  have c0:=w7 u hu most
  have key:Pure Tryz.prog 25 [u.av,i64 most] (fun r=>r= .dP [.sc (.slice none 0 0),bl false,i64 (eH u most).1]):=by
   generalize fY u most=es at *
   generalize (eH u most).1=er at *
   refine aI CE rfl ?_
   refine cU ?_
   first|exact rfl|trivial
  refine iD key (iA _ _ _) fun c=>dO.dP (.cons (dO.lW _ _ _ _) (.cons (fun _ h=>h) (.cons (fun _ h=>h) .nil)))
end Go.Proofs.YtjopoheligmmoaaGreatDoor
end
