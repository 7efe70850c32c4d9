import Derived.Test.YtjopoheligmmoaaGreatDoorM45
import Derived.Test.YtjopoheligmmoaaGreatDoorM41
import Derived.Test.YtjopoheligmmoaaGreatDoorM46
import Derived.Test.YtjopoheligmmoaaGreatDoorM38
import Derived.Test.YtjopoheligmmoaaGreatDoorM33
import Derived.Test.YtjopoheligmmoaaGreatDoorM36
section
/- Ends as rows of the caller's own; what deletes from them. -/
namespace Go.cY
open Go.RowKit
set_option linter.unusedSimpArgs false
set_option linter.unusedVariables false
theorem cJ.rt {P:Program} {f:FuncId} {args:List AV} {H:Hp} {nx:Nat} {R R2:AV→Hp→Nat→Prop} (h:cJ P f args H nx R) (hR:∀r H' n,R r H' n→∃fr2 H2 n2,Rt [(0,r)] H' n fr2 H2 n2∧R2 (ca fr2 0) H2 n2):cJ P f args H nx R2:=by
 refine⟨h.1,fun w0 c vs a1 a2 a3 a4=>(h.2 w0 c vs a1 a2 a3 a4).mono ?_⟩
 rintro e w' ⟨v,r,H',nx',ρ,U,rfl,hRr,hU,hS,hle,hv⟩
 obtain⟨fr2,H2,n2,hw,hR2⟩:=hR r H' nx' hRr
 have hh:Holds w0 c.M0 ⟨ρ,bt H',U,w',c.M0⟩ nx' 1 [(0,r)] H' nx' ⟨#[v],[]⟩ w':=by
  refine⟨rfl,rfl,ρ,U,hU,hS,fun t=> ?_,⟨hU,Cx.le.refl _⟩⟩
  by_cases ht:t=0
  ·subst ht;exact hv
  ·have:ca [(0,r)] t= .any:=by simp[ca,ht]
   rw[this];exact dR.any _ _ _ _ (by rw[VR];trivial)
 obtain⟨_,_,ρ2,U2,k1,k2,k3,k4⟩:=hw _ _ _ _ _ _ _ hh
 exact⟨v,_,H2,n2,ρ2,U2,rfl,hR2,k1,k2,hle.trans k4.2,k3 0⟩
theorem cJ.QJ {P:Program} {f:FuncId} {args:List AV} {e:TypeId} {sz:Nat} {es cs:List AV} (dY:l3 cs) (h:cJ P f args [] 0 (fun r1 H1 _=>∃b d0,r1= .dQ (.sl b es.length::cs)∧bt H1 b=some (.row e sz d0 es))) (hes:cX 0 es) (d:AV) {H:Hp} {id:Nat} (hfa:cX 0 args):
 jq P f args H id (fun r' H''=>r'= .dQ (.sl id es.length::cs)∧H''=dA H (some (id, .row e sz d es))):=by
 refine⟨h.1,fun w0 c vs hS hH hid hv=> ?_⟩
 have hS0:dW c.w ⟨fun _=>none,bt [],fun _=>False,c.w,c.M⟩:=⟨Below.refl _ _,hS.fit,fun b e sz d es he=>by simp[bt] at he,fun b b' k k' blk o z o' z' hk=>by simp[bt] at hk⟩
 have hv':cd ⟨fun _=>none,bt [],fun _=>False,c.w,c.M⟩ args vs:=cd.mB (fun _ h=>h) hfa hv
 refine(h.2 c.w _ vs hS0 rfl (fun _ h=>h.elim) hv').mono ?_
 rintro en w' ⟨v,r1,H1,nx',ρ,U,he,⟨b,d0,rfl,hb⟩,hU,hS',_,hvr⟩
 rw[VR] at hvr
 obtain⟨us,hus,hvr⟩:=hvr
 rw[cd] at hvr
 obtain⟨x,v3,hx3,hvr,hv3⟩:=hvr
 have fin:∀c2:Cx,VR c2 (.sl id es.length) x→VR c2 (.dQ (.sl id es.length::cs)) v:=fun c2 h2=>by
  rw[VR]
  refine⟨us,hus, ?_⟩
  rw[hx3,cd]
  exact⟨x,v3,rfl,h2,mQ dY hv3⟩
 rw[VR] at hvr
 obtain⟨_,ad,cap,hvv,hrr⟩:=hvr
 obtain⟨_,hr2⟩:=hrr _ _ _ _ hb
 have hr3:=hr2 rfl
 obtain⟨_,hz,hor⟩:=hS'.jP b _ _ _ _ hb (se hr3)
 have hbel:=hS'.below
 obtain⟨s1,s2⟩:=hS.world hbel
 have hHeq:bt (dA H (some (id, .row e sz d es)))=ej c.H id (some (.row e sz d es)):=by rw[dP,hH]
 rcases hor with⟨h0,hes0⟩|⟨blk,o,z,hρ,hlow,⟨arr,harr,hsz⟩,hlz,hrow⟩
 ·subst hes0
  obtain⟨p1,p2⟩:=s1.JJ (b:=id) (e:=e) (sz:=sz) d hz hid
  refine⟨v,_,_,ej c.ρ id none,he,⟨rfl,rfl⟩, ?_, ?_,fin _ ?_⟩
  ·rw[hHeq];exact p1
  ·rw[hHeq];exact s2.trans p2
  ·rw[hHeq,VR]
   refine⟨.inr rfl,ad,cap,hvv,fun e' sz' d' es' he'=> ?_⟩
   simp only[iP,dI,Option.some.injEq,eR.row.injEq] at he'
   obtain⟨rfl,rfl,rfl,rfl⟩:=he'
   refine⟨Nat.le_refl _,fun _=> .inl ⟨by simp[iP], ?_⟩⟩
   rcases hr3 with⟨_,h2,h3⟩|⟨blk,o,z,h2,_⟩
   ·exact⟨h2,h3⟩
   ·rw[h0] at h2;cases h2
 ·obtain⟨p1,p2⟩:=hS.oy (b:=id) (e:=e) (sz:=sz) d (es:=es) (w':=w') (blk:=blk) (o:=o) (z:=z) hz (.inl hid) (.inl hlow) hbel.os hbel.tape hbel.output hbel.size (fun k hk _=>hbel.block k hk) harr hsz hlz (fun hle i hi=>by
   obtain⟨y,x1,x2⟩:=db hrow i hi
   refine⟨y,x1, ?_⟩
   refine VR.fw (n:=0) ?_ ?_ x2
   ·refine⟨fun b hb=>absurd hb (Nat.not_lt_zero _),fun q hq _=>⟨rfl,fun hm=>hq ?_⟩,fun b hb=>absurd hb (Nat.not_lt_zero _)⟩
    rcases hm with hm|⟨b',k',o',z',h1,h2⟩
    ·exact Or.inl (show c.M q from Or.inl hm)
    ·dsimp only at h1 h2
     by_cases e:b'=id
     ·subst e
      rw[dI] at h2
      cases h2
      exact Or.inr ⟨b,_,_,_,hb,hρ⟩
     ·simp only[ej,if_neg e] at h1 h2
      exact Or.inl (show c.M q from Or.inr ⟨b',k',o',z',h1,h2⟩)
   ·have hx4:es.getD i .any=es[i]:=by simp[List.getD,hi]
    rw[hx4]
    exact oO hes _ (List.getElem_mem hi))
  refine⟨v,_,_,ej c.ρ id (some (blk,o,z)),he,⟨rfl,rfl⟩, ?_, ?_,fin _ ?_⟩
  ·rw[hHeq];exact p1
  ·rw[hHeq];exact p2
  ·rw[hHeq,VR]
   refine⟨.inr rfl,ad,cap,hvv,fun e' sz' d' es' he'=> ?_⟩
   simp only[iP,dI,Option.some.injEq,eR.row.injEq] at he'
   obtain⟨rfl,rfl,rfl,rfl⟩:=he'
   refine⟨by omega,fun _=> .inr ⟨blk,o,z,by simp[iP], ?_⟩⟩
   rcases hr3 with⟨h2,_,_⟩|⟨blk',o',z',h2,h3,h4,h5,h6⟩
   ·rw[hρ] at h2;cases h2
   ·rw[hρ] at h2;cases h2
    exact⟨h3,h4,h5,h6⟩
theorem cJ.L0 {P:Program} {f:FuncId} {args:List AV} {e:TypeId} {sz:Nat} {es cs:List AV} (dY:l3 cs) (h:cJ P f args [] 0 (fun r1 H1 _=>∃b d0,r1= .dQ (.sl b es.length::cs)∧bt H1 b=some (.row e sz d0 es))) (hes:cX 0 es) (hfa:cX 0 args) {H:Hp} {nx:Nat}:
 cJ P f args H nx (fun r H' n=>r= .dQ (.sl nx es.length::cs)∧H'=(nx,some (.row e sz .any es))::H∧n=nx+1):=
 (jq.WM (h.QJ dY hes .any hfa)).mono fun r H' n ⟨⟨h1,h2⟩,h3⟩=>⟨h1,h2,h3⟩
end Go.cY
namespace Go.Proofs.YtjopoheligmmoaaGreatDoor
open Go Go.cY Go.Proofs
set_option linter.unusedSimpArgs false
set_option linter.unusedVariables false
set_option maxRecDepth 8000
set_option maxHeartbeats 4000000 in
theorem xI (o:Nat) (l:List cm) (hl:l.length≤65536) (hok:∀e∈l,e.cN.length<9223372036854775807∧e.mem.length<9223372036854775807) (H:Hp) (nx:Nat) (ho:o<nx) (hr:∃d,bt H o=some (.row 105 3 d (l.map cm.av))):
 cJ Tryz.prog 97 [.sl o l.length, .fn (.func 98) [] []] H nx (fun r H' n=>nx≤n∧(∀y,y<nx→y≠o→bt H' y=bt H y)∧(r= .sl o l.length∧(k7 l l.length).length=l.length∧(∃d,bt H' o=some (.row 105 3 d ((k7 l l.length).map cm.av)))∨∃es:List AV,r= .sv o l.length 0 (k7 l l.length).length∧es.length=l.length∧(k7 l l.length).length≤l.length∧es.take (k7 l l.length).length=(k7 l l.length).map cm.av∧∃d,bt H' o=some (.row 105 3 d es))):=by
 obtain⟨d0,r0'⟩:=hr
 have a0:(l.map cm.av).length=l.length:=by simp
 have same:∀i j,i<l.length→j<l.length→Pure Tryz.prog 98 [(l.getD i default).av,(l.getD j default).av] (fun r=>r=bl (decide (l.getD i default=l.getD j default))):=fun i j hi hj=>by
  obtain⟨p1,p2⟩:=hok _ (cR default hi)
  have:=nq (l.getD i default) (l.getD j default) p1 p2
  simpa only[pZ] using this
 refine aM IY rfl ?_
 by_cases h2:l.length<2
 ·refine cU ?_
  have:k7 l l.length=l:=by
   match l,h2 with
   |[],_=>rfl
   |[x],_=>rfl
  rw[this]
  exact⟨⟨c8,fun y y1 y2=>cB, .inl ⟨rfl,rfl,d0,bw⟩⟩⟩
 ·refine cU ?_
  refine aL (fun i:Nat=>[(0, .sl o l.length),(1, .fn (.func 98) [] []),(5,i64 i)]) (fun i H2 n=>1≤i∧i≤l.length∧nx≤n∧bt H2 o=some (.row 105 3 d0 (l.map cm.av))∧k7 l i=l.take i∧∀y,y<nx→y≠o→bt H2 y=bt H y) (fun i=>l.length - i) 1 cG ⟨Nat.le_refl _,by omega,c8,bw,by rw[k7];cases l with|nil=>simp at h2|cons x t=>rfl,fun y y1 y2=>cB⟩ ?_
  clear r0'
  rintro i H2 n ⟨hi1,hi,hn,r0',hdd,hkp⟩
  by_cases hil:i<l.length
  ·have e0:∀d,(l.map cm.av).getD ((i:Int)).toNat d=(l.getD i default).av:=fun d=>by rw[Int.toNat_natCast];exact gU hil d
   have e1:∀d,(l.map cm.av).getD ((i:Int) - 1).toNat d=(l.getD (i - 1) default).av:=fun d=>by rw[show((i:Int) - 1).toNat=i - 1 by omega];exact gU (by omega) d
   have c0:=same i (i - 1) hil (by omega)
   have hsu:=oL l hi1
   by_cases he:l.getD i default=l.getD (i - 1) default
   ·rw[decide_eq_true he] at c0
    rw[if_pos he] at hsu
    refine cU ?_
    refine aL (fun σ:Nat×Nat×List cm=>[(0, .sl o l.length),(1, .fn (.func 98) [] []),(5,i64 σ.1),(6, .sv o l.length i (l.length - i)),(7,i64 σ.2.1)])
     (fun σ H2 n=>1≤σ.2.1∧i+σ.2.1≤l.length∧i≤σ.1∧σ.1+1≤i+σ.2.1∧σ.2.2.length=l.length∧(∀q,σ.1≤q→σ.2.2.getD q default=l.getD q default)∧σ.2.2.take σ.1=k7 l (i+σ.2.1)∧nx≤n∧(∃d,bt H2 o=some (.row 105 3 d (σ.2.2.map cm.av)))∧∀y,y<nx→y≠o→bt H2 y=bt H y) (fun σ=>l.length - σ.2.1) (i,1,l) cG
     ⟨Nat.le_refl _,by show i+1≤l.length;omega,Nat.le_refl _,Nat.le_refl _,rfl,fun _ _=>rfl,by dsimp only;rw[hsu,hdd],c8,⟨_,bw⟩,fun y y1 y2=>Eq.trans cB (hkp y y1 y2)⟩ ?_
    clear c0 e0 e1 hsu hdd r0' hn hkp
    rintro⟨k,j,es⟩ H3 n ⟨hj1,hj,hik,hkj,hel,hsame,hdd,hn,⟨d1,r1'⟩,hkp⟩
    dsimp only at hj1 hj hik hkj hel hsame hdd r1' ⊢
    have a1:(es.map cm.av).length=l.length:=by simp[hel]
    by_cases hjl:j<l.length - i
    ·have e0:∀d,(es.map cm.av).getD (i+((j:Int)).toNat) d=(l.getD (i+j) default).av:=fun d=>by rw[Int.toNat_natCast,gU (by omega) d,hsame _ (by omega)]
     have e1:∀d,(es.map cm.av).getD (i+((j:Int) - 1).toNat) d=(l.getD (i+j - 1) default).av:=fun d=>by rw[show i+((j:Int) - 1).toNat=i+j - 1 by omega,gU (by omega) d,hsame _ (by omega)]
     have e2:∀d,(es.map cm.av).getD ((k:Int)).toNat d=(es.getD k default).av:=fun d=>by rw[Int.toNat_natCast];exact gU (by omega) d
     have c0:=same (i+j) (i+j - 1) (by omega) (by omega)
     have hsu:=oL l (k:=i+j) (by omega)
     by_cases he2:l.getD (i+j) default=l.getD (i+j - 1) default
     ·rw[decide_eq_true he2] at c0
      rw[if_pos he2] at hsu
      refine cU ?_
      exact⟨(k,j+1,es),by dsimp only;omega,cG,by dsimp only;omega,by dsimp only;omega,hik,by dsimp only;omega,hel,hsame,by dsimp only;rw[←Nat.add_assoc,hsu];exact hdd,c8,⟨d1,bw⟩,fun y y1 y2=>Eq.trans cB (hkp y y1 y2)⟩
     ·rw[decide_eq_false he2] at c0
      rw[if_neg he2] at hsu
      refine cU ?_
      refine⟨(k+1,j+1,es.set k (l.getD (i+j) default)),by dsimp only;omega,cG,by dsimp only;omega,by dsimp only;omega,by dsimp only;omega,by dsimp only;omega,by simp[hel],fun q hq=> ?_, ?_,c8,⟨d1,by dsimp only;rw[List.map_set];exact bw⟩,fun y y1 y2=>Eq.trans cB (hkp y y1 y2)⟩
      ·have hq:k+1≤q:=hq
       dsimp only
       rw[getD_set_ne (by omega)];exact hsame q (by omega)
      ·dsimp only
       rw[←Nat.add_assoc,hsu,jm (by omega),hdd]
    ·obtain rfl:j=l.length - i:=by omega
     rw[show i+(l.length - i)=l.length by omega] at hdd
     refine cU ?_
     rw[Int.toNat_natCast]
     have hkl:k≤l.length:=by omega
     have hkd:(k7 l l.length).length=k:=by rw[←hdd,List.length_take,hel];omega
     generalize hZ:List.replicate (l.length - k) (gI true [Value.slice none 0 0,Value.slice none 0 0,Value.bool false])=Z
     have hZl:Z.length=l.length - k:=by rw[←hZ];simp
     rw[hkd]
     refine⟨⟨c8,fun y y1 y2=>Eq.trans cB (hkp y y1 y2), .inr ⟨(es.map cm.av).take k++Z++(es.map cm.av).drop (k+(l.length - k)),rfl, ?_,hkl, ?_,d1,bw⟩⟩⟩
     ·simp[hZl,hel];omega
     ·rw[List.append_assoc,List.take_append_of_le_length (by simp;omega),List.take_take,Nat.min_self,←List.map_take,hdd]
   ·rw[decide_eq_false he] at c0
    rw[if_neg he] at hsu
    refine cU ?_
    refine⟨i+1,by omega,cG,by omega,by omega,c8,bw, ?_,fun y y1 y2=>Eq.trans cB (hkp y y1 y2)⟩
    rw[hsu,hdd,List.take_succ_eq_append_getElem hil,show l.getD i default=l[i] by simp[List.getD,hil]]
  ·obtain rfl:i=l.length:=by omega
   rw[List.take_length] at hdd
   refine cU ?_
   rw[hdd]
   exact⟨⟨c8,fun y y1 y2=>Eq.trans cB (hkp y y1 y2), .inl ⟨rfl,rfl,d0,bw⟩⟩⟩
theorem tF (o:Nat) (l:List cm) (hl:l.length≤65536) (hok:∀e∈l,e.cN.length<9223372036854775807∧e.mem.length<9223372036854775807) (H:Hp) (nx:Nat) (ho:o<nx) (hr:∃d,bt H o=some (.row 105 3 d (l.map cm.av))):
 cJ Tryz.prog 97 [.sl o l.length, .fn (.func 98) [] []] H nx (fun r H' n=>∃b,r= .sl b (k7 l l.length).length∧(b=o∨nx≤b)∧b<n∧nx≤n∧(∃d,bt H' b=some (.row 105 3 d ((k7 l l.length).map cm.av)))∧∀y,y<nx→y≠o→bt H' y=bt H y):=by
 refine(xI o l hl hok H nx ho hr).rt ?_
 rintro r H' n ⟨hn,hk,⟨rfl,h1,h2⟩|⟨es,rfl,h1,h2,h3,d,h4⟩⟩
 ·exact⟨_,H',n,Rt.refl _ _ _,o,by rw[h1];rfl, .inl rfl,by omega,hn,h2,hk⟩
 ·refine⟨_,_,n+1,Rt.part 0 rfl h4 h1 (by omega),n,rfl, .inr hn,by omega,by omega,⟨.any, ?_⟩,fun y y1 y2=> ?_⟩
  ·rw[List.drop_zero,h3];exact cp _ _ _
  ·exact(cW (by omega)).trans ((cW y2).trans (hk y y1 y2))
set_option maxHeartbeats 2000000 in
theorem HC (u:bu) (hu:u.Wf) (most:Int) (h0:(eH u most).1=0):cJ Tryz.prog 54 [u.av,i64 most] [] 0 (fun r H n=>∃b d,r= .dQ [.sl b (gn u (eH u most).2).length,i64 0]∧bt H b=some (.row 105 3 d ((gn u (eH u most).2).map cm.av))):=by
 refine aM IU rfl ?_
 by_cases hr:cZ u
 ·by_cases hm:1≤most∧most≤65536
  ·rw[oG hr hm] at h0 ⊢
   refine cU ?_
   let l:=(gQ u most.toNat).getD []
   let I:Nat→Hp→Prop:=fun k H=>(∃d,bt H 0=some (.row 25 3 d [u.av]))∧(∃d,bt H 3=some (.row 41 1 d [.sl 7 (dO u l k).length]))∧(∃d,bt H 7=some (.row 105 3 d ((dO u l k).map cm.av)))
   refine aJ (R:=fun r H n=>8≤n∧wZ u most I r H) (K2 (b:=3) 105 3 (by omega) (by omega) (d:=gI false [.slice none 0 0]) (te:=41) ?_ fun H2 q1 q2 q3=> ?_) ?_
   ·exact bw
   ·refine(rD u hu hr most hm _ [.pt 0 1 0 0, .pt 3 1 0 0] H2 8 I ?_ ?_ ?_).mono fun r H n h=>⟨h.1,h.short⟩
    ·exact⟨⟨_,(q3 0 (by omega) (by omega)).trans bw⟩,⟨_,q1⟩,⟨_,q2⟩⟩
    ·rintro k H H' ⟨⟨d0,p0⟩,⟨d1,p1⟩,⟨d2,p2⟩⟩ hk
     exact⟨⟨d0,(hk 0 (by omega)).trans p0⟩,⟨d1,(hk 3 (by omega)).trans p1⟩,⟨d2,(hk 7 (by omega)).trans p2⟩⟩
    ·intro l' hl' k H n hk hn ⟨p0,p1,p2⟩
     have hll:l=l':=by show(gQ u most.toNat).getD []=l';rw[hl'];rfl
     rw[hll] at p1 p2
     obtain⟨hf,hlm,_⟩:=kY hu hr (by omega) hl'
     refine(D5 hr hf (by omega) hk (ub:=0) (ob:=3) (o:=7) (by omega) (by omega) (by omega) (by omega) p0 p1 p2).mono ?_
     rintro _ H' n' ⟨s1,s2,s3,s4⟩
     obtain⟨d0,p0⟩:=p0
     refine⟨⟨⟨d0,(s4 0 (by omega) (by omega) (by omega)).trans p0⟩, ?_, ?_⟩,s3,fun y y1 y2=>s4 y y2 (by omega) (by omega)⟩
     ·rw[hll];exact s1
     ·rw[hll];exact s2
   rintro r H' n' ⟨hn,hA⟩
   revert hA
   unfold wZ
   cases hs:gQ u most.toNat with
   |none=>rw[hs] at h0;cases h0
   |some l'=>
    rintro⟨rfl,⟨d0,p0⟩,⟨d1,p1⟩,p2⟩
    have hll:l=l':=by show(gQ u most.toNat).getD []=l';rw[hs];rfl
    rw[hll] at p1 p2
    obtain⟨hf,hlm,_⟩:=kY hu hr (by omega) hs
    have hin:=tx hr hf (by omega) l'.length
    have hlen:=kb u l' l'.length
    refine cU ?_
    refine aJ (uj 7 (dO u l' l'.length) hin (by omega) _ _ p2 c8) ?_
    rintro r H3 n3 ⟨⟨d5,r5⟩,hn3,hk3⟩
    have r6:=(hk3 3 c8 (by omega)).trans p1
    have hsl:(fX fk (dO u l' l'.length)).length=(dO u l' l'.length).length:=mj _ _
    refine cU ?_
    rw[←hsl]
    refine aJ (tF 7 (fX fk (dO u l' l'.length)) (by omega) (fun e he=>hin e ((kz _ _).mem_iff.1 he)) _ _ c8 ⟨d5,r5⟩) ?_
    rintro r H4 n4 ⟨b,rfl,hb,hbn,hn4,⟨d6,r6⟩,hk4⟩
    refine cU ?_
    dsimp only
    have hE:gn u l'=k7 (fX fk (dO u l' l'.length)) (fX fk (dO u l' l'.length)).length:=by rw[hsl];rfl
    rw[hE]
    exact⟨⟨b,d6,rfl,bw⟩⟩
  ·rw[kX hr hm] at h0;cases h0
 ·rw[oF hr] at h0;cases h0
def tI (f:cm→Bool):List cm→Nat→Int
 |[],_=>-1
 |e::l,k=>if f e=true then k else tI f l (k+1)
theorem sH (f:cm→Bool):∀(l:List cm) (k:Nat),tI f l k=-1∧(∀x∈l,f x=false)∨∃i:Nat,tI f l k=(k+i:Nat)∧i<l.length∧(∀x∈l.take i,f x=false)∧f (l.getD i default)=true
 |[],k=> .inl ⟨rfl,fun x hx=>by cases hx⟩
 |e::l,k=>by
  rw[tI]
  split
  ·rename_i h
   exact .inr ⟨0,rfl,by simp,by simp,h⟩
  ·rename_i h
   simp only[Bool.not_eq_true] at h
   rcases sH f l (k+1) with⟨h1,h2⟩|⟨i,h1,h2,h3,h4⟩
   ·refine .inl ⟨h1,fun x hx=> ?_⟩
    rcases List.mem_cons.1 hx with rfl|hx
    ·exact h
    ·exact h2 x hx
   ·refine .inr ⟨i+1,by rw[h1];congr 1;omega,by simpa using h2,fun x hx=> ?_,h4⟩
    rw[List.take_succ_cons] at hx
    rcases List.mem_cons.1 hx with rfl|hx
    ·exact h
    ·exact h3 x hx
theorem IG (f:cm→Bool) {l:List cm} {i:Nat} (h:i<l.length) (k:Nat):tI f (l.drop i) k=if f (l.getD i default)=true then(k:Int) else tI f (l.drop (i+1)) (k+1):=by
 rw[List.drop_eq_getElem_cons h,tI,show l.getD i default=l[i] by simp[List.getD,h]]
theorem pH (e:cm):Pure Tryz.prog 56 [e.av] (fun r=>r=bl e.ended):=by
 refine aI NH rfl ?_
 refine cU ?_
 first|exact rfl|trivial
theorem xj (l:List cm) (hl:l.length≤65536):Pure Tryz.prog 99 [iN l, .fn (.func 56) [] []] (fun r=>r=i64 (tI cm.ended l 0)):=by
 refine aI N0 rfl ?_
 refine cU ?_
 rw[List.length_map]
 refine aL (fun i:Nat=>[(0,iN l),(1, .fn (.func 56) [] []),(7,i64 l.length),(8,i64 i)])
  (fun i H2 n=>i≤l.length∧tI cm.ended (l.drop i) i=tI cm.ended l 0) (fun i=>l.length - i) 0
  cG ⟨Nat.zero_le _,rfl⟩ ?_
 rintro i H2 n ⟨hi,hix⟩
 have a0:(l.map cm.av).length=l.length:=List.length_map _
 by_cases hil:i<l.length
 ·have e0:∀d,(l.map cm.av).getD ((i:Int)).toNat d=(l.getD i default).av:=fun d=>by rw[Int.toNat_natCast];exact gU hil d
  rw[IG _ hil] at hix
  have c0:=pH (l.getD i default)
  generalize l.getD i default=x at *
  cases hx:x.ended with
  |true=>
   rw[hx] at c0
   rw[if_pos hx] at hix
   rw[←hix]
   refine cU ?_
   first|exact rfl|trivial
  |false=>
   rw[hx] at c0
   rw[if_neg (by rw[hx];simp)] at hix
   refine cU ?_
   exact⟨i+1,by omega,cG,by omega,hix⟩
 ·obtain rfl:i=l.length:=by omega
  rw[List.drop_length] at hix
  rw[←hix]
  refine cU ?_
  first|exact rfl|trivial
end Go.Proofs.YtjopoheligmmoaaGreatDoor
end
section
/- Stuck: the walk. -/
namespace Go.Proofs.YtjopoheligmmoaaGreatDoor
open Go Go.cY Go.Proofs
set_option linter.unusedSimpArgs false
set_option linter.unusedVariables false
set_option maxRecDepth 8000
def la (l:List cm):List cm:=l.filter fun e=> !e.ended
abbrev TK:AV:= .fn (.func 56) [] []
theorem A5:Pure Tryz.prog 55 [.sc (.slice none 0 0),TK] (fun r=>r= .sc (.slice none 0 0)):=by
 have c0:Pure Tryz.prog 99 [.sc (.slice none 0 0),TK] (fun r=>r=i64 (-1)):=
  Pure.args (xj [] (by decide)) fun c=> .cons (cY.dR.nF c c 3 .any) (.cons (fun _ h=>h) .nil)
 refine aI IV rfl ?_
 refine cU ?_
 first|exact rfl|trivial
theorem J4 {H:Hp} {b:Nat} {d:AV} {l:List cm} (h:bt H b=some (.row 105 3 d (l.map cm.av))):[AV.sl b l.length,TK].map (cY.dV H 6)=[iN l,TK]:=by
 show[cY.dV H 6 (.sl b l.length),cY.dV H 6 TK]=_
 rw[df (k:=5) h (by simp),cy _ (gV l),dv _ (show cL 0 TK by simp[cL,cX])]
set_option maxHeartbeats 4000000 in
theorem xL {l:List cm} (hl:l.length≤65536) {b:Nat} {H:Hp} {nx:Nat} (hb:∃d,bt H b=some (.row 105 3 d (l.map cm.av))) (hlt:b<nx):
 cJ Tryz.prog 55 [.sl b l.length,TK] H nx (fun r H' n=>cY.dV H' 5 r=iN (la l)∧∃b m,r= .sl b m∨∃q,r= .sv b m 0 q):=by
 obtain⟨d0,r0'⟩:=hb
 have a0:(l.map cm.av).length=l.length:=List.length_map _
 have dY:=sH cm.ended l 0
 refine aM IV rfl ?_
 refine cU ?_
 refine aS (xj l hl) (J4 (d:=d0) bw) (by simp only[cX,cL];exact⟨gV l,⟨trivial,trivial⟩,trivial⟩) (by simp[fu]) ?_
 rcases dY with⟨h1,h2⟩|⟨i,h1,hil,h2,h3⟩
 ·rw[h1]
  refine cU ?_
  refine⟨?_,_,_, .inl rfl⟩
  have:la l=l:=by
   unfold la
   rw[List.filter_eq_self]
   intro e he
   rw[h2 e he];rfl
  rw[this]
  show cY.dV _ 5 (.sl b l.length)=_
  rw[df (k:=4) bw a0,cy _ (gV l)]
 ·rw[h1,Nat.zero_add]
  have hst:(l.take (i+1)).filter (fun e=> !e.ended)=l.take i:=by
   rw[List.take_succ_eq_append_getElem hil,List.filter_append]
   have e1:(l.take i).filter (fun e=> !e.ended)=l.take i:=by
    rw[List.filter_eq_self]
    intro e he
    rw[h2 e he];rfl
   have e2:l[i]=l.getD i default:=by simp[List.getD,hil]
   rw[e1,e2,List.filter_cons,h3]
   simp
  refine cU ?_
  refine aL (fun σ:Nat×Nat×List cm=>[(0, .sl b l.length),(1,TK),(5,i64 σ.1),(6,i64 σ.2.1)])
   (fun σ H2 n=>σ.1+1≤σ.2.1∧σ.2.1≤l.length∧σ.2.2.length=l.length∧(∀q,σ.2.1≤q→σ.2.2.getD q default=l.getD q default)∧σ.2.2.take σ.1=(l.take σ.2.1).filter (fun e=> !e.ended)∧nx≤n∧(∃d,bt H2 b=some (.row 105 3 d (σ.2.2.map cm.av)))) (fun σ=>l.length - σ.2.1) (i,i+1,l)
   cG ⟨Nat.le_refl _,by show i+1≤l.length;omega,rfl,fun _ _=>rfl,hst.symm,c8,⟨_,bw⟩⟩ ?_
  clear r0' hst h1 h2 h3
  rintro⟨k,j,es⟩ H3 n ⟨hkj,hj,hel,hsame,hdd,hn,⟨d0,r0'⟩⟩
  dsimp only at hkj hj hel hsame hdd r0' ⊢
  have a1:(es.map cm.av).length=l.length:=by simp[hel]
  by_cases hjl:j<l.length
  ·have e0:∀d,(es.map cm.av).getD ((j:Int)).toNat d=(l.getD j default).av:=fun d=>by rw[Int.toNat_natCast,gU (by omega) d,hsame _ (by omega)]
   have e2:∀d,(es.map cm.av).getD ((k:Int)).toNat d=(es.getD k default).av:=fun d=>by rw[Int.toNat_natCast];exact gU (by omega) d
   have hnx:(l.take (j+1)).filter (fun e=> !e.ended)=(l.take j).filter (fun e=> !e.ended)++(if(l.getD j default).ended=true then[] else[l.getD j default]):=by
    rw[List.take_succ_eq_append_getElem hjl,List.filter_append,show l.getD j default=l[j] by simp[List.getD,hjl]]
    congr 1
    rw[List.filter_cons]
    cases l[j].ended<;>rfl
   have c0:=pH (l.getD j default)
   generalize l.getD j default=x at *
   cases hx:x.ended with
   |true=>
    rw[hx] at c0
    rw[if_pos hx,List.append_nil] at hnx
    refine cU ?_
    exact⟨(k,j+1,es),by dsimp only;omega,cG,by dsimp only;omega,by dsimp only;omega,hel,fun q hq=>hsame q (by dsimp only at hq;omega),by dsimp only;rw[hnx];exact hdd,c8,⟨d0,bw⟩⟩
   |false=>
    rw[hx] at c0
    rw[if_neg (by rw[hx];simp)] at hnx
    refine cU ?_
    refine⟨(k+1,j+1,es.set k x),by dsimp only;omega,cG,by dsimp only;omega,by dsimp only;omega,by simp[hel],fun q hq=> ?_, ?_,c8,⟨d0,by dsimp only;rw[List.map_set];exact bw⟩⟩
    ·have hq:j+1≤q:=hq
     dsimp only
     rw[getD_set_ne (by omega)];exact hsame q (by omega)
    ·dsimp only
     rw[hnx,jm (by omega),hdd]
  ·obtain rfl:j=l.length:=by omega
   rw[List.take_length] at hdd
   refine cU ?_
   refine⟨?_,_,_, .inr ⟨_,rfl⟩⟩
   rw[Int.toNat_natCast]
   have hkl:k≤l.length:=by omega
   generalize hZ:List.replicate (l.length - k) (gI true [Value.slice none 0 0,Value.slice none 0 0,Value.bool false])=Z
   have hZl:Z.length=l.length - k:=by rw[←hZ];simp
   have hr2:∀G:Hp,(∃d,bt G b=some (.row 105 3 d ((es.map cm.av).take k++Z++(es.map cm.av).drop (k+(l.length - k)))))→cY.dV G 5 (.sv b l.length 0 (k - 0))=iN (la l):=by
    rintro G ⟨d,hG⟩
    rw[L1 (k:=4) hG (by simp[hZl,hel];omega),List.drop_zero,Nat.sub_zero,List.append_assoc,List.take_append_of_le_length (by simp;omega),List.take_take,Nat.min_self,←List.map_take,hdd,cy _ (gV _)]
    rfl
   exact hr2 _ ⟨d0,bw⟩
noncomputable def fU (u:bu) (most:Int):List cm:=if(eH u most).1=0 then la (gn u (eH u most).2) else[]
theorem xM (u:bu) (l:List cT):(gn u l).length≤l.length:=Nat.le_trans (D2 _ _) (kb u l l.length)
theorem DT {u:bu} (hu:u.Wf) {most:Int} (h0:(eH u most).1=0):cZ u∧(1≤most∧most≤65536)∧∃l,gQ u most.toNat=some l∧(eH u most).2=l:=by
 by_cases hr:cZ u
 ·by_cases hm:1≤most∧most≤65536
  ·rw[oG hr hm] at h0 ⊢
   cases hs:gQ u most.toNat with
   |none=>rw[hs] at h0;cases h0
   |some l=>exact⟨hr,hm,l,rfl,rfl⟩
  ·rw[kX hr hm] at h0;cases h0
 ·rw[oF hr] at h0;cases h0
theorem DS {u:bu} (hu:u.Wf) {most:Int} (h0:(eH u most).1=0):(eH u most).2.length≤65536:=by
 obtain⟨hr,hm,l,hs,he⟩:=DT hu h0
 obtain⟨_,h2,_⟩:=kY hu hr (by omega) hs
 rw[he];omega
theorem EA (l:List cm) (e:Int):cL 0 (.dQ [iN l,i64 e]):=by
 have:=gV l
 simp[cL,cX,this]
set_option maxHeartbeats 1000000 in
theorem wS (u:bu) (hu:u.Wf) (most:Int):Pure Tryz.prog 23 [u.av,i64 most] (fun r=>r= .dQ [iN (fU u most),i64 (eH u most).1]):=by
 have key:Pure Tryz.prog 23 [u.av,i64 most] (fun r=>r=if(eH u most).1=0 then .dQ [iN (la (gn u (eH u most).2)),i64 0] else .dQ [.sc (.slice none 0 0),i64 (eH u most).1]):=by
  by_cases h0:(eH u most).1=0
  ·rw[if_pos h0]
   have hll:=DS hu h0
   have hel:=xM u (eH u most).2
   have hen:=HC u hu most h0
   have hfe:=gV (gn u (eH u most).2)
   generalize gn u (eH u most).2=es at *
   refine dU ?_ (EA _ _)
   refine aM IP rfl ?_
   refine cU ?_
   refine aJ (cJ.L0 (e:=105) (sz:=3) (es:=es.map cm.av) (cs:=[i64 0]) (by simp[l3]) (by rw[List.length_map];exact hen) hfe (by simp[cL,cX,cC])) ?_
   rintro _ H1 n1 ⟨rfl,rfl,rfl⟩
   rw[List.length_map]
   refine cU ?_
   refine aJ (xL (b:=5) (l:=es) (by omega) ⟨.any, ?_⟩ ?_) ?_
   ·exact bw
   ·exact c8
   rintro r H2 n2 ⟨hfz,b,m,hform⟩
   rcases hform with rfl|⟨q,rfl⟩
   all_goals
    refine cU ?_
    refine⟨?_⟩
    show AV.dQ [cY.dV _ 5 _,i64 0]=_
    exact congrArg (fun x=>AV.dQ [x,i64 0]) hfz
  ·rw[if_neg h0]
   have c0:=HD u hu most
   unfold tv at c0
   rw[if_neg h0] at c0
   have c1:=A5
   generalize (eH u most).1=er at *
   refine aI IP rfl ?_
   refine cU ?_
   first|exact rfl|trivial
 refine mm key (EA _ _) fun c=> ?_
 unfold fU
 by_cases h0:(eH u most).1=0
 ·rw[if_pos h0,if_pos h0,h0];exact fun _ h=>h
 ·rw[if_neg h0,if_neg h0]
  exact dR.dQ (.cons (dR.nF _ _ _ _) (.cons (fun _ h=>h) .nil))
end Go.Proofs.YtjopoheligmmoaaGreatDoor
end
section
/- More is the same: the least that is enough. -/
namespace Go.Proofs.YtjopoheligmmoaaGreatDoor
open Go Go.cY Go.Proofs
set_option linter.unusedSimpArgs false
set_option linter.unusedVariables false
set_option maxRecDepth 8000
end Go.Proofs.YtjopoheligmmoaaGreatDoor
end
section
/- Ends: in order, each once. -/
namespace Go.Proofs.YtjopoheligmmoaaGreatDoor
open Go Go.cY Go.Proofs
set_option linter.unusedSimpArgs false
set_option linter.unusedVariables false
theorem vc (l:List cm):∀k,∀e∈k7 l k,∃j,j<k∧e=l.getD j default
 |0,e,h=>by simp[k7] at h
 |1,e,h=>by simp only[k7,List.mem_cons,List.not_mem_nil,or_false] at h;exact⟨0,by omega,h⟩
 |k+2,e,h=>by
  rw[k7] at h
  split at h
  ·obtain⟨j,h1,h2⟩:=vc l (k+1) e h
   exact⟨j,by omega,h2⟩
  ·rcases List.mem_append.1 h with h|h
   ·obtain⟨j,h1,h2⟩:=vc l (k+1) e h
    exact⟨j,by omega,h2⟩
   ·simp only[List.mem_cons,List.not_mem_nil,or_false] at h
    exact⟨k+1,by omega,h⟩
theorem qk (l:List cm):∀k j,j<k→l.getD j default∈k7 l k
 |0,j,h=>by omega
 |1,j,h=>by
  obtain rfl:j=0:=by omega
  simp[k7]
 |k+2,j,h=>by
  rw[k7]
  split
  ·rename_i e
   by_cases hj:j=k+1
   ·rw[hj,e];exact qk l (k+1) k (by omega)
   ·exact qk l (k+1) j (by omega)
  ·by_cases hj:j=k+1
   ·rw[hj];exact List.mem_append.2 (.inr (by simp))
   ·exact List.mem_append.2 (.inl (qk l (k+1) j (by omega)))
theorem wI {α:Type} {R:α→α→Prop} {l:List α} (h:l.Pairwise R) (d:α) {i j:Nat} (hi:i<j) (hj:j<l.length):R (l.getD i d) (l.getD j d):=by
 have:=List.pairwise_iff_getElem.1 h i j (by omega) hj hi
 simpa[List.getD,hj,show i<l.length by omega] using this
theorem nP {l:List cm} (h:l.Pairwise fun x y=>uX fk x y=true):∀k,k≤l.length→(k7 l k).Pairwise fun x y=>fk x y<0
 |0,_=>by simp[k7]
 |1,_=>by simp[k7]
 |k+2,hk=>by
  rw[k7]
  split
  ·exact nP h (k+1) (by omega)
  ·rename_i hne
   refine List.pairwise_append.2 ⟨nP h (k+1) (by omega),by simp,fun a ha b hb=> ?_⟩
   simp only[List.mem_cons,List.not_mem_nil,or_false] at hb
   subst hb
   obtain⟨j,hj,rfl⟩:=vc l _ a ha
   have h1:=wI h default (i:=j) (j:=k+1) (by omega) (by omega)
   have h2:uX fk (l.getD j default) (l.getD k default)=true:=by
    by_cases e:j=k
    ·rw[e];simp[uX,(jV.zero _ _).2 rfl]
    ·exact wI h default (by omega) (by omega)
   have h3:=wI h default (i:=k) (j:=k+1) (by omega) (by omega)
   have h4:fk (l.getD j default) (l.getD (k+1) default)≠0:=fun e=>by
    have e1:=(jV.zero _ _).1 e
    rw[←e1] at h3
    have:=jV.EH h3 h2
    exact hne (by rw[this,←e1])
   simp only[uX,decide_eq_true_eq] at h1
   omega
theorem BA {u:bu} {l:List cT} {e:cm}:e∈dO u l l.length↔∃i,i<l.length∧(l.getD i default).m.stuck u=true∧e=(l.getD i default).m.end_ u:=by
 unfold dO
 rw[List.take_length,List.mem_filterMap]
 constructor
 ·rintro⟨f,hf,he⟩
  obtain⟨i,hi,rfl⟩:=List.mem_iff_getElem.1 hf
  split at he
  ·rename_i hs
   cases he
   refine⟨i,hi, ?_⟩
   rw[show l.getD i default=l[i] by simp[List.getD,hi]]
   exact⟨hs,rfl⟩
  ·cases he
 ·rintro⟨i,hi,hs,rfl⟩
  refine⟨l.getD i default,cR default hi, ?_⟩
  rw[if_pos hs]
theorem tw {u:bu} {l:List cT} {e:cm}:e∈gn u l↔e∈dO u l l.length:=by
 have hp:=kz fk (dO u l l.length)
 unfold gn
 constructor
 ·intro h
  obtain⟨j,hj,rfl⟩:=vc _ _ _ h
  exact hp.mem_iff.1 (cR default (by rw[hp.length_eq];exact hj))
 ·intro h
  obtain⟨j,hj,rfl⟩:=List.mem_iff_getElem.1 (hp.mem_iff.2 h)
  have:=qk (fX fk (dO u l l.length)) (dO u l l.length).length j (by rw[←hp.length_eq];exact hj)
  rwa[show(fX fk (dO u l l.length)).getD j default=(fX fk (dO u l l.length))[j] by simp[List.getD,hj]] at this
theorem vd (u:bu) (l:List cT):(gn u l).Pairwise fun x y=>fk x y<0:=by
 unfold gn
 refine nP (jV.sorted _) _ ?_
 rw[mj]
 exact Nat.le_refl _
end Go.Proofs.YtjopoheligmmoaaGreatDoor
end
section
/- All that is found is closed; one thread: what it comes to. -/
namespace Go.Proofs.YtjopoheligmmoaaGreatDoor
open Go Go.cY Go.Proofs
set_option linter.unusedSimpArgs false
set_option linter.unusedVariables false
theorem IH {l l':List cT} (h:l<+:l') {k:List UInt8} (hk:k∈jH l):k∈jH l':=by
 obtain⟨t,rfl⟩:=h
 simp only[jH,List.map_append,List.mem_append]
 exact .inl hk
theorem L4 {l l':List cT} (h:l<+:l') {k:Nat} (hk:k<l.length):l'.getD k default=l.getD k default:=by
 obtain⟨t,rfl⟩:=h
 simp[List.getD,List.getElem?_append,hk]
def DP (u:bu) (l:List cT) (k t:Nat):Prop:=(l.getD k default).m.mJ u t=0→gl ((l.getD k default).m.step u t).1∈jH l
theorem DP.pre {u:bu} {l l':List cT} {k t:Nat} (h:DP u l k t) (hk:k<l.length) (hp:l<+:l'):DP u l' k t:=by
 unfold DP at *
 rw[L4 hp hk]
 exact fun hb=>IH hp (h hb)
end Go.Proofs.YtjopoheligmmoaaGreatDoor
end
section
/- The key tells the situation. -/
namespace Go.Proofs.YtjopoheligmmoaaGreatDoor
open Go Go.cY Go.Proofs
open Go.Lib (decDigits itoa)
set_option linter.unusedSimpArgs false
set_option linter.unusedVariables false
end Go.Proofs.YtjopoheligmmoaaGreatDoor
end
section
/- One thread: what it comes to. -/
namespace Go.Proofs.YtjopoheligmmoaaGreatDoor
open Go Go.cY Go.Proofs
set_option linter.unusedSimpArgs false
set_option linter.unusedVariables false
end Go.Proofs.YtjopoheligmmoaaGreatDoor
end
section
/- What a machine comes to is found. -/
namespace Go.Proofs.YtjopoheligmmoaaGreatDoor
open Go Go.cY Go.Proofs
set_option linter.unusedSimpArgs false
set_option linter.unusedVariables false
end Go.Proofs.YtjopoheligmmoaaGreatDoor
end
section
/- Ways go to ends; each beginning of an end's prints is shown. -/
namespace Go.Proofs.YtjopoheligmmoaaGreatDoor
open Go Go.cY Go.Proofs
set_option linter.unusedSimpArgs false
set_option linter.unusedVariables false
theorem QP {u:bu} {l:List cT} {e:cm} (h:e∈gn u l):∃i,i<l.length∧fH u l e l.length=some i∧(l.getD i default).m.stuck u=true∧(l.getD i default).m.end_ u=e:=by
 obtain⟨i,hi,h1,h2⟩:=BA.1 (tw.1 h)
 cases hh:fH u l e l.length with
 |none=>
  exfalso
  unfold fH at hh
  have:=List.find?_eq_none.1 hh i (List.mem_range.2 hi)
  rw[h1,h2,(jV.zero _ _).2 rfl] at this
  simp at this
 |some j=>
  refine⟨j,MQ hh,rfl, ?_⟩
  unfold fH at hh
  have:=List.find?_some hh
  simp only[Bool.and_eq_true,decide_eq_true_eq] at this
  exact⟨this.1,(jV.zero _ _).1 this.2⟩
end Go.Proofs.YtjopoheligmmoaaGreatDoor
end
section
/- Way: the walk. -/
namespace Go.Proofs.YtjopoheligmmoaaGreatDoor
open Go Go.cY Go.Proofs
set_option linter.unusedSimpArgs false
set_option linter.unusedVariables false
set_option maxRecDepth 8000
theorem AT (a b:List Int) (ha:a.length<9223372036854775807):Pure Tryz.prog 63 [cS a,cS b] (fun r=>r=i64 (eY eV a b)):=by
 refine aI NM rfl ?_
 refine cU ?_
 rw[List.length_map]
 refine aL (fun i:Nat=>[(0,cS a),(1,cS b),(9,cS a),(10,i64 a.length),(11,i64 i)]) (fun i H n=>i≤a.length∧i≤b.length∧eY eV a b=eY eV (a.drop i) (b.drop i)) (fun i=>a.length - i) 0 cG ⟨Nat.zero_le _,Nat.zero_le _,rfl⟩ ?_
 rintro i H n ⟨hi,hib,ho⟩
 rw[ho]
 have a0:(a.map i64).length=a.length:=by simp
 have a1:(b.map i64).length=b.length:=by simp
 by_cases hil:i<a.length
 ·have e0:=fun d=>ints_at hil d
  by_cases hbl:i<b.length
  ·have e1:=fun d=>ints_at hbl d
   have hd:=vY eV 0 hil hbl
   have c0:=rR (a.getD i 0) (b.getD i 0)
   generalize a.getD i 0=p at *
   generalize b.getD i 0=q at *
   by_cases hz:eV p q=0
   ·have r0:=hz
    rw[if_pos hz] at hd
    refine cU ?_
    exact⟨i+1,by omega,cG,by omega,by omega,hd⟩
   ·have r0:=decide_eq_true hz
    rw[if_neg hz] at hd
    refine cU ?_
    rw[hd]
  ·rw[rW eV hil (by omega)]
   refine cU ?_
   first|exact rfl|trivial
 ·obtain rfl:i=a.length:=by omega
  rw[rU eV (Nat.le_refl _) hib]
  by_cases h:a.length<b.length
  ·rw[if_pos h]
   refine cU ?_
   first|exact rfl|trivial
  ·rw[if_neg h]
   refine cU ?_
   first|exact rfl|trivial
def G5 (a b:List Int):Int:=sY [eV a.length b.length,eY eV a b]
theorem G6 (a b:List Int) (ha:a.length<9223372036854775807) (hb:b.length<9223372036854775807):Pure Tryz.prog 60 [cS a,cS b] (fun r=>r=i64 (G5 a b)):=by
 have e:G5 a b=sY [eV ((a.map i64).length:Int) ((b.map i64).length:Int),eY eV a b]:=by
  unfold G5;rw[List.length_map,List.length_map]
 rw[e]
 have c0:=rR ((a.map i64).length:Int) ((b.map i64).length:Int)
 have c1:=AT a b ha
 have c2:=wF [eV ((a.map i64).length:Int) ((b.map i64).length:Int),eY eV a b] (by simp)
 refine aI NK rfl ?_
 refine cU ?_
 refine aS (args2:=[cS [eV ((a.map i64).length:Int) ((b.map i64).length:Int),eY eV a b]]) (r:=i64 (sY [eV ((a.map i64).length:Int) ((b.map i64).length:Int),eY eV a b])) c2 rfl (by simp[cX,cL]) trivial ?_
 refine cU ?_
 first|exact rfl|trivial
def vz (w:List Int):List (List Int)→List Int
 |[]=>w
 |x::r=>vz (if G5 x w<0 then x else w) r
abbrev ZJ:AV:= .fn (.func 60) [] []
abbrev jo (l:List (List Int)):List AV:=l.map cS
theorem GQ {l:List (List Int)} {i:Nat} (h:i<l.length) (d:AV):(jo l).getD i d=cS (l.getD i []):=cz cS l i d h
theorem I7 {l:List (List Int)} {i:Nat} (h:i<l.length) (w:List Int):vz w (l.drop i)=vz (if G5 (l.getD i []) w<0 then l.getD i [] else w) (l.drop (i+1)):=by
 rw[List.drop_eq_getElem_cons h,vz,show l.getD i []=l[i] by simp[List.getD,h]]
set_option maxHeartbeats 2000000 in
theorem N9 {l:List (List Int)} (h0:0<l.length) (hl:l.length≤65536) (hw:∀w∈l,w.length≤1048576) {b:Nat} {H:Hp} {nx:Nat} (hb:∃d,bt H b=some (.row 31 1 d (jo l))) (hlt:b<nx):
 cJ Tryz.prog 59 [.sl b l.length,ZJ] H nx (fun r H' n=>r=cS (vz (l.getD 0 []) (l.drop 1))):=by
 obtain⟨d0,r0'⟩:=hb
 have a0:(jo l).length=l.length:=List.length_map _
 have e0:∀d,(jo l).getD (0:Int).toNat d=cS (l.getD 0 []):=fun d=>GQ h0 d
 refine aM NJ rfl ?_
 refine cU ?_
 clear e0
 refine aL (fun σ:Nat×List Int=>[(0, .sl b l.length),(1,ZJ),(5,cS σ.2),(6,i64 σ.1)])
  (fun σ H2 n=>σ.1≤l.length∧σ.2.length≤1048576∧vz σ.2 (l.drop σ.1)=vz (l.getD 0 []) (l.drop 1)∧nx≤n∧bt H2 b=some (.row 31 1 d0 (jo l))) (fun σ=>l.length - σ.1) (1,l.getD 0 [])
  cG ⟨by show 1≤l.length;omega,hw _ (cR [] h0),rfl,c8,bw⟩ ?_
 clear r0'
 rintro⟨i,w⟩ H2 n ⟨hi,hwl,hm,hn,r0'⟩
 dsimp only at hi hwl hm ⊢
 by_cases hil:i<l.length
 ·have e0:∀d,(jo l).getD ((i:Int)).toNat d=cS (l.getD i []):=fun d=>by rw[Int.toNat_natCast];exact GQ hil d
  have hxl:=hw _ (cR [] hil)
  rw[I7 hil] at hm
  generalize l.getD i []=x at *
  have c0:=G6 x w (by omega) (by omega)
  by_cases hc:G5 x w<0
  ·rw[if_pos hc] at hm
   have r1:=decide_eq_true hc
   refine cU ?_
   exact⟨(i+1,x),by dsimp only;omega,cG,by dsimp only;omega,hxl,hm,c8,bw⟩
  ·rw[if_neg hc] at hm
   have r1:=decide_eq_false hc
   refine cU ?_
   exact⟨(i+1,w),by dsimp only;omega,cG,by dsimp only;omega,hwl,hm,c8,bw⟩
 ·obtain rfl:i=l.length:=by omega
  rw[List.drop_length,vz] at hm
  refine cU ?_
  exact⟨by rw[←hm]⟩
theorem KZ {u:bu} {l:List cT} (hf:iJ u l):∀i,i<l.length→(nB l i).length≤i:=by
 intro i
 induction i using Nat.strongRecOn with
 |_ i ih=>
  intro hi
  by_cases h0:i=0
  ·subst h0
   rw[tc (by rw[hf.first];show ¬(0:Int)≤-1;omega)]
   exact Nat.le_refl _
  ·obtain⟨k,t,h1,h2,h3,h4⟩:=hf.K3 i (by omega) hi
   have hfr:(l.getD i default).from_=k:=by rw[h4]
   rw[wx hf hi (by rw[hfr];omega),hfr,Int.toNat_natCast,List.length_cons]
   have:=ih k h1 (by omega)
   omega
theorem JY {u:bu} (hu:u.Wf) {most:Int} (h0:(eH u most).1=0) {e:cm} (he:e∈fU u most):∃i,i<(eH u most).2.length∧fH u (eH u most).2 e (eH u most).2.length=some i∧((eH u most).2.getD i default).m.stuck u=true∧((eH u most).2.getD i default).m.end_ u=e∧e.ended=false:=by
 unfold fU at he
 rw[if_pos h0] at he
 obtain⟨h1,h2⟩:=List.mem_filter.1 he
 obtain⟨i,g1,g2,g3,g4⟩:=QP h1
 exact⟨i,g1,g2,g3,g4,by simpa using h2⟩
theorem PV {u:bu} (hu:u.Wf) {most:Int} (h0:(eH u most).1=0):cZ u∧iJ u (eH u most).2∧(eH u most).2.length≤65536:=by
 obtain⟨hr,hm,l,hs,he⟩:=DT hu h0
 obtain⟨hf,h2,_⟩:=kY hu hr (by omega) hs
 rw[he]
 exact⟨hr,hf,by omega⟩
noncomputable def pK (u:bu) (most:Int) (e:cm):List Int:=jb (eH u most).2 (fH u (eH u most).2 e (eH u most).2.length)
theorem J6 {u:bu} (hu:u.Wf) {most:Int} (h0:(eH u most).1=0) {e:cm} (he:e∈fU u most):Pure Tryz.prog 58 [u.av,i64 most,e.av] (fun r=>r= .dQ [cS (pK u most e),bl true,i64 0])∧(pK u most e).length≤65536:=by
 obtain⟨hr,hf,hl⟩:=PV hu h0
 obtain⟨i,g1,g2,g3,g4,g5⟩:=JY hu h0 he
 obtain⟨q1,q2⟩:=hf.ok i g1
 have hm:=q1.ml
 have hs:=hr.qO
 have c:=O9 u hu most e (by rw[←g4];show(((eH u most).2.getD i default).m.cN).length * 16≤_;omega) (by rw[←g4];show(((eH u most).2.getD i default).m.mem).length * 8≤_;omega)
 unfold ur at c
 rw[if_pos h0,g2] at c
 refine⟨?_, ?_⟩
 ·unfold pK;rw[g2];exact c
 ·unfold pK;rw[g2]
  show((nB _ i).reverse).length≤_
  have:=KZ hf i g1
  rw[List.length_reverse];omega
noncomputable def uu (u:bu) (most:Int):List (List Int):=(fU u most).map (pK u most)
noncomputable def wU (u:bu) (most:Int):List Int:=vz ((uu u most).getD 0 []) ((uu u most).drop 1)
theorem DG {u:bu} (hu:u.Wf) {most:Int} (h0:(eH u most).1=0):(fU u most).length≤65536:=by
 have hll:=DS hu h0
 have hel:=xM u (eH u most).2
 unfold fU;rw[if_pos h0]
 exact Nat.le_trans (List.length_filter_le _ _) (by omega)
theorem mP (l:List Int) (b:Bool) (e:Int):cL 0 (.dQ [cS l,bl b,i64 e]):=by
 simp[cL,cX,cC]
set_option maxHeartbeats 2000000 in
theorem O8 (u:bu) (hu:u.Wf) (most:Int) (h0:(eH u most).1=0) (hne:fU u most≠[]):Pure Tryz.prog 25 [u.av,i64 most] (fun r=>r= .dQ [cS (wU u most),bl true,i64 0]):=by
 have c0:=wS u hu most
 rw[h0] at c0
 have hsl:=DG hu h0
 have hwp:=fun e he=>J6 (e:=e) hu h0 he
 have hpos:0<(fU u most).length:=List.length_pos_iff.2 hne
 unfold wU uu
 generalize fU u most=es at *
 have a0:(es.map cm.av).length=es.length:=List.length_map _
 refine dU ?_ (mP _ _ _)
 refine aM BZ rfl ?_
 refine cU ?_
 simp only[List.length_map]
 refine aU (fun i:Nat=>[(2, .pt 0 1 0 0),(1,i64 most),(9, .sl 17 i),(24,iN es),(25,i64 es.length),(26,i64 i)])
  (fun i H n=>i≤es.length∧18≤n∧(∃d,bt H 0=some (.row 25 3 d [u.av]))∧∃d,bt H 17=some (.row 31 1 d (jo ((es.take i).map (pK u most))))) (fun i=>es.length - i) 0
  ⟨_,_,_,Rt.nil 9 31 1 (by omega) rfl,cG,Nat.zero_le _,c8,⟨_,bw⟩,⟨_,bw⟩⟩ ?_
 rintro i H n ⟨hi,hn,⟨d0,r0⟩,⟨d1,r1⟩⟩
 have a1:(jo ((es.take i).map (pK u most))).length=i:=by
  unfold jo;rw[List.length_map,List.length_map,List.length_take];omega
 by_cases hil:i<es.length
 ·have e0:∀d,(es.map cm.av).getD ((i:Int)).toNat d=(es.getD i default).av:=fun d=>by rw[Int.toNat_natCast];exact gU hil d
  have hmem:=cR (default:cm) hil
  obtain⟨c1,hwl⟩:=hwp _ hmem
  have hnx:(es.take (i+1)).map (pK u most)=(es.take i).map (pK u most)++[pK u most (es.getD i default)]:=by
   rw[List.take_succ_eq_append_getElem hil,List.map_append];simp[List.getD,hil]
  refine cU ?_
  exact⟨i+1,by omega,_,_,_,Rt.refl _ _ _,cG,by omega,c8,⟨_,bw⟩,⟨_,by rw[hnx];unfold jo;rw[List.map_append];exact bw⟩⟩
 ·obtain rfl:i=es.length:=by omega
  rw[List.take_length] at r1
  have hlen:(es.map (pK u most)).length=es.length:=List.length_map _
  have hmin:=fun(H:Hp) (nx:Nat)=>N9 (H:=H) (nx:=nx) (l:=es.map (pK u most)) (b:=17) (by omega) (by omega) (fun w hw=>by
   obtain⟨e,he,rfl⟩:=List.mem_map.1 hw
   have:=(hwp e he).2
   omega)
  rw[hlen] at hmin
  refine cU ?_
  refine aJ (hmin _ _ ⟨d1, ?_⟩ c8) ?_
  ·exact bw
  rintro _ H2 n2 rfl
  refine cU ?_
  exact⟨rfl⟩
theorem ZH (u:bu) (hu:u.Wf) (most:Int):Pure Tryz.prog 25 [u.av,i64 most] (fun r=>r= .dQ [cS (wU u most),bl (decide (fU u most≠[])),i64 (eH u most).1]):=by
 by_cases h0:(eH u most).1=0
 ·by_cases hne:fU u most=[]
  ·have c0:=wS u hu most
   rw[hne,h0] at c0
   have hw:wU u most=[]:=by unfold wU uu;rw[hne];rfl
   rw[hw,h0,decide_eq_false (fun h=>h hne)]
   have key:Pure Tryz.prog 25 [u.av,i64 most] (fun r=>r= .dQ [.sc (.slice none 0 0),bl false,i64 0]):=by
    refine aI BZ rfl ?_
    refine cU ?_
    refine aL (fun _:Nat=>[(9, .sc (.slice none 0 0)),(25,i64 0),(26,i64 0)]) (fun _ H n=>True) (fun _=>0) 0 cG trivial ?_
    rintro _ H n _
    refine cU ?_
    first|exact rfl|trivial
   refine mm key (mP _ _ _) fun c=>dR.dQ (.cons (dR.nF _ _ _ _) (.cons (fun _ h=>h) (.cons (fun _ h=>h) .nil)))
  ·rw[h0,decide_eq_true hne]
   exact O8 u hu most h0 hne
 ·have hs:fU u most=[]:=by unfold fU;rw[if_neg h0]
  have hw:wU u most=[]:=by unfold wU uu;rw[hs];rfl
  rw[hw,decide_eq_false (fun h=>h hs)]
  have c0:=wS u hu most
  have key:Pure Tryz.prog 25 [u.av,i64 most] (fun r=>r= .dQ [.sc (.slice none 0 0),bl false,i64 (eH u most).1]):=by
   generalize fU u most=es at *
   generalize (eH u most).1=er at *
   refine aI BZ rfl ?_
   refine cU ?_
   first|exact rfl|trivial
  refine mm key (mP _ _ _) fun c=>dR.dQ (.cons (dR.nF _ _ _ _) (.cons (fun _ h=>h) (.cons (fun _ h=>h) .nil)))
end Go.Proofs.YtjopoheligmmoaaGreatDoor
end
