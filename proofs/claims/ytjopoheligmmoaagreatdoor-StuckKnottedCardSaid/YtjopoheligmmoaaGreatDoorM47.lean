import Derived.Test.YtjopoheligmmoaaGreatDoorM45
import Derived.Test.YtjopoheligmmoaaGreatDoorM41
import Derived.Test.YtjopoheligmmoaaGreatDoorM46
import Derived.Test.YtjopoheligmmoaaGreatDoorM38
import Derived.Test.YtjopoheligmmoaaGreatDoorM33
import Derived.Test.YtjopoheligmmoaaGreatDoorM36
section
/- Ends as rows of the caller's own; what deletes from them. -/
namespace Go.cY
open Go.RowKit
set_option linter.unusedSimpArgs false
set_option linter.unusedVariables false
theorem cJ.rt {P:Program} {f:FuncId} {args:List AV} {H:Hp} {nx:Nat} {R R2:AV→Hp→Nat→Prop} (h:cJ P f args H nx R) (hR:∀r H' n,R r H' n→∃fr2 H2 n2,Rt [(0,r)] H' n fr2 H2 n2∧R2 (ca fr2 0) H2 n2):cJ P f args H nx R2:=by
 refine⟨h.1,fun w0 c vs a1 a2 a3 a4=>(h.2 w0 c vs a1 a2 a3 a4).mono ?_⟩
 rintro e w' ⟨v,r,H',nx',ρ,U,rfl,hRr,hU,hS,hle,hv⟩
 obtain⟨fr2,H2,n2,hw,hR2⟩:=hR r H' nx' hRr
 have hh:Holds w0 c.M0 ⟨ρ,bt H',U,w',c.M0⟩ nx' 1 [(0,r)] H' nx' ⟨#[v],[]⟩ w':=by
  refine⟨rfl,rfl,ρ,U,hU,hS,fun t=> ?_,⟨hU,Cx.le.refl _⟩⟩
  by_cases ht:t=0
  ·subst ht;exact hv
  ·have:ca [(0,r)] t= .any:=by simp[ca,ht]
   rw[this];exact dN.any _ _ _ _ (by rw[VR];trivial)
 obtain⟨_,_,ρ2,U2,k1,k2,k3,k4⟩:=hw _ _ _ _ _ _ _ hh
 exact⟨v,_,H2,n2,ρ2,U2,rfl,hR2,k1,k2,hle.trans k4.2,k3 0⟩
theorem cJ.Q8 {P:Program} {f:FuncId} {args:List AV} {e:TypeId} {sz:Nat} {es cs:List AV} (dZ:lp cs) (h:cJ P f args [] 0 (fun r1 H1 _=>∃b d0,r1= .dP (.sl b es.length::cs)∧bt H1 b=some (.row e sz d0 es))) (hes:cZ 0 es) (d:AV) {H:Hp} {id:Nat} (hfa:cZ 0 args):
 kB P f args H id (fun r' H''=>r'= .dP (.sl id es.length::cs)∧H''=dA H (some (id, .row e sz d es))):=by
 refine⟨h.1,fun w0 c vs hS hH hid hv=> ?_⟩
 have hS0:dX c.w ⟨fun _=>none,bt [],fun _=>False,c.w,c.M⟩:=⟨Below.refl _ _,hS.fit,fun b e sz d es he=>by simp[bt] at he,fun b b' k k' blk o z o' z' hk=>by simp[bt] at hk⟩
 have hv':cd ⟨fun _=>none,bt [],fun _=>False,c.w,c.M⟩ args vs:=cd.mM (fun _ h=>h) hfa hv
 refine(h.2 c.w _ vs hS0 rfl (fun _ h=>h.elim) hv').mono ?_
 rintro en w' ⟨v,r1,H1,nx',ρ,U,he,⟨b,d0,rfl,hb⟩,hU,hS',_,hvr⟩
 rw[VR] at hvr
 obtain⟨us,hus,hvr⟩:=hvr
 rw[cd] at hvr
 obtain⟨x,v3,hx3,hvr,hv3⟩:=hvr
 have fin:∀c2:Cx,VR c2 (.sl id es.length) x→VR c2 (.dP (.sl id es.length::cs)) v:=fun c2 h2=>by
  rw[VR]
  refine⟨us,hus, ?_⟩
  rw[hx3,cd]
  exact⟨x,v3,rfl,h2,mY dZ hv3⟩
 rw[VR] at hvr
 obtain⟨_,ad,cap,hvv,hrr⟩:=hvr
 obtain⟨_,hr2⟩:=hrr _ _ _ _ hb
 have hr3:=hr2 rfl
 obtain⟨_,hz,hor⟩:=hS'.jT b _ _ _ _ hb (tE hr3)
 have hbel:=hS'.below
 obtain⟨s1,s2⟩:=hS.world hbel
 have hHeq:bt (dA H (some (id, .row e sz d es)))=ep c.H id (some (.row e sz d es)):=by rw[dU,hH]
 rcases hor with⟨h0,hes0⟩|⟨blk,o,z,hρ,hlow,⟨arr,harr,hsz⟩,hlz,hrow⟩
 ·subst hes0
  obtain⟨p1,p2⟩:=s1.KA (b:=id) (e:=e) (sz:=sz) d hz hid
  refine⟨v,_,_,ep c.ρ id none,he,⟨rfl,rfl⟩, ?_, ?_,fin _ ?_⟩
  ·rw[hHeq];exact p1
  ·rw[hHeq];exact s2.trans p2
  ·rw[hHeq,VR]
   refine⟨.inr rfl,ad,cap,hvv,fun e' sz' d' es' he'=> ?_⟩
   simp only[iT,dG,Option.some.injEq,eT.row.injEq] at he'
   obtain⟨rfl,rfl,rfl,rfl⟩:=he'
   refine⟨Nat.le_refl _,fun _=> .inl ⟨by simp[iT], ?_⟩⟩
   rcases hr3 with⟨_,h2,h3⟩|⟨blk,o,z,h2,_⟩
   ·exact⟨h2,h3⟩
   ·rw[h0] at h2;cases h2
 ·obtain⟨p1,p2⟩:=hS.pI (b:=id) (e:=e) (sz:=sz) d (es:=es) (w':=w') (blk:=blk) (o:=o) (z:=z) hz (.inl hid) (.inl hlow) hbel.os hbel.tape hbel.output hbel.size (fun k hk _=>hbel.block k hk) harr hsz hlz (fun hle i hi=>by
   obtain⟨y,x1,x2⟩:=dc hrow i hi
   refine⟨y,x1, ?_⟩
   refine VR.gA (n:=0) ?_ ?_ x2
   ·refine⟨fun b hb=>absurd hb (Nat.not_lt_zero _),fun q hq _=>⟨rfl,fun hm=>hq ?_⟩,fun b hb=>absurd hb (Nat.not_lt_zero _)⟩
    rcases hm with hm|⟨b',k',o',z',h1,h2⟩
    ·exact Or.inl (show c.M q from Or.inl hm)
    ·dsimp only at h1 h2
     by_cases e:b'=id
     ·subst e
      rw[dG] at h2
      cases h2
      exact Or.inr ⟨b,_,_,_,hb,hρ⟩
     ·simp only[ep,if_neg e] at h1 h2
      exact Or.inl (show c.M q from Or.inr ⟨b',k',o',z',h1,h2⟩)
   ·have hx4:es.getD i .any=es[i]:=by simp[List.getD,hi]
    rw[hx4]
    exact oY hes _ (List.getElem_mem hi))
  refine⟨v,_,_,ep c.ρ id (some (blk,o,z)),he,⟨rfl,rfl⟩, ?_, ?_,fin _ ?_⟩
  ·rw[hHeq];exact p1
  ·rw[hHeq];exact p2
  ·rw[hHeq,VR]
   refine⟨.inr rfl,ad,cap,hvv,fun e' sz' d' es' he'=> ?_⟩
   simp only[iT,dG,Option.some.injEq,eT.row.injEq] at he'
   obtain⟨rfl,rfl,rfl,rfl⟩:=he'
   refine⟨by omega,fun _=> .inr ⟨blk,o,z,by simp[iT], ?_⟩⟩
   rcases hr3 with⟨h2,_,_⟩|⟨blk',o',z',h2,h3,h4,h5,h6⟩
   ·rw[hρ] at h2;cases h2
   ·rw[hρ] at h2;cases h2
    exact⟨h3,h4,h5,h6⟩
theorem cJ.MT {P:Program} {f:FuncId} {args:List AV} {e:TypeId} {sz:Nat} {es cs:List AV} (dZ:lp cs) (h:cJ P f args [] 0 (fun r1 H1 _=>∃b d0,r1= .dP (.sl b es.length::cs)∧bt H1 b=some (.row e sz d0 es))) (hes:cZ 0 es) (hfa:cZ 0 args) {H:Hp} {nx:Nat}:
 cJ P f args H nx (fun r H' n=>r= .dP (.sl nx es.length::cs)∧H'=(nx,some (.row e sz .any es))::H∧n=nx+1):=
 (kB.XA (h.Q8 dZ hes .any hfa)).mono fun r H' n ⟨⟨h1,h2⟩,h3⟩=>⟨h1,h2,h3⟩
end Go.cY
namespace Go.Proofs.YtjopoheligmmoaaGreatDoor
open Go Go.cY Go.Proofs
set_option linter.unusedSimpArgs false
set_option linter.unusedVariables false
set_option maxRecDepth 8000
set_option maxHeartbeats 4000000 in
theorem xY (o:Nat) (l:List cm) (hl:l.length≤65536) (hok:∀e∈l,e.cN.length<9223372036854775807∧e.mem.length<9223372036854775807) (H:Hp) (nx:Nat) (ho:o<nx) (hr:∃d,bt H o=some (.row 105 3 d (l.map cm.av))):
 cJ Tryz.prog 97 [.sl o l.length, .fn (.func 98) [] []] H nx (fun r H' n=>nx≤n∧(∀y,y<nx→y≠o→bt H' y=bt H y)∧(r= .sl o l.length∧(ku l l.length).length=l.length∧(∃d,bt H' o=some (.row 105 3 d ((ku l l.length).map cm.av)))∨∃es:List AV,r= .sv o l.length 0 (ku l l.length).length∧es.length=l.length∧(ku l l.length).length≤l.length∧es.take (ku l l.length).length=(ku l l.length).map cm.av∧∃d,bt H' o=some (.row 105 3 d es))):=by
 obtain⟨d0,r0'⟩:=hr
 have a0:(l.map cm.av).length=l.length:=by simp
 have same:∀i j,i<l.length→j<l.length→Pure Tryz.prog 98 [(l.getD i default).av,(l.getD j default).av] (fun r=>r=bl (decide (l.getD i default=l.getD j default))):=fun i j hi hj=>by
  obtain⟨p1,p2⟩:=hok _ (cS default hi)
  have:=oA (l.getD i default) (l.getD j default) p1 p2
  simpa only[pe] using this
 refine aL JR rfl ?_
 by_cases h2:l.length<2
 ·refine cV ?_
  have:ku l l.length=l:=by
   match l,h2 with
   |[],_=>rfl
   |[x],_=>rfl
  rw[this]
  exact⟨⟨c8,fun y y1 y2=>cA, .inl ⟨rfl,rfl,d0,bx⟩⟩⟩
 ·refine cV ?_
  refine aM (fun i:Nat=>[(0, .sl o l.length),(1, .fn (.func 98) [] []),(5,i64 i)]) (fun i H2 n=>1≤i∧i≤l.length∧nx≤n∧bt H2 o=some (.row 105 3 d0 (l.map cm.av))∧ku l i=l.take i∧∀y,y<nx→y≠o→bt H2 y=bt H y) (fun i=>l.length - i) 1 cH ⟨Nat.le_refl _,by omega,c8,bx,by rw[ku];cases l with|nil=>simp at h2|cons x t=>rfl,fun y y1 y2=>cA⟩ ?_
  clear r0'
  rintro i H2 n ⟨hi1,hi,hn,r0',hdd,hkp⟩
  by_cases hil:i<l.length
  ·have e0:∀d,(l.map cm.av).getD ((i:Int)).toNat d=(l.getD i default).av:=fun d=>by rw[Int.toNat_natCast];exact gX hil d
   have e1:∀d,(l.map cm.av).getD ((i:Int) - 1).toNat d=(l.getD (i - 1) default).av:=fun d=>by rw[show((i:Int) - 1).toNat=i - 1 by omega];exact gX (by omega) d
   have c0:=same i (i - 1) hil (by omega)
   have hsu:=oW l hi1
   by_cases he:l.getD i default=l.getD (i - 1) default
   ·rw[decide_eq_true he] at c0
    rw[if_pos he] at hsu
    refine cV ?_
    refine aM (fun σ:Nat×Nat×List cm=>[(0, .sl o l.length),(1, .fn (.func 98) [] []),(5,i64 σ.1),(6, .sv o l.length i (l.length - i)),(7,i64 σ.2.1)])
     (fun σ H2 n=>1≤σ.2.1∧i+σ.2.1≤l.length∧i≤σ.1∧σ.1+1≤i+σ.2.1∧σ.2.2.length=l.length∧(∀q,σ.1≤q→σ.2.2.getD q default=l.getD q default)∧σ.2.2.take σ.1=ku l (i+σ.2.1)∧nx≤n∧(∃d,bt H2 o=some (.row 105 3 d (σ.2.2.map cm.av)))∧∀y,y<nx→y≠o→bt H2 y=bt H y) (fun σ=>l.length - σ.2.1) (i,1,l) cH
     ⟨Nat.le_refl _,by show i+1≤l.length;omega,Nat.le_refl _,Nat.le_refl _,rfl,fun _ _=>rfl,by dsimp only;rw[hsu,hdd],c8,⟨_,bx⟩,fun y y1 y2=>Eq.trans cA (hkp y y1 y2)⟩ ?_
    clear c0 e0 e1 hsu hdd r0' hn hkp
    rintro⟨k,j,es⟩ H3 n ⟨hj1,hj,hik,hkj,hel,hsame,hdd,hn,⟨d1,r1'⟩,hkp⟩
    dsimp only at hj1 hj hik hkj hel hsame hdd r1' ⊢
    have a1:(es.map cm.av).length=l.length:=by simp[hel]
    by_cases hjl:j<l.length - i
    ·have e0:∀d,(es.map cm.av).getD (i+((j:Int)).toNat) d=(l.getD (i+j) default).av:=fun d=>by rw[Int.toNat_natCast,gX (by omega) d,hsame _ (by omega)]
     have e1:∀d,(es.map cm.av).getD (i+((j:Int) - 1).toNat) d=(l.getD (i+j - 1) default).av:=fun d=>by rw[show i+((j:Int) - 1).toNat=i+j - 1 by omega,gX (by omega) d,hsame _ (by omega)]
     have e2:∀d,(es.map cm.av).getD ((k:Int)).toNat d=(es.getD k default).av:=fun d=>by rw[Int.toNat_natCast];exact gX (by omega) d
     have c0:=same (i+j) (i+j - 1) (by omega) (by omega)
     have hsu:=oW l (k:=i+j) (by omega)
     by_cases he2:l.getD (i+j) default=l.getD (i+j - 1) default
     ·rw[decide_eq_true he2] at c0
      rw[if_pos he2] at hsu
      refine cV ?_
      exact⟨(k,j+1,es),by dsimp only;omega,cH,by dsimp only;omega,by dsimp only;omega,hik,by dsimp only;omega,hel,hsame,by dsimp only;rw[←Nat.add_assoc,hsu];exact hdd,c8,⟨d1,bx⟩,fun y y1 y2=>Eq.trans cA (hkp y y1 y2)⟩
     ·rw[decide_eq_false he2] at c0
      rw[if_neg he2] at hsu
      refine cV ?_
      refine⟨(k+1,j+1,es.set k (l.getD (i+j) default)),by dsimp only;omega,cH,by dsimp only;omega,by dsimp only;omega,by dsimp only;omega,by dsimp only;omega,by simp[hel],fun q hq=> ?_, ?_,c8,⟨d1,by dsimp only;rw[List.map_set];exact bx⟩,fun y y1 y2=>Eq.trans cA (hkp y y1 y2)⟩
      ·have hq:k+1≤q:=hq
       dsimp only
       rw[getD_set_ne (by omega)];exact hsame q (by omega)
      ·dsimp only
       rw[←Nat.add_assoc,hsu,jy (by omega),hdd]
    ·obtain rfl:j=l.length - i:=by omega
     rw[show i+(l.length - i)=l.length by omega] at hdd
     refine cV ?_
     rw[Int.toNat_natCast]
     have hkl:k≤l.length:=by omega
     have hkd:(ku l l.length).length=k:=by rw[←hdd,List.length_take,hel];omega
     generalize hZ:List.replicate (l.length - k) (gK true [Value.slice none 0 0,Value.slice none 0 0,Value.bool false])=Z
     have hZl:Z.length=l.length - k:=by rw[←hZ];simp
     rw[hkd]
     refine⟨⟨c8,fun y y1 y2=>Eq.trans cA (hkp y y1 y2), .inr ⟨(es.map cm.av).take k++Z++(es.map cm.av).drop (k+(l.length - k)),rfl, ?_,hkl, ?_,d1,bx⟩⟩⟩
     ·simp[hZl,hel];omega
     ·rw[List.append_assoc,List.take_append_of_le_length (by simp;omega),List.take_take,Nat.min_self,←List.map_take,hdd]
   ·rw[decide_eq_false he] at c0
    rw[if_neg he] at hsu
    refine cV ?_
    refine⟨i+1,by omega,cH,by omega,by omega,c8,bx, ?_,fun y y1 y2=>Eq.trans cA (hkp y y1 y2)⟩
    rw[hsu,hdd,List.take_succ_eq_append_getElem hil,show l.getD i default=l[i] by simp[List.getD,hil]]
  ·obtain rfl:i=l.length:=by omega
   rw[List.take_length] at hdd
   refine cV ?_
   rw[hdd]
   exact⟨⟨c8,fun y y1 y2=>Eq.trans cA (hkp y y1 y2), .inl ⟨rfl,rfl,d0,bx⟩⟩⟩
theorem tZ (o:Nat) (l:List cm) (hl:l.length≤65536) (hok:∀e∈l,e.cN.length<9223372036854775807∧e.mem.length<9223372036854775807) (H:Hp) (nx:Nat) (ho:o<nx) (hr:∃d,bt H o=some (.row 105 3 d (l.map cm.av))):
 cJ Tryz.prog 97 [.sl o l.length, .fn (.func 98) [] []] H nx (fun r H' n=>∃b,r= .sl b (ku l l.length).length∧(b=o∨nx≤b)∧b<n∧nx≤n∧(∃d,bt H' b=some (.row 105 3 d ((ku l l.length).map cm.av)))∧∀y,y<nx→y≠o→bt H' y=bt H y):=by
 refine(xY o l hl hok H nx ho hr).rt ?_
 rintro r H' n ⟨hn,hk,⟨rfl,h1,h2⟩|⟨es,rfl,h1,h2,h3,d,h4⟩⟩
 ·exact⟨_,H',n,Rt.refl _ _ _,o,by rw[h1];rfl, .inl rfl,by omega,hn,h2,hk⟩
 ·refine⟨_,_,n+1,Rt.part 0 rfl h4 h1 (by omega),n,rfl, .inr hn,by omega,by omega,⟨.any, ?_⟩,fun y y1 y2=> ?_⟩
  ·rw[List.drop_zero,h3];exact cp _ _ _
  ·exact(cX (by omega)).trans ((cX y2).trans (hk y y1 y2))
set_option maxHeartbeats 2000000 in
theorem ID (u:bu) (hu:u.Wf) (most:Int) (h0:(eG u most).1=0):cJ Tryz.prog 54 [u.av,i64 most] [] 0 (fun r H n=>∃b d,r= .dP [.sl b (gq u (eG u most).2).length,i64 0]∧bt H b=some (.row 105 3 d ((gq u (eG u most).2).map cm.av))):=by
 refine aL JN rfl ?_
 by_cases hr:cT u
 ·by_cases hm:1≤most∧most≤65536
  ·rw[oQ hr hm] at h0 ⊢
   refine cV ?_
   let l:=(gT u most.toNat).getD []
   let I:Nat→Hp→Prop:=fun k H=>(∃d,bt H 0=some (.row 25 3 d [u.av]))∧(∃d,bt H 3=some (.row 41 1 d [.sl 7 (dS u l k).length]))∧(∃d,bt H 7=some (.row 105 3 d ((dS u l k).map cm.av)))
   refine aJ (R:=fun r H n=>8≤n∧wq u most I r H) (L0 (b:=3) 105 3 (by omega) (by omega) (d:=gK false [.slice none 0 0]) (te:=41) ?_ fun H2 q1 q2 q3=> ?_) ?_
   ·exact bx
   ·refine(rW u hu hr most hm _ [.pt 0 1 0 0, .pt 3 1 0 0] H2 8 I ?_ ?_ ?_).mono fun r H n h=>⟨h.1,h.short⟩
    ·exact⟨⟨_,(q3 0 (by omega) (by omega)).trans bx⟩,⟨_,q1⟩,⟨_,q2⟩⟩
    ·rintro k H H' ⟨⟨d0,p0⟩,⟨d1,p1⟩,⟨d2,p2⟩⟩ hk
     exact⟨⟨d0,(hk 0 (by omega)).trans p0⟩,⟨d1,(hk 3 (by omega)).trans p1⟩,⟨d2,(hk 7 (by omega)).trans p2⟩⟩
    ·intro l' hl' k H n hk hn ⟨p0,p1,p2⟩
     have hll:l=l':=by show(gT u most.toNat).getD []=l';rw[hl'];rfl
     rw[hll] at p1 p2
     obtain⟨hf,hlm,_⟩:=ko hu hr (by omega) hl'
     refine(EY hr hf (by omega) hk (ub:=0) (ob:=3) (o:=7) (by omega) (by omega) (by omega) (by omega) p0 p1 p2).mono ?_
     rintro _ H' n' ⟨s1,s2,s3,s4⟩
     obtain⟨d0,p0⟩:=p0
     refine⟨⟨⟨d0,(s4 0 (by omega) (by omega) (by omega)).trans p0⟩, ?_, ?_⟩,s3,fun y y1 y2=>s4 y y2 (by omega) (by omega)⟩
     ·rw[hll];exact s1
     ·rw[hll];exact s2
   rintro r H' n' ⟨hn,hA⟩
   revert hA
   unfold wq
   cases hs:gT u most.toNat with
   |none=>rw[hs] at h0;cases h0
   |some l'=>
    rintro⟨rfl,⟨d0,p0⟩,⟨d1,p1⟩,p2⟩
    have hll:l=l':=by show(gT u most.toNat).getD []=l';rw[hs];rfl
    rw[hll] at p1 p2
    obtain⟨hf,hlm,_⟩:=ko hu hr (by omega) hs
    have hin:=uQ hr hf (by omega) l'.length
    have hlen:=kz u l' l'.length
    refine cV ?_
    refine aJ (vH 7 (dS u l' l'.length) hin (by omega) _ _ p2 c8) ?_
    rintro r H3 n3 ⟨⟨d5,r5⟩,hn3,hk3⟩
    have r6:=(hk3 3 c8 (by omega)).trans p1
    have hsl:(fc fq (dS u l' l'.length)).length=(dS u l' l'.length).length:=nB _ _
    refine cV ?_
    rw[←hsl]
    refine aJ (tZ 7 (fc fq (dS u l' l'.length)) (by omega) (fun e he=>hin e ((lK _ _).mem_iff.1 he)) _ _ c8 ⟨d5,r5⟩) ?_
    rintro r H4 n4 ⟨b,rfl,hb,hbn,hn4,⟨d6,r6⟩,hk4⟩
    refine cV ?_
    dsimp only
    have hE:gq u l'=ku (fc fq (dS u l' l'.length)) (fc fq (dS u l' l'.length)).length:=by rw[hsl];rfl
    rw[hE]
    exact⟨⟨b,d6,rfl,bx⟩⟩
  ·rw[kn hr hm] at h0;cases h0
 ·rw[oP hr] at h0;cases h0
def tf (f:cm→Bool):List cm→Nat→Int
 |[],_=>-1
 |e::l,k=>if f e=true then k else tf f l (k+1)
theorem sY (f:cm→Bool):∀(l:List cm) (k:Nat),tf f l k=-1∧(∀x∈l,f x=false)∨∃i:Nat,tf f l k=(k+i:Nat)∧i<l.length∧(∀x∈l.take i,f x=false)∧f (l.getD i default)=true
 |[],k=> .inl ⟨rfl,fun x hx=>by cases hx⟩
 |e::l,k=>by
  rw[tf]
  split
  ·rename_i h
   exact .inr ⟨0,rfl,by simp,by simp,h⟩
  ·rename_i h
   simp only[Bool.not_eq_true] at h
   rcases sY f l (k+1) with⟨h1,h2⟩|⟨i,h1,h2,h3,h4⟩
   ·refine .inl ⟨h1,fun x hx=> ?_⟩
    rcases List.mem_cons.1 hx with rfl|hx
    ·exact h
    ·exact h2 x hx
   ·refine .inr ⟨i+1,by rw[h1];congr 1;omega,by simpa using h2,fun x hx=> ?_,h4⟩
    rw[List.take_succ_cons] at hx
    rcases List.mem_cons.1 hx with rfl|hx
    ·exact h
    ·exact h3 x hx
theorem JA (f:cm→Bool) {l:List cm} {i:Nat} (h:i<l.length) (k:Nat):tf f (l.drop i) k=if f (l.getD i default)=true then(k:Int) else tf f (l.drop (i+1)) (k+1):=by
 rw[List.drop_eq_getElem_cons h,tf,show l.getD i default=l[i] by simp[List.getD,h]]
theorem pR (e:cm):Pure Tryz.prog 56 [e.av] (fun r=>r=bl e.ended):=by
 refine aI N8 rfl ?_
 refine cV ?_
 first|exact rfl|trivial
theorem yD (l:List cm) (hl:l.length≤65536):Pure Tryz.prog 99 [iR l, .fn (.func 56) [] []] (fun r=>r=i64 (tf cm.ended l 0)):=by
 refine aI OR rfl ?_
 refine cV ?_
 rw[List.length_map]
 refine aM (fun i:Nat=>[(0,iR l),(1, .fn (.func 56) [] []),(7,i64 l.length),(8,i64 i)])
  (fun i H2 n=>i≤l.length∧tf cm.ended (l.drop i) i=tf cm.ended l 0) (fun i=>l.length - i) 0
  cH ⟨Nat.zero_le _,rfl⟩ ?_
 rintro i H2 n ⟨hi,hix⟩
 have a0:(l.map cm.av).length=l.length:=List.length_map _
 by_cases hil:i<l.length
 ·have e0:∀d,(l.map cm.av).getD ((i:Int)).toNat d=(l.getD i default).av:=fun d=>by rw[Int.toNat_natCast];exact gX hil d
  rw[JA _ hil] at hix
  have c0:=pR (l.getD i default)
  generalize l.getD i default=x at *
  cases hx:x.ended with
  |true=>
   rw[hx] at c0
   rw[if_pos hx] at hix
   rw[←hix]
   refine cV ?_
   first|exact rfl|trivial
  |false=>
   rw[hx] at c0
   rw[if_neg (by rw[hx];simp)] at hix
   refine cV ?_
   exact⟨i+1,by omega,cH,by omega,hix⟩
 ·obtain rfl:i=l.length:=by omega
  rw[List.drop_length] at hix
  rw[←hix]
  refine cV ?_
  first|exact rfl|trivial
end Go.Proofs.YtjopoheligmmoaaGreatDoor
end
section
/- Stuck: the walk. -/
namespace Go.Proofs.YtjopoheligmmoaaGreatDoor
open Go Go.cY Go.Proofs
set_option linter.unusedSimpArgs false
set_option linter.unusedVariables false
set_option maxRecDepth 8000
def mB (l:List cm):List cm:=l.filter fun e=> !e.ended
abbrev T9:AV:= .fn (.func 56) [] []
theorem BU:Pure Tryz.prog 55 [.sc (.slice none 0 0),T9] (fun r=>r= .sc (.slice none 0 0)):=by
 have c0:Pure Tryz.prog 99 [.sc (.slice none 0 0),T9] (fun r=>r=i64 (-1)):=
  Pure.args (yD [] (by decide)) fun c=> .cons (cY.dN.lW c c 3 .any) (.cons (fun _ h=>h) .nil)
 refine aI JO rfl ?_
 refine cV ?_
 first|exact rfl|trivial
theorem KW {H:Hp} {b:Nat} {d:AV} {l:List cm} (h:bt H b=some (.row 105 3 d (l.map cm.av))):[AV.sl b l.length,T9].map (cY.dW H 6)=[iR l,T9]:=by
 show[cY.dW H 6 (.sl b l.length),cY.dW H 6 T9]=_
 rw[dh (k:=5) h (by simp),cx _ (gY l),dv _ (show cK 0 T9 by simp[cK,cZ])]
set_option maxHeartbeats 4000000 in
theorem x7 {l:List cm} (hl:l.length≤65536) {b:Nat} {H:Hp} {nx:Nat} (hb:∃d,bt H b=some (.row 105 3 d (l.map cm.av))) (hlt:b<nx):
 cJ Tryz.prog 55 [.sl b l.length,T9] H nx (fun r H' n=>cY.dW H' 5 r=iR (mB l)∧∃b m,r= .sl b m∨∃q,r= .sv b m 0 q):=by
 obtain⟨d0,r0'⟩:=hb
 have a0:(l.map cm.av).length=l.length:=List.length_map _
 have dZ:=sY cm.ended l 0
 refine aL JO rfl ?_
 refine cV ?_
 refine aS (yD l hl) (KW (d:=d0) bx) (by simp only[cZ,cK];exact⟨gY l,⟨trivial,trivial⟩,trivial⟩) (by simp[fy]) ?_
 rcases dZ with⟨h1,h2⟩|⟨i,h1,hil,h2,h3⟩
 ·rw[h1]
  refine cV ?_
  refine⟨?_,_,_, .inl rfl⟩
  have:mB l=l:=by
   unfold mB
   rw[List.filter_eq_self]
   intro e he
   rw[h2 e he];rfl
  rw[this]
  show cY.dW _ 5 (.sl b l.length)=_
  rw[dh (k:=4) bx a0,cx _ (gY l)]
 ·rw[h1,Nat.zero_add]
  have hst:(l.take (i+1)).filter (fun e=> !e.ended)=l.take i:=by
   rw[List.take_succ_eq_append_getElem hil,List.filter_append]
   have e1:(l.take i).filter (fun e=> !e.ended)=l.take i:=by
    rw[List.filter_eq_self]
    intro e he
    rw[h2 e he];rfl
   have e2:l[i]=l.getD i default:=by simp[List.getD,hil]
   rw[e1,e2,List.filter_cons,h3]
   simp
  refine cV ?_
  refine aM (fun σ:Nat×Nat×List cm=>[(0, .sl b l.length),(1,T9),(5,i64 σ.1),(6,i64 σ.2.1)])
   (fun σ H2 n=>σ.1+1≤σ.2.1∧σ.2.1≤l.length∧σ.2.2.length=l.length∧(∀q,σ.2.1≤q→σ.2.2.getD q default=l.getD q default)∧σ.2.2.take σ.1=(l.take σ.2.1).filter (fun e=> !e.ended)∧nx≤n∧(∃d,bt H2 b=some (.row 105 3 d (σ.2.2.map cm.av)))) (fun σ=>l.length - σ.2.1) (i,i+1,l)
   cH ⟨Nat.le_refl _,by show i+1≤l.length;omega,rfl,fun _ _=>rfl,hst.symm,c8,⟨_,bx⟩⟩ ?_
  clear r0' hst h1 h2 h3
  rintro⟨k,j,es⟩ H3 n ⟨hkj,hj,hel,hsame,hdd,hn,⟨d0,r0'⟩⟩
  dsimp only at hkj hj hel hsame hdd r0' ⊢
  have a1:(es.map cm.av).length=l.length:=by simp[hel]
  by_cases hjl:j<l.length
  ·have e0:∀d,(es.map cm.av).getD ((j:Int)).toNat d=(l.getD j default).av:=fun d=>by rw[Int.toNat_natCast,gX (by omega) d,hsame _ (by omega)]
   have e2:∀d,(es.map cm.av).getD ((k:Int)).toNat d=(es.getD k default).av:=fun d=>by rw[Int.toNat_natCast];exact gX (by omega) d
   have hnx:(l.take (j+1)).filter (fun e=> !e.ended)=(l.take j).filter (fun e=> !e.ended)++(if(l.getD j default).ended=true then[] else[l.getD j default]):=by
    rw[List.take_succ_eq_append_getElem hjl,List.filter_append,show l.getD j default=l[j] by simp[List.getD,hjl]]
    congr 1
    rw[List.filter_cons]
    cases l[j].ended<;>rfl
   have c0:=pR (l.getD j default)
   generalize l.getD j default=x at *
   cases hx:x.ended with
   |true=>
    rw[hx] at c0
    rw[if_pos hx,List.append_nil] at hnx
    refine cV ?_
    exact⟨(k,j+1,es),by dsimp only;omega,cH,by dsimp only;omega,by dsimp only;omega,hel,fun q hq=>hsame q (by dsimp only at hq;omega),by dsimp only;rw[hnx];exact hdd,c8,⟨d0,bx⟩⟩
   |false=>
    rw[hx] at c0
    rw[if_neg (by rw[hx];simp)] at hnx
    refine cV ?_
    refine⟨(k+1,j+1,es.set k x),by dsimp only;omega,cH,by dsimp only;omega,by dsimp only;omega,by simp[hel],fun q hq=> ?_, ?_,c8,⟨d0,by dsimp only;rw[List.map_set];exact bx⟩⟩
    ·have hq:j+1≤q:=hq
     dsimp only
     rw[getD_set_ne (by omega)];exact hsame q (by omega)
    ·dsimp only
     rw[hnx,jy (by omega),hdd]
  ·obtain rfl:j=l.length:=by omega
   rw[List.take_length] at hdd
   refine cV ?_
   refine⟨?_,_,_, .inr ⟨_,rfl⟩⟩
   rw[Int.toNat_natCast]
   have hkl:k≤l.length:=by omega
   generalize hZ:List.replicate (l.length - k) (gK true [Value.slice none 0 0,Value.slice none 0 0,Value.bool false])=Z
   have hZl:Z.length=l.length - k:=by rw[←hZ];simp
   have hr2:∀G:Hp,(∃d,bt G b=some (.row 105 3 d ((es.map cm.av).take k++Z++(es.map cm.av).drop (k+(l.length - k)))))→cY.dW G 5 (.sv b l.length 0 (k - 0))=iR (mB l):=by
    rintro G ⟨d,hG⟩
    rw[MU (k:=4) hG (by simp[hZl,hel];omega),List.drop_zero,Nat.sub_zero,List.append_assoc,List.take_append_of_le_length (by simp;omega),List.take_take,Nat.min_self,←List.map_take,hdd,cx _ (gY _)]
    rfl
   exact hr2 _ ⟨d0,bx⟩
noncomputable def ec (u:bu) (most:Int):List cm:=if(eG u most).1=0 then mB (gq u (eG u most).2) else[]
theorem xb (u:bu) (l:List cU):(gq u l).length≤l.length:=Nat.le_trans (EV _ _) (kz u l l.length)
theorem EL {u:bu} (hu:u.Wf) {most:Int} (h0:(eG u most).1=0):cT u∧(1≤most∧most≤65536)∧∃l,gT u most.toNat=some l∧(eG u most).2=l:=by
 by_cases hr:cT u
 ·by_cases hm:1≤most∧most≤65536
  ·rw[oQ hr hm] at h0 ⊢
   cases hs:gT u most.toNat with
   |none=>rw[hs] at h0;cases h0
   |some l=>exact⟨hr,hm,l,rfl,rfl⟩
  ·rw[kn hr hm] at h0;cases h0
 ·rw[oP hr] at h0;cases h0
theorem EK {u:bu} (hu:u.Wf) {most:Int} (h0:(eG u most).1=0):(eG u most).2.length≤65536:=by
 obtain⟨hr,hm,l,hs,he⟩:=EL hu h0
 obtain⟨_,h2,_⟩:=ko hu hr (by omega) hs
 rw[he];omega
theorem E4 (l:List cm) (e:Int):cK 0 (.dP [iR l,i64 e]):=by
 have:=gY l
 simp[cK,cZ,this]
set_option maxHeartbeats 1000000 in
theorem we (u:bu) (hu:u.Wf) (most:Int):Pure Tryz.prog 23 [u.av,i64 most] (fun r=>r= .dP [iR (ec u most),i64 (eG u most).1]):=by
 have key:Pure Tryz.prog 23 [u.av,i64 most] (fun r=>r=if(eG u most).1=0 then .dP [iR (mB (gq u (eG u most).2)),i64 0] else .dP [.sc (.slice none 0 0),i64 (eG u most).1]):=by
  by_cases h0:(eG u most).1=0
  ·rw[if_pos h0]
   have hll:=EK hu h0
   have hel:=xb u (eG u most).2
   have hen:=ID u hu most h0
   have hfe:=gY (gq u (eG u most).2)
   generalize gq u (eG u most).2=es at *
   refine dH ?_ (E4 _ _)
   refine aL JI rfl ?_
   refine cV ?_
   refine aJ (cJ.MT (e:=105) (sz:=3) (es:=es.map cm.av) (cs:=[i64 0]) (by simp[lp]) (by rw[List.length_map];exact hen) hfe (by simp[cK,cZ,cC])) ?_
   rintro _ H1 n1 ⟨rfl,rfl,rfl⟩
   rw[List.length_map]
   refine cV ?_
   refine aJ (x7 (b:=5) (l:=es) (by omega) ⟨.any, ?_⟩ ?_) ?_
   ·exact bx
   ·exact c8
   rintro r H2 n2 ⟨hfz,b,m,hform⟩
   rcases hform with rfl|⟨q,rfl⟩
   all_goals
    refine cV ?_
    refine⟨?_⟩
    show AV.dP [cY.dW _ 5 _,i64 0]=_
    exact congrArg (fun x=>AV.dP [x,i64 0]) hfz
  ·rw[if_neg h0]
   have c0:=IE u hu most
   unfold uO at c0
   rw[if_neg h0] at c0
   have c1:=BU
   generalize (eG u most).1=er at *
   refine aI JI rfl ?_
   refine cV ?_
   first|exact rfl|trivial
 refine iF key (E4 _ _) fun c=> ?_
 unfold ec
 by_cases h0:(eG u most).1=0
 ·rw[if_pos h0,if_pos h0,h0];exact fun _ h=>h
 ·rw[if_neg h0,if_neg h0]
  exact dN.dP (.cons (dN.lW _ _ _ _) (.cons (fun _ h=>h) .nil))
end Go.Proofs.YtjopoheligmmoaaGreatDoor
end
section
/- More is the same: the least that is enough. -/
namespace Go.Proofs.YtjopoheligmmoaaGreatDoor
open Go Go.cY Go.Proofs
set_option linter.unusedSimpArgs false
set_option linter.unusedVariables false
set_option maxRecDepth 8000
end Go.Proofs.YtjopoheligmmoaaGreatDoor
end
section
/- Ends: in order, each once. -/
namespace Go.Proofs.YtjopoheligmmoaaGreatDoor
open Go Go.cY Go.Proofs
set_option linter.unusedSimpArgs false
set_option linter.unusedVariables false
theorem vv (l:List cm):∀k,∀e∈ku l k,∃j,j<k∧e=l.getD j default
 |0,e,h=>by simp[ku] at h
 |1,e,h=>by simp only[ku,List.mem_cons,List.not_mem_nil,or_false] at h;exact⟨0,by omega,h⟩
 |k+2,e,h=>by
  rw[ku] at h
  split at h
  ·obtain⟨j,h1,h2⟩:=vv l (k+1) e h
   exact⟨j,by omega,h2⟩
  ·rcases List.mem_append.1 h with h|h
   ·obtain⟨j,h1,h2⟩:=vv l (k+1) e h
    exact⟨j,by omega,h2⟩
   ·simp only[List.mem_cons,List.not_mem_nil,or_false] at h
    exact⟨k+1,by omega,h⟩
theorem qz (l:List cm):∀k j,j<k→l.getD j default∈ku l k
 |0,j,h=>by omega
 |1,j,h=>by
  obtain rfl:j=0:=by omega
  simp[ku]
 |k+2,j,h=>by
  rw[ku]
  split
  ·rename_i e
   by_cases hj:j=k+1
   ·rw[hj,e];exact qz l (k+1) k (by omega)
   ·exact qz l (k+1) j (by omega)
  ·by_cases hj:j=k+1
   ·rw[hj];exact List.mem_append.2 (.inr (by simp))
   ·exact List.mem_append.2 (.inl (qz l (k+1) j (by omega)))
theorem w3 {α:Type} {R:α→α→Prop} {l:List α} (h:l.Pairwise R) (d:α) {i j:Nat} (hi:i<j) (hj:j<l.length):R (l.getD i d) (l.getD j d):=by
 have:=List.pairwise_iff_getElem.1 h i j (by omega) hj hi
 simpa[List.getD,hj,show i<l.length by omega] using this
theorem nY {l:List cm} (h:l.Pairwise fun x y=>uo fq x y=true):∀k,k≤l.length→(ku l k).Pairwise fun x y=>fq x y<0
 |0,_=>by simp[ku]
 |1,_=>by simp[ku]
 |k+2,hk=>by
  rw[ku]
  split
  ·exact nY h (k+1) (by omega)
  ·rename_i hne
   refine List.pairwise_append.2 ⟨nY h (k+1) (by omega),by simp,fun a ha b hb=> ?_⟩
   simp only[List.mem_cons,List.not_mem_nil,or_false] at hb
   subst hb
   obtain⟨j,hj,rfl⟩:=vv l _ a ha
   have h1:=w3 h default (i:=j) (j:=k+1) (by omega) (by omega)
   have h2:uo fq (l.getD j default) (l.getD k default)=true:=by
    by_cases e:j=k
    ·rw[e];simp[uo,(j0.zero _ _).2 rfl]
    ·exact w3 h default (by omega) (by omega)
   have h3:=w3 h default (i:=k) (j:=k+1) (by omega) (by omega)
   have h4:fq (l.getD j default) (l.getD (k+1) default)≠0:=fun e=>by
    have e1:=(j0.zero _ _).1 e
    rw[←e1] at h3
    have:=j0.FA h3 h2
    exact hne (by rw[this,←e1])
   simp only[uo,decide_eq_true_eq] at h1
   omega
theorem BZ {u:bu} {l:List cU} {e:cm}:e∈dS u l l.length↔∃i,i<l.length∧(l.getD i default).m.stuck u=true∧e=(l.getD i default).m.end_ u:=by
 unfold dS
 rw[List.take_length,List.mem_filterMap]
 constructor
 ·rintro⟨f,hf,he⟩
  obtain⟨i,hi,rfl⟩:=List.mem_iff_getElem.1 hf
  split at he
  ·rename_i hs
   cases he
   refine⟨i,hi, ?_⟩
   rw[show l.getD i default=l[i] by simp[List.getD,hi]]
   exact⟨hs,rfl⟩
  ·cases he
 ·rintro⟨i,hi,hs,rfl⟩
  refine⟨l.getD i default,cS default hi, ?_⟩
  rw[if_pos hs]
theorem uP {u:bu} {l:List cU} {e:cm}:e∈gq u l↔e∈dS u l l.length:=by
 have hp:=lK fq (dS u l l.length)
 unfold gq
 constructor
 ·intro h
  obtain⟨j,hj,rfl⟩:=vv _ _ _ h
  exact hp.mem_iff.1 (cS default (by rw[hp.length_eq];exact hj))
 ·intro h
  obtain⟨j,hj,rfl⟩:=List.mem_iff_getElem.1 (hp.mem_iff.2 h)
  have:=qz (fc fq (dS u l l.length)) (dS u l l.length).length j (by rw[←hp.length_eq];exact hj)
  rwa[show(fc fq (dS u l l.length)).getD j default=(fc fq (dS u l l.length))[j] by simp[List.getD,hj]] at this
theorem vx (u:bu) (l:List cU):(gq u l).Pairwise fun x y=>fq x y<0:=by
 unfold gq
 refine nY (j0.sorted _) _ ?_
 rw[nB]
 exact Nat.le_refl _
end Go.Proofs.YtjopoheligmmoaaGreatDoor
end
section
/- All that is found is closed; one thread: what it comes to. -/
namespace Go.Proofs.YtjopoheligmmoaaGreatDoor
open Go Go.cY Go.Proofs
set_option linter.unusedSimpArgs false
set_option linter.unusedVariables false
theorem JB {l l':List cU} (h:l<+:l') {k:List UInt8} (hk:k∈jL l):k∈jL l':=by
 obtain⟨t,rfl⟩:=h
 simp only[jL,List.map_append,List.mem_append]
 exact .inl hk
theorem MW {l l':List cU} (h:l<+:l') {k:Nat} (hk:k<l.length):l'.getD k default=l.getD k default:=by
 obtain⟨t,rfl⟩:=h
 simp[List.getD,List.getElem?_append,hk]
def EG (u:bu) (l:List cU) (k t:Nat):Prop:=(l.getD k default).m.kA u t=0→gm ((l.getD k default).m.step u t).1∈jL l
theorem EG.pre {u:bu} {l l':List cU} {k t:Nat} (h:EG u l k t) (hk:k<l.length) (hp:l<+:l'):EG u l' k t:=by
 unfold EG at *
 rw[MW hp hk]
 exact fun hb=>JB hp (h hb)
end Go.Proofs.YtjopoheligmmoaaGreatDoor
end
section
/- The key tells the situation. -/
namespace Go.Proofs.YtjopoheligmmoaaGreatDoor
open Go Go.cY Go.Proofs
open Go.Lib (decDigits itoa)
set_option linter.unusedSimpArgs false
set_option linter.unusedVariables false
end Go.Proofs.YtjopoheligmmoaaGreatDoor
end
section
/- One thread: what it comes to. -/
namespace Go.Proofs.YtjopoheligmmoaaGreatDoor
open Go Go.cY Go.Proofs
set_option linter.unusedSimpArgs false
set_option linter.unusedVariables false
end Go.Proofs.YtjopoheligmmoaaGreatDoor
end
section
/- What a machine comes to is found. -/
namespace Go.Proofs.YtjopoheligmmoaaGreatDoor
open Go Go.cY Go.Proofs
set_option linter.unusedSimpArgs false
set_option linter.unusedVariables false
end Go.Proofs.YtjopoheligmmoaaGreatDoor
end
section
/- Ways go to ends; each beginning of an end's prints is shown. -/
namespace Go.Proofs.YtjopoheligmmoaaGreatDoor
open Go Go.cY Go.Proofs
set_option linter.unusedSimpArgs false
set_option linter.unusedVariables false
theorem RE {u:bu} {l:List cU} {e:cm} (h:e∈gq u l):∃i,i<l.length∧fM u l e l.length=some i∧(l.getD i default).m.stuck u=true∧(l.getD i default).m.end_ u=e:=by
 obtain⟨i,hi,h1,h2⟩:=BZ.1 (uP.1 h)
 cases hh:fM u l e l.length with
 |none=>
  exfalso
  unfold fM at hh
  have:=List.find?_eq_none.1 hh i (List.mem_range.2 hi)
  rw[h1,h2,(j0.zero _ _).2 rfl] at this
  simp at this
 |some j=>
  refine⟨j,NJ hh,rfl, ?_⟩
  unfold fM at hh
  have:=List.find?_some hh
  simp only[Bool.and_eq_true,decide_eq_true_eq] at this
  exact⟨this.1,(j0.zero _ _).1 this.2⟩
end Go.Proofs.YtjopoheligmmoaaGreatDoor
end
section
/- Way: the walk. -/
namespace Go.Proofs.YtjopoheligmmoaaGreatDoor
open Go Go.cY Go.Proofs
set_option linter.unusedSimpArgs false
set_option linter.unusedVariables false
set_option maxRecDepth 8000
theorem BL (a b:List Int) (ha:a.length<9223372036854775807):Pure Tryz.prog 63 [cO a,cO b] (fun r=>r=i64 (e8 eX a b)):=by
 refine aI OD rfl ?_
 refine cV ?_
 rw[List.length_map]
 refine aM (fun i:Nat=>[(0,cO a),(1,cO b),(9,cO a),(10,i64 a.length),(11,i64 i)]) (fun i H n=>i≤a.length∧i≤b.length∧e8 eX a b=e8 eX (a.drop i) (b.drop i)) (fun i=>a.length - i) 0 cH ⟨Nat.zero_le _,Nat.zero_le _,rfl⟩ ?_
 rintro i H n ⟨hi,hib,ho⟩
 rw[ho]
 have a0:(a.map i64).length=a.length:=by simp
 have a1:(b.map i64).length=b.length:=by simp
 by_cases hil:i<a.length
 ·have e0:=fun d=>ints_at hil d
  by_cases hbl:i<b.length
  ·have e1:=fun d=>ints_at hbl d
   have hd:=vq eX 0 hil hbl
   have c0:=rn (a.getD i 0) (b.getD i 0)
   generalize a.getD i 0=p at *
   generalize b.getD i 0=q at *
   by_cases hz:eX p q=0
   ·have r0:=hz
    rw[if_pos hz] at hd
    refine cV ?_
    exact⟨i+1,by omega,cH,by omega,by omega,hd⟩
   ·have r0:=decide_eq_true hz
    rw[if_neg hz] at hd
    refine cV ?_
    rw[hd]
  ·rw[rz eX hil (by omega)]
   refine cV ?_
   first|exact rfl|trivial
 ·obtain rfl:i=a.length:=by omega
  rw[rv eX (Nat.le_refl _) hib]
  by_cases h:a.length<b.length
  ·rw[if_pos h]
   refine cV ?_
   first|exact rfl|trivial
  ·rw[if_neg h]
   refine cV ?_
   first|exact rfl|trivial
def BP (a b:List Int):Int:=su [eX a.length b.length,e8 eX a b]
theorem H7 (a b:List Int) (ha:a.length<9223372036854775807) (hb:b.length<9223372036854775807):Pure Tryz.prog 60 [cO a,cO b] (fun r=>r=i64 (BP a b)):=by
 have e:BP a b=su [eX ((a.map i64).length:Int) ((b.map i64).length:Int),e8 eX a b]:=by
  unfold BP;rw[List.length_map,List.length_map]
 rw[e]
 have c0:=rn ((a.map i64).length:Int) ((b.map i64).length:Int)
 have c1:=BL a b ha
 have c2:=wW [eX ((a.map i64).length:Int) ((b.map i64).length:Int),e8 eX a b] (by simp)
 refine aI OB rfl ?_
 refine cV ?_
 refine aS (args2:=[cO [eX ((a.map i64).length:Int) ((b.map i64).length:Int),e8 eX a b]]) (r:=i64 (su [eX ((a.map i64).length:Int) ((b.map i64).length:Int),e8 eX a b])) c2 rfl (by simp[cZ,cK]) trivial ?_
 refine cV ?_
 first|exact rfl|trivial
def qq (w:List Int):List (List Int)→List Int
 |[]=>w
 |x::r=>qq (if BP x w<0 then x else w) r
abbrev Z7:AV:= .fn (.func 60) [] []
abbrev jz (l:List (List Int)):List AV:=l.map cO
theorem HJ {l:List (List Int)} {i:Nat} (h:i<l.length) (d:AV):(jz l).getD i d=cO (l.getD i []):=dO cO l i d h
theorem JZ {l:List (List Int)} {i:Nat} (h:i<l.length) (w:List Int):qq w (l.drop i)=qq (if BP (l.getD i []) w<0 then l.getD i [] else w) (l.drop (i+1)):=by
 rw[List.drop_eq_getElem_cons h,qq,show l.getD i []=l[i] by simp[List.getD,h]]
set_option maxHeartbeats 2000000 in
theorem OZ {l:List (List Int)} (h0:0<l.length) (hl:l.length≤65536) (hw:∀w∈l,w.length≤1048576) {b:Nat} {H:Hp} {nx:Nat} (hb:∃d,bt H b=some (.row 31 1 d (jz l))) (hlt:b<nx):
 cJ Tryz.prog 59 [.sl b l.length,Z7] H nx (fun r H' n=>r=cO (qq (l.getD 0 []) (l.drop 1))):=by
 obtain⟨d0,r0'⟩:=hb
 have a0:(jz l).length=l.length:=List.length_map _
 have e0:∀d,(jz l).getD (0:Int).toNat d=cO (l.getD 0 []):=fun d=>HJ h0 d
 refine aL OA rfl ?_
 refine cV ?_
 clear e0
 refine aM (fun σ:Nat×List Int=>[(0, .sl b l.length),(1,Z7),(5,cO σ.2),(6,i64 σ.1)])
  (fun σ H2 n=>σ.1≤l.length∧σ.2.length≤1048576∧qq σ.2 (l.drop σ.1)=qq (l.getD 0 []) (l.drop 1)∧nx≤n∧bt H2 b=some (.row 31 1 d0 (jz l))) (fun σ=>l.length - σ.1) (1,l.getD 0 [])
  cH ⟨by show 1≤l.length;omega,hw _ (cS [] h0),rfl,c8,bx⟩ ?_
 clear r0'
 rintro⟨i,w⟩ H2 n ⟨hi,hwl,hm,hn,r0'⟩
 dsimp only at hi hwl hm ⊢
 by_cases hil:i<l.length
 ·have e0:∀d,(jz l).getD ((i:Int)).toNat d=cO (l.getD i []):=fun d=>by rw[Int.toNat_natCast];exact HJ hil d
  have hxl:=hw _ (cS [] hil)
  rw[JZ hil] at hm
  generalize l.getD i []=x at *
  have c0:=H7 x w (by omega) (by omega)
  by_cases hc:BP x w<0
  ·rw[if_pos hc] at hm
   have r1:=decide_eq_true hc
   refine cV ?_
   exact⟨(i+1,x),by dsimp only;omega,cH,by dsimp only;omega,hxl,hm,c8,bx⟩
  ·rw[if_neg hc] at hm
   have r1:=decide_eq_false hc
   refine cV ?_
   exact⟨(i+1,w),by dsimp only;omega,cH,by dsimp only;omega,hwl,hm,c8,bx⟩
 ·obtain rfl:i=l.length:=by omega
  rw[List.drop_length,qq] at hm
  refine cV ?_
  exact⟨by rw[←hm]⟩
theorem LX {u:bu} {l:List cU} (hf:gz u l):∀i,i<l.length→(lP l i).length≤i:=by
 intro i
 induction i using Nat.strongRecOn with
 |_ i ih=>
  intro hi
  by_cases h0:i=0
  ·subst h0
   rw[uH (by rw[hf.first];show ¬(0:Int)≤-1;omega)]
   exact Nat.le_refl _
  ·obtain⟨k,t,h1,h2,h3,h4⟩:=hf.HX i (by omega) hi
   have hfr:(l.getD i default).from_=k:=by rw[h4]
   rw[rf hf hi (by rw[hfr];omega),hfr,Int.toNat_natCast,List.length_cons]
   have:=ih k h1 (by omega)
   omega
theorem vK {u:bu} (hu:u.Wf) {most:Int} (h0:(eG u most).1=0) {e:cm} (he:e∈ec u most):∃i,i<(eG u most).2.length∧fM u (eG u most).2 e (eG u most).2.length=some i∧((eG u most).2.getD i default).m.stuck u=true∧((eG u most).2.getD i default).m.end_ u=e∧e.ended=false:=by
 unfold ec at he
 rw[if_pos h0] at he
 obtain⟨h1,h2⟩:=List.mem_filter.1 he
 obtain⟨i,g1,g2,g3,g4⟩:=RE h1
 exact⟨i,g1,g2,g3,g4,by simpa using h2⟩
theorem EJ {u:bu} (hu:u.Wf) {most:Int} (h0:(eG u most).1=0):cT u∧gz u (eG u most).2∧(eG u most).2.length≤65536:=by
 obtain⟨hr,hm,l,hs,he⟩:=EL hu h0
 obtain⟨hf,h2,_⟩:=ko hu hr (by omega) hs
 rw[he]
 exact⟨hr,hf,by omega⟩
noncomputable def nF (u:bu) (most:Int) (e:cm):List Int:=gw (eG u most).2 (fM u (eG u most).2 e (eG u most).2.length)
theorem vN {u:bu} (hu:u.Wf) {most:Int} (h0:(eG u most).1=0) {e:cm} (he:e∈ec u most):Pure Tryz.prog 58 [u.av,i64 most,e.av] (fun r=>r= .dP [cO (nF u most e),bl true,i64 0])∧(nF u most e).length≤65536:=by
 obtain⟨hr,hf,hl⟩:=EJ hu h0
 obtain⟨i,g1,g2,g3,g4,g5⟩:=vK hu h0 he
 obtain⟨q1,q2⟩:=hf.ok i g1
 have hm:=q1.ml
 have hs:=hr.qn
 have c:=P3 u hu most e (by rw[←g4];show(((eG u most).2.getD i default).m.cN).length * 16≤_;omega) (by rw[←g4];show(((eG u most).2.getD i default).m.mem).length * 8≤_;omega)
 unfold vM at c
 rw[if_pos h0,g2] at c
 refine⟨?_, ?_⟩
 ·unfold nF;rw[g2];exact c
 ·unfold nF;rw[g2]
  show((lP _ i).reverse).length≤_
  have:=LX hf i g1
  rw[List.length_reverse];omega
noncomputable def lY (u:bu) (most:Int):List (List Int):=(ec u most).map (nF u most)
noncomputable def oD (u:bu) (most:Int):List Int:=qq ((lY u most).getD 0 []) ((lY u most).drop 1)
theorem D8 {u:bu} (hu:u.Wf) {most:Int} (h0:(eG u most).1=0):(ec u most).length≤65536:=by
 have hll:=EK hu h0
 have hel:=xb u (eG u most).2
 unfold ec;rw[if_pos h0]
 exact Nat.le_trans (List.length_filter_le _ _) (by omega)
theorem iC (l:List Int) (b:Bool) (e:Int):cK 0 (.dP [cO l,bl b,i64 e]):=by
 simp[cK,cZ,cC]
set_option maxHeartbeats 2000000 in
theorem P2 (u:bu) (hu:u.Wf) (most:Int) (h0:(eG u most).1=0) (hne:ec u most≠[]):Pure Tryz.prog 25 [u.av,i64 most] (fun r=>r= .dP [cO (oD u most),bl true,i64 0]):=by
 have c0:=we u hu most
 rw[h0] at c0
 have hsl:=D8 hu h0
 have hwp:=fun e he=>vN (e:=e) hu h0 he
 have hpos:0<(ec u most).length:=List.length_pos_iff.2 hne
 unfold oD lY
 generalize ec u most=es at *
 have a0:(es.map cm.av).length=es.length:=List.length_map _
 refine dH ?_ (iC _ _ _)
 refine aL CQ rfl ?_
 refine cV ?_
 simp only[List.length_map]
 refine aU (fun i:Nat=>[(2, .pt 0 1 0 0),(1,i64 most),(9, .sl 17 i),(24,iR es),(25,i64 es.length),(26,i64 i)])
  (fun i H n=>i≤es.length∧18≤n∧(∃d,bt H 0=some (.row 25 3 d [u.av]))∧∃d,bt H 17=some (.row 31 1 d (jz ((es.take i).map (nF u most))))) (fun i=>es.length - i) 0
  ⟨_,_,_,Rt.nil 9 31 1 (by omega) rfl,cH,Nat.zero_le _,c8,⟨_,bx⟩,⟨_,bx⟩⟩ ?_
 rintro i H n ⟨hi,hn,⟨d0,r0⟩,⟨d1,r1⟩⟩
 have a1:(jz ((es.take i).map (nF u most))).length=i:=by
  unfold jz;rw[List.length_map,List.length_map,List.length_take];omega
 by_cases hil:i<es.length
 ·have e0:∀d,(es.map cm.av).getD ((i:Int)).toNat d=(es.getD i default).av:=fun d=>by rw[Int.toNat_natCast];exact gX hil d
  have hmem:=cS (default:cm) hil
  obtain⟨c1,hwl⟩:=hwp _ hmem
  have hnx:(es.take (i+1)).map (nF u most)=(es.take i).map (nF u most)++[nF u most (es.getD i default)]:=by
   rw[List.take_succ_eq_append_getElem hil,List.map_append];simp[List.getD,hil]
  refine cV ?_
  exact⟨i+1,by omega,_,_,_,Rt.refl _ _ _,cH,by omega,c8,⟨_,bx⟩,⟨_,by rw[hnx];unfold jz;rw[List.map_append];exact bx⟩⟩
 ·obtain rfl:i=es.length:=by omega
  rw[List.take_length] at r1
  have hlen:(es.map (nF u most)).length=es.length:=List.length_map _
  have hmin:=fun(H:Hp) (nx:Nat)=>OZ (H:=H) (nx:=nx) (l:=es.map (nF u most)) (b:=17) (by omega) (by omega) (fun w hw=>by
   obtain⟨e,he,rfl⟩:=List.mem_map.1 hw
   have:=(hwp e he).2
   omega)
  rw[hlen] at hmin
  refine cV ?_
  refine aJ (hmin _ _ ⟨d1, ?_⟩ c8) ?_
  ·exact bx
  rintro _ H2 n2 rfl
  refine cV ?_
  exact⟨rfl⟩
theorem YV (u:bu) (hu:u.Wf) (most:Int):Pure Tryz.prog 25 [u.av,i64 most] (fun r=>r= .dP [cO (oD u most),bl (decide (ec u most≠[])),i64 (eG u most).1]):=by
 by_cases h0:(eG u most).1=0
 ·by_cases hne:ec u most=[]
  ·have c0:=we u hu most
   rw[hne,h0] at c0
   have hw:oD u most=[]:=by unfold oD lY;rw[hne];rfl
   rw[hw,h0,decide_eq_false (fun h=>h hne)]
   have key:Pure Tryz.prog 25 [u.av,i64 most] (fun r=>r= .dP [.sc (.slice none 0 0),bl false,i64 0]):=by
    refine aI CQ rfl ?_
    refine cV ?_
    refine aM (fun _:Nat=>[(9, .sc (.slice none 0 0)),(25,i64 0),(26,i64 0)]) (fun _ H n=>True) (fun _=>0) 0 cH trivial ?_
    rintro _ H n _
    refine cV ?_
    first|exact rfl|trivial
   refine iF key (iC _ _ _) fun c=>dN.dP (.cons (dN.lW _ _ _ _) (.cons (fun _ h=>h) (.cons (fun _ h=>h) .nil)))
  ·rw[h0,decide_eq_true hne]
   exact P2 u hu most h0 hne
 ·have hs:ec u most=[]:=by unfold ec;rw[if_neg h0]
  have hw:oD u most=[]:=by unfold oD lY;rw[hs];rfl
  rw[hw,decide_eq_false (fun h=>h hs)]
  have c0:=we u hu most
  have key:Pure Tryz.prog 25 [u.av,i64 most] (fun r=>r= .dP [.sc (.slice none 0 0),bl false,i64 (eG u most).1]):=by
   generalize ec u most=es at *
   generalize (eG u most).1=er at *
   refine aI CQ rfl ?_
   refine cV ?_
   first|exact rfl|trivial
  refine iF key (iC _ _ _) fun c=>dN.dP (.cons (dN.lW _ _ _ _) (.cons (fun _ h=>h) (.cons (fun _ h=>h) .nil)))
end Go.Proofs.YtjopoheligmmoaaGreatDoor
end
