import Derived.Test.YtjopoheligmmoaaGreatDoorM47
import Derived.Test.YtjopoheligmmoaaGreatDoorM23
import Derived.Test.YtjopoheligmmoaaGreatDoorM38
import Derived.Test.YtjopoheligmmoaaGreatDoorM41
section
/- What the laws begin with: two threads that cross. -/
namespace Go.cZ
open Go.RowKit
set_option linter.unusedSimpArgs false
set_option linter.unusedVariables false
theorem cI.VL {P:Program} {f:FuncId} {args args2:List AV} {e:TypeId} {sz:Nat} {es cs:List AV} (dZ:ln cs) (h:cI P f args2 [] 0 (fun r1 H1 _=>∃b d0,r1= .dM (.sl b es.length::cs)∧bt H1 b=some (.row e sz d0 es))) (hfl:∀i,i<es.length→fy (es.getD i .any)) (d:AV) {H:Hp} {id:Nat} (ha:args.map (dV H 6)=args2) (hfa:cY 0 args2):
 kA P f args H id (fun r' H''=>r'= .dM (.sl id es.length::cs)∧H''=cz H (some (id, .row e sz d es))):=by
 refine⟨h.1,fun w0 c vs hS hH hid hv=> ?_⟩
 have hS0:dW c.w ⟨fun _=>none,bt [],fun _=>False,c.w,c.M0⟩:=⟨Below.refl _ _,hS.jr,fun b e sz d es he=>by simp[bt] at he,fun b b' k k' blk o z o' z' hk=>by simp[bt] at hk⟩
 subst ha
 have hv':cd ⟨fun _=>none,bt [],fun _=>False,c.w,c.M0⟩ (args.map (dV H 6)) vs:=kL hS hH hfa hv
 refine(h.2 c.w _ vs hS0 rfl (fun _ h=>h.elim) hv').mono ?_
 rintro en w' ⟨v,r1,H1,nx',ρ,U,he,⟨b,d0,rfl,hb⟩,hU,hS',_,hvr⟩
 rw[VR] at hvr
 obtain⟨us,hus,hvr⟩:=hvr
 rw[cd] at hvr
 obtain⟨x,v3,hx3,hvr,hv3⟩:=hvr
 rw[VR] at hvr
 obtain⟨_,ad,cap,hvv,hrr⟩:=hvr
 obtain⟨_,hr2⟩:=hrr _ _ _ _ hb
 have hr3:=hr2 rfl
 obtain⟨_,hz,hor⟩:=hS'.jV b _ _ _ _ hb (tB hr3)
 have hbel:=hS'.below
 obtain⟨s1,s2⟩:=hS.world hbel
 have hHeq:bt (cz H (some (id, .row e sz d es)))=ep c.H id (some (.row e sz d es)):=by rw[dS,hH]
 have fin:∀c2:Cx,VR c2 (.sl id es.length) x→VR c2 (.dM (.sl id es.length::cs)) v:=fun c2 h2=>by
  rw[VR]
  refine⟨us,hus, ?_⟩
  rw[hx3,cd]
  exact⟨x,v3,rfl,h2,mX dZ hv3⟩
 rcases hor with⟨h0,hes⟩|⟨blk,o,z,hρ,hlow,⟨arr,harr,hsz⟩,hlz,hrow⟩
 ·subst hes
  obtain⟨p1,p2⟩:=s1.J6 (b:=id) (e:=e) (sz:=sz) d hz hid
  refine⟨v,_,_,ep c.ρ id none,he,⟨rfl,rfl⟩, ?_, ?_,fin _ ?_⟩
  ·rw[hHeq];exact p1
  ·rw[hHeq];exact s2.trans p2
  ·rw[hHeq,VR]
   refine⟨.inr rfl,ad,cap,hvv,fun e' sz' d' es' he'=> ?_⟩
   simp only[iV,dG,Option.some.injEq,eT.row.injEq] at he'
   obtain⟨rfl,rfl,rfl,rfl⟩:=he'
   refine⟨Nat.le_refl _,fun _=> .inl ⟨by simp[iV], ?_⟩⟩
   rcases hr3 with⟨_,h2,h3⟩|⟨blk,o,z,h2,_⟩
   ·exact⟨h2,h3⟩
   ·rw[h0] at h2;cases h2
 ·obtain⟨p1,p2⟩:=hS.pH (b:=id) (e:=e) (sz:=sz) d (es:=es) (w':=w') (blk:=blk) (o:=o) (z:=z) hz (.inl hid) (.inl hlow) hbel.os hbel.tape hbel.output hbel.size (fun k hk _=>hbel.block k hk) harr hsz hlz (fun hle i hi=>by
   obtain⟨y,x1,x2⟩:=dc hrow i hi
   refine⟨y,x1,lp ?_ x2⟩
   have:=hfl i hi
   simpa[List.getD,hi] using this)
  refine⟨v,_,_,ep c.ρ id (some (blk,o,z)),he,⟨rfl,rfl⟩, ?_, ?_,fin _ ?_⟩
  ·rw[hHeq];exact p1
  ·rw[hHeq];exact p2
  ·rw[hHeq,VR]
   refine⟨.inr rfl,ad,cap,hvv,fun e' sz' d' es' he'=> ?_⟩
   simp only[iV,dG,Option.some.injEq,eT.row.injEq] at he'
   obtain⟨rfl,rfl,rfl,rfl⟩:=he'
   refine⟨by omega,fun _=> .inr ⟨blk,o,z,by simp[iV], ?_⟩⟩
   rcases hr3 with⟨h2,_,_⟩|⟨blk',o',z',h2,h3,h4,h5,h6⟩
   ·rw[hρ] at h2;cases h2
   ·rw[hρ] at h2;cases h2
    exact⟨h3,h4,h5,h6⟩
theorem cI.Q5 {P:Program} {f:FuncId} {args args2:List AV} {e:TypeId} {sz:Nat} {es cs:List AV} (dZ:ln cs) (h:cI P f args2 [] 0 (fun r1 H1 _=>∃b d0,r1= .dM (.sl b es.length::cs)∧bt H1 b=some (.row e sz d0 es))) (hfl:∀i,i<es.length→fy (es.getD i .any)) {H:Hp} {nx:Nat} (ha:args.map (dV H 6)=args2) (hfa:cY 0 args2):
 cI P f args H nx (fun r H' n=>r= .dM (.sl nx es.length::cs)∧H'=(nx,some (.row e sz .any es))::H∧n=nx+1):=
 (kA.W9 (h.VL dZ hfl .any ha hfa)).mono fun r H' n ⟨⟨h1,h2⟩,h3⟩=>⟨h1,h2,h3⟩
end Go.cZ
namespace Go.Proofs.YtjopoheligmmoaaGreatDoor
open Go Go.cZ Go.Proofs
set_option linter.unusedSimpArgs false
set_option linter.unusedVariables false
set_option maxRecDepth 8000
theorem DK (l m:List Int) (hl:l.length * 8≤140737488351232) (hm:m.length * 8≤140737488351232):Pure Tryz.prog 44 [fX l,fX m] (fun r=>r=bl (decide (l=m))):=by
 refine aI N1 rfl ?_
 unfold fX
 repeat' (first|((with_reducible refine aF ?_);conv=>whnf)|refine aG ?_|exact aC|with_reducible refine aD ?_ ?_|(apply aB;(·exact cP))|refine aH ?_|((with_reducible refine aA ?_ ?_)<;>intro hc<;>(try simp only[List.length_map,ne_eq,dZ] at hc)<;>try(exfalso;omega)))
 ·refine ez (Eq.symm ?_)
  exact decide_eq_false fun e=>hc (by rw[e])
 ·have hlm:l.length=m.length:=by omega
  refine aM (fun i:Nat=>[(0,fX l),(1,fX m),(5,i64 i)])
   (fun i H n=>i≤l.length∧∀j,j<i→l.getD j 0=m.getD j 0) (fun i=>l.length - i) 0 cK ⟨Nat.zero_le _,fun _ h=>by omega⟩ ?_
  unfold fX
  rintro i H n ⟨hi,hall⟩
  by_cases hil:i<l.length
  ·have e1:=og (l:=l) hil
   have e2:=og (l:=m) (i:=i) (by omega)
   repeat' (first|((with_reducible refine aF ?_);conv=>whnf)|refine aG ?_|exact aC|with_reducible refine aD ?_ ?_|(apply aB;(·(first|exact e1 _|exact e2 _|exact cP)))|refine aH ?_|((with_reducible refine aA ?_ ?_)<;>intro hc<;>(try simp only[List.length_map,ne_eq,dZ] at hc)<;>try(exfalso;omega)))
   ·refine ez (Eq.symm ?_)
    exact decide_eq_false fun e=>hc (by rw[e])
   ·refine⟨i+1,by omega,cK,by omega,fun j hj=> ?_⟩
    by_cases hji:j=i
    ·subst hji;exact hc
    ·exact hall j (by omega)
  ·have:i=l.length:=by omega
   subst this
   repeat' (first|((with_reducible refine aF ?_);conv=>whnf)|refine aG ?_|exact aC|with_reducible refine aD ?_ ?_|(apply aB;(·exact cP))|refine aH ?_|((with_reducible refine aA ?_ ?_)<;>intro hc<;>(try simp only[List.length_map,ne_eq,dZ] at hc)<;>try(exfalso;omega)))
   refine ez (Eq.symm ?_)
   refine decide_eq_true (List.ext_getElem hlm fun j h1 h2=> ?_)
   have:=hall j h1
   simpa[List.getD,h1,h2] using this
theorem ly (l m:List Int) (hl:l.length * 8≤140737488351232) (hm:m.length * 8≤140737488351232):Pure Tryz.prog 18 [cR l,cR m] (fun r=>r=bl (decide (l=m))):=by
 have c0:=DK l m hl hm
 unfold fX at c0
 refine aI NR rfl ?_
 refine cV ?_
 first|exact rfl|trivial
def XP (k th nx o:Int):Node:=⟨k,0,0,th,⟨false,0,0⟩,⟨false,0,0⟩,nx,0,o⟩
def U9 (name:List UInt8) (a b:Int):cD:=⟨⟨name.toArray⟩,0,0,[XP 5 a 1 0,XP 5 b 2 1,XP 6 b 3 2,XP 6 a 4 3,XP 9 0 0 4]⟩
def lh:bw:=⟨[],[⟨⟨(List.toArray [108])⟩,0,0⟩,⟨⟨(List.toArray [109])⟩,0,0⟩],[U9 [97] 0 1,U9 [98] 1 0]⟩
theorem L1:Pure Tryz.prog 47 [.sc (.string ⟨(List.toArray [97])⟩),i64 0,i64 1] (fun r=>r=(U9 [97] 0 1).av):=
 kY (by simp[cJ,cC]) (by kernel_rfl)
theorem L3:Pure Tryz.prog 47 [.sc (.string ⟨(List.toArray [98])⟩),i64 1,i64 0] (fun r=>r=(U9 [98] 1 0).av):=
 kY (by simp[cJ,cC]) (by kernel_rfl)
theorem oS:cT lh:=kH.1 (by decide+kernel)
theorem xX:lh.Wf:=by
 have hd:∀d∈lh.cE,d.Wf:=fun d h=>by
  simp only[lh,List.mem_cons,List.not_mem_nil,or_false] at h
  rcases h with rfl|rfl<;>exact⟨by decide+kernel,by decide+kernel,by decide+kernel⟩
 refine⟨fun _ h=>by simp[lh] at h,by simp[lh],hd,by simp[lh],fun g hg=> ?_,by simp[lh]⟩
 simp only[lh,List.mem_cons,List.not_mem_nil,or_false] at hg
 rcases hg with rfl|rfl<;>
 ·refine⟨by decide+kernel,by decide+kernel,by decide+kernel,fun n hn=> ?_,by decide+kernel⟩
  simp only[U9,List.mem_cons,List.not_mem_nil,or_false] at hn
  rcases hn with rfl|rfl|rfl|rfl|rfl<;>
   exact⟨by decide+kernel,by decide+kernel,by decide+kernel,by decide+kernel,⟨by decide+kernel,by decide+kernel⟩,⟨by decide+kernel,by decide+kernel⟩,by decide+kernel,by decide+kernel,by decide+kernel⟩
theorem xW:dQ lh=[⟨0,1,0,1⟩,⟨1,0,1,1⟩]:=by decide+kernel
theorem QW:fR lh=fun h=>if h=0 then[1] else if h=1 then[0] else[]:=by
 funext h
 unfold fR
 rw[xW]
 have e:jG [⟨0,1,0,1⟩,⟨1,0,1,1⟩] h=if h=0 then[1] else if h=1 then[0] else[]:=by
  unfold jG
  simp only[List.foldl_cons,List.foldl_nil]
  by_cases h0:h=0
  ·subst h0;simp
  ·by_cases h1:h=1
   ·subst h1;simp
   ·have e0:¬(0:Int)=h:=fun e=>h0 e.symm
    have e1:¬(1:Int)=h:=fun e=>h1 e.symm
    simp[h0,h1,e0,e1]
 rw[e]
 unfold eH
 split
 ·simp
 ·split<;>simp
theorem QX:lV lh=some [0,1]:=by
 unfold lV
 rw[QW]
 decide+kernel
theorem QV:iN lh (fV lh (dY lh) [0,1])=some [0,1]:=by decide+kernel
def P6:List cU:=(gU lh 99).getD []
theorem VA:gU lh 99=some P6:=by
 have h:(gU lh 99).isSome=true:=by decide+kernel
 unfold P6
 cases hs:gU lh 99 with
 |none=>rw[hs] at h;cases h
 |some l=>rfl
def W1:cm:=⟨[],[],false⟩
theorem QU:∀e∈dR lh P6 P6.length,e.ended=true∨e=W1:=by decide+kernel
theorem VB:W1∈dR lh P6 P6.length:=by decide+kernel
theorem VC:gw P6 (fM lh P6 W1 P6.length)=[0,1]:=by decide+kernel
theorem EJ:eF lh 99=(0,P6):=by rw[oL oS (by decide),show(99:Int).toNat=99 from rfl,VA]
theorem OO {u:bw} {l:List cU} {x:cm} (h:∀e∈dR u l l.length,e.ended=true∨e=x) (hx:x∈dR u l l.length) (hx2:x.ended=false):lz (gq u l)=[x]:=by
 have h1:=(vw u l).filter fun e=> !e.ended
 change (lz (gq u l)).Pairwise _ at h1
 have h2:∀e,e∈lz (gq u l)↔e=x:=fun e=>by
  unfold lz
  rw[List.mem_filter,uN]
  constructor
  ·rintro⟨q1,q2⟩
   rcases h e q1 with h3|h3
   ·rw[h3] at q2;cases q2
   ·exact h3
  ·rintro rfl
   exact⟨hx,by rw[hx2];rfl⟩
 cases hl:lz (gq u l) with
 |nil=>exact absurd ((h2 x).2 rfl) (by rw[hl];simp)
 |cons a t=>
  rw[hl] at h1 h2
  have ha:=(h2 a).1 (by simp)
  subst ha
  cases t with
  |nil=>rfl
  |cons b t=>
   have hb:=(h2 b).1 (by simp)
   subst hb
   have:=(List.pairwise_cons.1 h1).1 b (by simp)
   rw[(j1.zero _ _).2 rfl] at this
   omega
theorem rz:fF lh 99=[W1]:=by
 unfold fF
 rw[EJ]
 rw[if_pos rfl]
 exact OO QU VB rfl
theorem QY:wa lh 99=[0,1]:=by
 unfold wa vL
 rw[rz]
 show pT lh 99 W1=[0,1]
 unfold pT
 rw[EJ]
 exact VC
end Go.Proofs.YtjopoheligmmoaaGreatDoor
end
section
/- What the laws begin with: the walk. -/
namespace Go.Proofs.YtjopoheligmmoaaGreatDoor
open Go Go.cZ Go.Proofs
set_option linter.unusedSimpArgs false
set_option linter.unusedVariables false
set_option maxRecDepth 8000
abbrev L0:AV:= .agg [.sc (.slice none 0 0),cr lh.cE,de lh.bu]
theorem ry (c:Cx):dN c c L0 lh.av:=cZ.dN.agg (.cons (cZ.dN.lU c c 3 .any) (.cons (fun _ h=>h) (.cons (fun _ h=>h) .nil)))
theorem UI (u:bw) (hu:u.Wf) (hr:cT u):Pure Tryz.prog 15 [u.av] (fun r=>r= .dM [cR ((lV u).getD []),bl (lV u).isSome,i64 0]):=by
 have key:Pure Tryz.prog 15 [u.av] (fun r=>r=match lV u with|none=> .dM [.sc (.slice none 0 0),bl false,i64 0]|some w=> .dM [cR w,bl true,i64 0]):=by
  refine dL ((KB u hu hr).mono ?_) (by split<;>simp[cJ,cY,cC])
  intro r H n h
  unfold K6 at h
  cases hq:lV u with
  |none=>rw[hq] at h;dsimp only at h ⊢;rw[h];rfl
  |some w=>
   rw[hq] at h
   obtain⟨b,d,rfl,hb⟩:=h
   show AV.dM [cZ.dV H 5 (.sl b w.length),bl true,i64 0]=_
   rw[dh (k:=4) hb (by simp),cw _ ((cC _ _).2 fun _ _=>by simp[cJ])]
 refine iF key (iC _ _ _) fun c=> ?_
 cases lV u with
 |none=>exact dN.dM (.cons (dN.lU _ _ _ _) (.cons (fun _ h=>h) (.cons (fun _ h=>h) .nil)))
 |some w=>exact fun _ h=>h
theorem X6 (u:bw) (hu:u.Wf) (hr:cT u) (w:List Int) (hw:w.length≤1048576):Pure Tryz.prog 21 [u.av,cR w] (fun r=>r= .dM [cR ((iN u (fV u (dY u) w)).getD []),bl (iN u (fV u (dY u) w)).isSome,i64 0]):=by
 have key:Pure Tryz.prog 21 [u.av,cR w] (fun r=>r=match iN u (fV u (dY u) w) with|none=> .dM [.sc (.slice none 0 0),bl false,i64 0]|some w=> .dM [cR w,bl true,i64 0]):=by
  refine dL ((uh u hu hr w hw).mono ?_) (by split<;>simp[cJ,cY,cC])
  intro r H n h
  unfold wv at h
  cases hq:iN u (fV u (dY u) w) with
  |none=>rw[hq] at h;dsimp only at h ⊢;rw[h];rfl
  |some w=>
   rw[hq] at h
   obtain⟨b,d,rfl,hb⟩:=h
   show AV.dM [cZ.dV H 5 (.sl b w.length),bl true,i64 0]=_
   rw[dh (k:=4) hb (by simp),cw _ ((cC _ _).2 fun _ _=>by simp[cJ])]
 refine iF key (iC _ _ _) fun c=> ?_
 cases iN u (fV u (dY u) w) with
 |none=>exact dN.dM (.cons (dN.lU _ _ _ _) (.cons (fun _ h=>h) (.cons (fun _ h=>h) .nil)))
 |some w=>exact fun _ h=>h
theorem L4 {H:Hp} {nx:Nat} {b:Nat} (hb:∃d,bt H b=some (.row 3 1 d [i64 0,i64 1])):cI Tryz.prog 21 [L0, .sl b 2] H nx (fun r H' n=>r= .dM [.sl nx 2,bl true,i64 0]∧H'=(nx,some (.row 3 1 .any [i64 0,i64 1]))::H∧n=nx+1):=by
 have h:=uh lh xX oS [0,1] (by decide)
 have h2:=cI.args (bs:=[L0,cR [0,1]]) h fun c=> .cons (ry c) (.cons (fun _ h=>h) .nil)
 obtain⟨d,hb⟩:=hb
 refine cI.Q5 (es:=[i64 0,i64 1]) (cs:=[bl true,i64 0]) (args2:=[L0,cR [0,1]]) (by simp[ln]) (h2.mono ?_) ?_ ?_ ?_
 ·intro r H1 n1 hR
  unfold wv at hR
  rw[QV] at hR
  exact hR
 ·intro i hi
  match i,hi with
  |0,_=>trivial
  |1,_=>trivial
 ·show[cZ.dV H 6 L0,cZ.dV H 6 (.sl b [i64 0,i64 1].length)]=_
  rw[dv _ (show cJ 0 L0 by simp[cJ,cY,cC]),dh (k:=5) hb rfl]
  rfl
 ·simp[cJ,cY,cC]
theorem vt {H:Hp} {b:Nat} {d:AV} (hb:bt H b=some (.row 3 1 d [i64 0,i64 1])):cZ.dV H 6 (.sl b 2)=cR [0,1]:=by
 show cZ.dV H 6 (.sl b [i64 0,i64 1].length)=_
 rw[dh (k:=5) hb rfl]
 rfl
theorem BK {H:Hp} {x y a b:AV} (h1:cZ.dV H 6 x=a) (h2:cZ.dV H 6 y=b):[x,y].map (cZ.dV H 6)=[a,b]:=by
 subst h1 h2
 rfl
theorem EK {H:Hp}:cZ.dV H 6 (cR [0,1])=cR [0,1]:=dv _ (by simp[cJ,cY,cC])
theorem xK:Pure Tryz.prog 20 [] (fun r=>r=bl true):=by
 have c0:Pure Tryz.prog 47 [.sc (.string ⟨⟨[⟨⟨⟨97,by decide⟩⟩⟩]⟩⟩),i64 0,i64 1] (fun r=>r=(U9 [97] 0 1).av):=L1
 have c1:Pure Tryz.prog 47 [.sc (.string ⟨⟨[⟨⟨⟨98,by decide⟩⟩⟩]⟩⟩),i64 1,i64 0] (fun r=>r=(U9 [98] 1 0).av):=L3
 refine dL ?_ (by simp[cJ])
 refine ar NS rfl ?_
 refine WL.cut ?_
 refine cV ?_
 refine⟨_,_,_,Rt.refl _ _ _,WL.cut ?_⟩
 refine cV ?_
 refine⟨[(1, .pt 6 1 0 0)],_,_,Rt.trans (Rt.wk (Wk.gl (cb:=6) (jh [3,4] _) 5 .any rfl fun b q hq=>qO hq)) (Rt.less cK),WL.last ?_⟩
 refine af (b:=6) (q:=some (.row 25 3 .any [L0])) rfl ?_
 intro H2 r3
 have c0:Pure Tryz.prog 13 [L0] (fun r=>r= .dM [vv (dQ lh),i64 0]):=Pure.args (sD lh xX oS) fun c=> .cons (ry c) .nil
 have c1:Pure Tryz.prog 15 [L0] (fun r=>r= .dM [cR [0,1],bl true,i64 0]):=Pure.args (by have:=UI lh xX oS;rw[QX] at this;exact this) fun c=> .cons (ry c) .nil
 have c2:Pure Tryz.prog 25 [L0,i64 99] (fun r=>r= .dM [cR [0,1],bl true,i64 0]):=Pure.args (by have:=YT lh xX 99;rw[QY,rz,EJ] at this;exact this) fun c=> .cons (ry c) (.cons (fun _ h=>h) .nil)
 have c3:Pure Tryz.prog 23 [L0,i64 99] (fun r=>r= .dM [iT [W1],i64 0]):=Pure.args (by have:=tH lh xX 99;rw[rz,EJ] at this;exact this) fun c=> .cons (ry c) (.cons (fun _ h=>h) .nil)
 refine cV ?_
 refine aJ (L4 ⟨_,bx⟩) ?_
 rintro _ H3 n3 ⟨rfl,rfl,rfl⟩
 rw[xW]
 refine cV ?_
 refine aS (args2:=[cR [0,1],cR [0,1]]) (ly [0,1] [0,1] (by decide) (by decide)) (BK EK (vt bx)) (by simp[cY,cJ,cC]) trivial ?_
 refine cV ?_
 refine aS (args2:=[cR [0,1],cR [0,1]]) (ly [0,1] [0,1] (by decide) (by decide)) (BK (vt bx) (vt bx)) (by simp[cY,cJ,cC]) trivial ?_
 refine cV ?_
 refine aS (args2:=[cR [0,1],cR [0,1]]) (ly [0,1] [0,1] (by decide) (by decide)) (BK EK (vt bx)) (by simp[cY,cJ,cC]) trivial ?_
 refine cV ?_
 first|exact rfl|exact⟨rfl⟩|trivial
end Go.Proofs.YtjopoheligmmoaaGreatDoor
end
section
/- What is so of the ring that is told. -/
namespace Go.Proofs.YtjopoheligmmoaaGreatDoor
open Go Go.cZ Go.Proofs
set_option linter.unusedSimpArgs false
set_option linter.unusedVariables false
end Go.Proofs.YtjopoheligmmoaaGreatDoor
end
section
/- A ring is one: the law's walk. -/
namespace Go.Proofs.YtjopoheligmmoaaGreatDoor
open Go Go.cZ Go.Proofs
set_option linter.unusedSimpArgs false
set_option linter.unusedVariables false
set_option maxRecDepth 8000
theorem O9 (u:bw) (hu:u.Wf) (hr:¬cT u):Pure Tryz.prog 15 [u.av] (fun r=>r= .dM [.sc (.slice none 0 0),bl false,i64 60]):=
 dL ((PD u hu hr).mono fun r H n h=>by rw[h];rfl) (by simp[cJ,cY])
end Go.Proofs.YtjopoheligmmoaaGreatDoor
end
section
/- A knot lies on a ring of edges; what is stuck is knotted. -/
namespace Go.Proofs.YtjopoheligmmoaaGreatDoor
open Go Go.cZ Go.Proofs
set_option linter.unusedSimpArgs false
set_option linter.unusedVariables false
section
variable {u:bw} {m:MS}
theorem PY {l:List cU} (hf:gz u l):∀i,i<l.length→fV u (dY u) (gw l (some i))=(l.getD i default).m:=by
 intro i
 induction i using Nat.strongRecOn with
 |_ i ih=>
  intro hi
  by_cases h0:i=0
  ·subst h0
   have hw:gw l (some 0)=[]:=rfl
   rw[hw,hf.first]
   rfl
  obtain⟨k,t,h1,h2,h3,h4⟩:=hf.HR i (by omega) hi
  have g2:=ih k h1 (by omega)
  have hw:gw l (some i)=gw l (some k)++[(t:Int)]:=by
   show(lN l i).reverse=(lN l k).reverse++[(t:Int)]
   rw[rf hf hi (by rw[h4];exact Int.natCast_nonneg _),h4,List.reverse_cons]
   rfl
  rw[hw,qL,g2,h4]
  show(if _=0 then _ else _)=_
  rw[if_pos h3]
  rfl
theorem IJ (hu:u.Wf) (hr:cT u) {l:List cU} (hf:gz u l) {i:Nat} (hi:i<l.length):qj u (l.getD i default).m:=by
 rw[←PY hf i hi]
 exact(qj.new hu hr).C3 hu hr
def AY (u:bw) (m:MS):Prop:=(∀t,t<u.bu.length→m.k9 u (t:Nat)≠0)∧∃t,t<u.bu.length∧m.k9 u (t:Nat)≠70
theorem AY.ZT (hr:cT u) (h:qj u m) (hs:AY u m):∃l,iN u m=some l:=by
 obtain⟨h1,t,h2,h3⟩:=hs
 exact DY hr h h1 h2 h3
theorem PM (h:eJ u m) (h1:m.stuck u=true) (h2:m.ended u=false):AY u m:=by
 unfold MS.stuck at h1
 unfold MS.ended at h2
 rw[h.pW] at h1 h2
 rw[List.all_eq_true] at h1
 refine⟨fun t ht=> ?_, ?_⟩
 ·have:=h1 t (List.mem_range.2 ht)
  exact of_decide_eq_true this
 ·rw[←Bool.not_eq_true,List.all_eq_true] at h2
  apply Classical.byContradiction
  intro hn
  apply h2
  intro t ht
  apply decide_eq_true
  apply Classical.byContradiction
  intro h7
  exact hn ⟨t,List.mem_range.1 ht,h7⟩
theorem eV.next {l:List Int} (hk:eV u m l) {i:Nat} (hi:i<l.length):(m.node u (l.getD i 0).toNat).kind=5∧m.hold.getD (m.node u (l.getD i 0).toNat).cN.toNat 0=l.getD ((i+1)%l.length) 0:=by
 have h1:=hk.ring.on i hi
 have h3:=hk.ring.nn _ (cQ 0 (Nat.mod_lt (i+1) hk.ring.pos))
 unfold eL at h1
 split at h1
 ·rename_i h5
  exact⟨h5,h1⟩
 ·omega
theorem eV.ZM (hr:cT u) (h:qj u m) {l:List Int} (hk:eV u m l) {i:Nat} (hi:i<l.length):
 (⟨(m.node u (l.getD i 0).toNat).cN,(m.node u (l.getD ((i+1)%l.length) 0).toNat).cN,l.getD ((i+1)%l.length) 0,m.at_.getD (l.getD ((i+1)%l.length) 0).toNat 0⟩:eP)∈dQ u:=by
 have hj:(i+1)%l.length<l.length:=Nat.mod_lt _ hk.ring.pos
 obtain⟨a1,a2⟩:=hk.next hi
 obtain⟨b1,_⟩:=hk.next hj
 obtain⟨s0,s1⟩:=hk.VQ i hi
 obtain⟨t0,t1⟩:=hk.VQ _ hj
 generalize l.getD i 0=s at *
 generalize l.getD ((i+1)%l.length) 0=t at *
 obtain⟨tn,rfl⟩:∃k:Nat,t=k:=⟨t.toNat,by omega⟩
 rw[Int.toNat_natCast] at *
 have htn:tn<u.bu.length:=by omega
 obtain⟨x0,x1⟩:=ej (h.ok.node hr (t:=s.toNat) (by omega)) (.inl a1)
 have hown:=(h.inv.own tn htn _ x0 x1).1 a2
 have hat:=h.ok.gL tn htn
 refine uL.2 ⟨tn,(m.at_.getD tn 0).toNat,htn,by omega,b1, ?_,rfl,rfl, ?_⟩
 ·exact(GV (hr.gr htn) hr.qm.2.1 _ _).2 hown
 ·show m.at_.getD tn 0=_
  omega
theorem eV.cyc (hr:cT u) (h:qj u m) {l:List Int} (hk:eV u m l):rK (fR u) (l.map fun t=>(m.node u t.toNat).cN)∧0≤(l.map fun t=>(m.node u t.toNat).cN).getD 0 0∧(l.map fun t=>(m.node u t.toNat).cN).getD 0 0<u.cE.length:=by
 have gd:∀i,i<l.length→(l.map fun t=>(m.node u t.toNat).cN).getD i 0=(m.node u (l.getD i 0).toNat).cN:=fun i hi=>by simp[List.getD,hi]
 have hp:=hk.ring.pos
 refine⟨⟨by simpa using hp,fun i hi=> ?_⟩, ?_⟩
 ·rw[List.length_map] at hi ⊢
  have hj:(i+1)%l.length<l.length:=Nat.mod_lt _ hp
  rw[gd i hi,gd _ hj]
  exact uk.2 ⟨_,hk.ZM hr h hi,rfl,rfl⟩
 ·rw[gd 0 hp]
  have:=hk.VQ 0 hp
  exact ej (h.ok.node hr (t:=(l.getD 0 0).toNat) (by omega)) (.inl (hk.next hp).1)
theorem pA (hr:cT u) (h:qj u m) (hq:lV u=none):iN u m=none:=by
 cases hk:iN u m with
 |none=>rfl
 |some l=>
  obtain⟨c1,c2,c3⟩:=(RF hr h.ok hk).cyc hr h
  generalize l.map (fun t=>(m.node u t.toNat).cN)=c at *
  obtain⟨g,hg⟩:∃g:Nat,c.getD 0 0=g:=⟨(c.getD 0 0).toNat,by omega⟩
  have hb:=pd hq g (by omega)
  exact absurd hg ((oP (lead:=fR u) (n:=u.cE.length) (first:=(g:Int)) (fun x=>yG hr x) (by omega)).2 hb c c1)
theorem AE (hu:u.Wf) {most:Int} (hne:fF u most≠[]):(eF u most).1=0:=by
 apply Classical.byContradiction
 intro h
 unfold fF at hne
 rw[if_neg h] at hne
 exact hne rfl
theorem tc (hu:u.Wf) {most:Int} (hq:lV u=none):fF u most=[]:=by
 apply Classical.byContradiction
 intro hne
 have h0:=AE hu hne
 obtain⟨hr,hf,hl⟩:=EB hu h0
 obtain⟨e,he⟩:=List.exists_mem_of_ne_nil _ hne
 obtain⟨i,g1,g2,g3,g4,g5⟩:=vI hu h0 he
 have hs:=IJ hu hr hf g1
 rw[←g4] at g5
 obtain⟨l,hk⟩:=(PM hs.ok g3 g5).ZT hr hs
 rw[pA hr hs hq] at hk
 cases hk
end
end Go.Proofs.YtjopoheligmmoaaGreatDoor
end
section
/- Knot of any unit and schedule; a machine behind a schedule. -/
namespace Go.Proofs.YtjopoheligmmoaaGreatDoor
open Go Go.cZ Go.Proofs
set_option linter.unusedSimpArgs false
set_option linter.unusedVariables false
set_option maxRecDepth 8000
open Classical in
noncomputable def nJ (u:bw) (w:List Int):Int:=if cT u then(if w.length≤1048576 then 0 else 3) else 60
open Classical in
noncomputable def nK (u:bw) (w:List Int):Option (List Int):=if nJ u w=0 then iN u (fV u (dY u) w) else none
theorem NM (u:bw) (hu:u.Wf) (w:List Int):Pure Tryz.prog 21 [u.av,cR w] (fun r=>r= .dM [cR ((nK u w).getD []),bl (nK u w).isSome,i64 (nJ u w)]):=by
 have nilR:∀(e:Int) (c:Cx),dN c c (.dM [.sc (.slice none 0 0),bl false,i64 e]) (.dM [cR [],bl false,i64 e]):=fun e c=>dN.dM (.cons (dN.lU _ _ _ _) (.cons (fun _ h=>h) (.cons (fun _ h=>h) .nil)))
 by_cases hr:cT u
 ·by_cases hw:w.length≤1048576
  ·have hE:nJ u w=0:=by unfold nJ;rw[if_pos hr,if_pos hw]
   have hQ:nK u w=iN u (fV u (dY u) w):=by unfold nK;rw[if_pos hE]
   rw[hE,hQ]
   exact X6 u hu hr w hw
  ·have hE:nJ u w=3:=by unfold nJ;rw[if_pos hr,if_neg hw]
   have hQ:nK u w=none:=by unfold nK;rw[hE];rfl
   rw[hE,hQ]
   refine iF (dL ((I8 u hu hr w (by omega)).mono fun r H n h=>by rw[h];rfl) (by simp[cJ,cY])) (iC _ _ _) fun c=>nilR 3 c
 ·have hE:nJ u w=60:=by unfold nJ;rw[if_neg hr]
  have hQ:nK u w=none:=by unfold nK;rw[hE];rfl
  rw[hE,hQ]
  exact iF (NN u hu hr w) (iC _ _ _) fun c=>nilR 60 c
theorem CA {u:bw} (hu:u.Wf) {w:List Int} (hq:cT u→lV u=none):nK u w=none:=by
 unfold nK
 split
 ·rename_i h
  have hr:cT u:=by
   apply Classical.byContradiction
   intro hr
   unfold nJ at h
   rw[if_neg hr] at h
   cases h
  exact pA hr ((qj.new hu hr).C3 hu hr) (hq hr)
 ·rfl
set_option maxHeartbeats 2000000 in
theorem zg (u:bw) (hu:u.Wf) (most:Int) (w:List Int):Pure Tryz.prog 6 [u.av,i64 most,cR w] (fun r=>r=bl true):=by
 have c0:=xK
 by_cases hr:cT u
 ·have c1:=UI u hu hr
  have c2:=NM u hu w
  have c3:=tH u hu most
  have c4:=YT u hu most
  cases hq:lV u with
  |none=>
   rw[hq] at c1
   rw[CA hu fun _=>hq] at c2
   rw[tc hu hq] at c3 c4
   rw[decide_eq_false fun h=>h rfl] at c4
   dsimp only[Option.getD,Option.isSome] at c1 c2
   generalize nJ u w=e1 at *
   generalize (eF u most).1=e2 at *
   refine aI VY rfl ?_
   by_cases h1:e1=0
   ·have r0:decide (e1≠0)=false:=decide_eq_false fun h=>h h1
    by_cases h2:e2=0
    ·have r1:decide (e2≠0)=false:=decide_eq_false fun h=>h h2
     refine cV ?_
     first|exact rfl|trivial
    ·have r1:decide (e2≠0)=true:=decide_eq_true h2
     refine cV ?_
     first|exact rfl|trivial
   ·have r0:decide (e1≠0)=true:=decide_eq_true h1
    by_cases h2:e2=0
    ·have r1:decide (e2≠0)=false:=decide_eq_false fun h=>h h2
     refine cV ?_
     first|exact rfl|trivial
    ·have r1:decide (e2≠0)=true:=decide_eq_true h2
     refine cV ?_
     first|exact rfl|trivial
  |some l=>
   rw[hq] at c1
   dsimp only[Option.getD,Option.isSome] at c1
   refine aI VY rfl ?_
   refine cV ?_
   first|exact rfl|trivial
 ·have c1:=O9 u hu hr
  refine aI VY rfl ?_
  refine cV ?_
  first|exact rfl|trivial
end Go.Proofs.YtjopoheligmmoaaGreatDoor
end
section
/- Without a ring there is no stuck end, and never a knot: for every unit. No conditions beyond the card's own. -/
namespace Go.Proofs.YtjopoheligmmoaaGreatDoor
open Go Go.cZ Go.Proofs Go.RowKit Go.ChangeShapes Go.WideShapes Go.ChangeAt
set_option linter.unusedSimpArgs false
set_option linter.unusedVariables false
set_option maxRecDepth 100000 in
theorem ny (os:Os) (started:os.Started) (H:Type) (enc:TypeId×Value→H):
 ReturnsInHanded {} Tryz.checked os 6 .any (fun w args=>(Rows.stuckNoRingSpec.pre enc Tryz.prog Tryz.f6 [] false w args∧laidMetH Tryz.prog yE w)∧sizedMet enc Tryz.prog Tryz.f6 (OpenSpec.ofChange Rows.stuckNoRingSpec) false w args) (Rows.stuckNoRingSpec.post enc Tryz.prog Tryz.f6 false true false false):=by
 refine returnsInHanded_of_change_and (C:=Tryz.checked) (X:=fun w _=>laidMetH Tryz.prog yE w) (fun _ _ _ hh h=>h.of_heap hh) own started (by kernel_rfl) Tryz.func6
  (ChangeSpec.witness_shaped (enc:=enc) (C:=Tryz.checked) (os:=os) (X:=fun w _=>laidMetH Tryz.prog yE w) false (World.doorLaid Tryz.prog 400 os) #[.agg #[.slice none 0 0, .slice none 0 0, .slice none 0 0], .int .i64 0, .slice none 0 0] 8 rfl (World.shaped_of_RefB (by kernel_rfl) (by kernel_rfl)) (by kernel_rfl) (by kernel_rfl) (by kernel_rfl) (L8 os _)) ?_
 intro W base args ds gs before hval hW _ hr hL _
 refine wI (ts:=[25,3,31]) (tb:=4) laidOut (by kernel_rfl) rfl Tryz.underlying4 (by kernel_rfl) (fun ds h=> ?_) (fun t ht=> ?_)
  (jt (ag:=true) (by kernel_rfl) C0 (fun h=>by cases h) (jt (ag:=false) (by kernel_rfl) (eC Tryz.underlying3) (fun _ _ _=>rfl) (jt (ag:=false) (by kernel_rfl) (CY Tryz.underlying31 Tryz.underlying3 (by kernel_rfl) (by kernel_rfl)) (fun _ _ _=>rfl) wR)))
  (fun a h=> ?_) hval hW hr (SY hL)
 ·match ds,h with
  |[d0,d1,d2],_=>rfl
 ·have:∀t∈[25,3,31],Tryz.prog.readableRec t=true∧t<Tryz.prog.types.size:=by
   simp only[List.forall_mem_cons]
   refine⟨⟨by kernel_rfl,of_decide_eq_true (by kernel_rfl)⟩,⟨by kernel_rfl,of_decide_eq_true (by kernel_rfl)⟩,⟨by kernel_rfl,of_decide_eq_true (by kernel_rfl)⟩,by simp⟩
  exact this t ht
 ·exact zg a.1 h.1 a.2.1 a.2.2.1
theorem qu:Rows.StuckNoRingSaid:=
 OpenClaim.holds_of_wide 6 Tryz.f6 rfl rfl rfl rfl rfl rfl rfl ⟨rfl,rfl,rfl,rfl,rfl⟩ rfl rfl rfl rfl rfl (by kernel_rfl) Tryz.func6 (by kernel_rfl)
  (of_decide_eq_true (by kernel_rfl)) (by unfold Func.isWrapper;first|(rw[if_pos (by decide+kernel)];kernel_rfl)|(rw[if_neg (by decide+kernel)];exact⟨rfl,rfl⟩))
  (fun os started H enc _=>ny os started H enc)
set_option maxRecDepth 100000 in
theorem stuckNoRing_holds:Rows.StuckNoRingCardSaid:=
 Claim7.holds_tied_plain_at .later [] [.data] true (true, "14b4af768aa3e6a8dd3f17bcbe4400c6eab11aaff17ef5f81a71be15f13cfe4e") false
  qu (fun _ h=>by cases h) (by kernel_rfl) (fun _ h=>by cases h) stuckNoRing_row_tie rfl ⟨rfl,rfl⟩ (by kernel_rfl) rfl
  (fun f fn hf hfn=>by
   obtain rfl:f=6:=Option.some.inj ((show Tryz.prog.funcNamed "stile/stilelaw24.StuckNoRing" =some 6 by kernel_rfl).symm.trans hf)|>.symm
   obtain rfl:fn=Tryz.f6:=(Option.some.inj (Tryz.func6.symm.trans hfn)).symm
   exact⟨by kernel_rfl,fun j t ht=>by
    rw[show Tryz.f6.params=#[25,3,31] by kernel_rfl] at ht
    have hm:t∈[25,3,31]:=by simpa using Array.mem_of_getElem? ht
    have hall:([25,3,31].all fun u=> !Tryz.prog.wantsStandIn u)=true:=by kernel_rfl
    exact(show Tryz.prog.wantsStandIn t=false by simpa using List.all_eq_true.1 hall t hm)⟩)
  (by kernel_rfl)
end Go.Proofs.YtjopoheligmmoaaGreatDoor
end
