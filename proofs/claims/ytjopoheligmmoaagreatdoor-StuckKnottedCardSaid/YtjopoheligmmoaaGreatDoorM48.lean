import Derived.Test.YtjopoheligmmoaaGreatDoorM47
import Derived.Test.YtjopoheligmmoaaGreatDoorM23
import Derived.Test.YtjopoheligmmoaaGreatDoorM38
import Derived.Test.YtjopoheligmmoaaGreatDoorM41
section
/- What the laws begin with: two threads that cross. -/
namespace Go.cY
open Go.RowKit
set_option linter.unusedSimpArgs false
set_option linter.unusedVariables false
theorem cJ.VO {P:Program} {f:FuncId} {args args2:List AV} {e:TypeId} {sz:Nat} {es cs:List AV} (dZ:lp cs) (h:cJ P f args2 [] 0 (fun r1 H1 _=>∃b d0,r1= .dP (.sl b es.length::cs)∧bt H1 b=some (.row e sz d0 es))) (hfl:∀i,i<es.length→fy (es.getD i .any)) (d:AV) {H:Hp} {id:Nat} (ha:args.map (dW H 6)=args2) (hfa:cZ 0 args2):
 kB P f args H id (fun r' H''=>r'= .dP (.sl id es.length::cs)∧H''=dA H (some (id, .row e sz d es))):=by
 refine⟨h.1,fun w0 c vs hS hH hid hv=> ?_⟩
 have hS0:dX c.w ⟨fun _=>none,bt [],fun _=>False,c.w,c.M0⟩:=⟨Below.refl _ _,hS.jr,fun b e sz d es he=>by simp[bt] at he,fun b b' k k' blk o z o' z' hk=>by simp[bt] at hk⟩
 subst ha
 have hv':cd ⟨fun _=>none,bt [],fun _=>False,c.w,c.M0⟩ (args.map (dW H 6)) vs:=kM hS hH hfa hv
 refine(h.2 c.w _ vs hS0 rfl (fun _ h=>h.elim) hv').mono ?_
 rintro en w' ⟨v,r1,H1,nx',ρ,U,he,⟨b,d0,rfl,hb⟩,hU,hS',_,hvr⟩
 rw[VR] at hvr
 obtain⟨us,hus,hvr⟩:=hvr
 rw[cd] at hvr
 obtain⟨x,v3,hx3,hvr,hv3⟩:=hvr
 rw[VR] at hvr
 obtain⟨_,ad,cap,hvv,hrr⟩:=hvr
 obtain⟨_,hr2⟩:=hrr _ _ _ _ hb
 have hr3:=hr2 rfl
 obtain⟨_,hz,hor⟩:=hS'.jT b _ _ _ _ hb (tE hr3)
 have hbel:=hS'.below
 obtain⟨s1,s2⟩:=hS.world hbel
 have hHeq:bt (dA H (some (id, .row e sz d es)))=ep c.H id (some (.row e sz d es)):=by rw[dU,hH]
 have fin:∀c2:Cx,VR c2 (.sl id es.length) x→VR c2 (.dP (.sl id es.length::cs)) v:=fun c2 h2=>by
  rw[VR]
  refine⟨us,hus, ?_⟩
  rw[hx3,cd]
  exact⟨x,v3,rfl,h2,mY dZ hv3⟩
 rcases hor with⟨h0,hes⟩|⟨blk,o,z,hρ,hlow,⟨arr,harr,hsz⟩,hlz,hrow⟩
 ·subst hes
  obtain⟨p1,p2⟩:=s1.KA (b:=id) (e:=e) (sz:=sz) d hz hid
  refine⟨v,_,_,ep c.ρ id none,he,⟨rfl,rfl⟩, ?_, ?_,fin _ ?_⟩
  ·rw[hHeq];exact p1
  ·rw[hHeq];exact s2.trans p2
  ·rw[hHeq,VR]
   refine⟨.inr rfl,ad,cap,hvv,fun e' sz' d' es' he'=> ?_⟩
   simp only[iT,dG,Option.some.injEq,eT.row.injEq] at he'
   obtain⟨rfl,rfl,rfl,rfl⟩:=he'
   refine⟨Nat.le_refl _,fun _=> .inl ⟨by simp[iT], ?_⟩⟩
   rcases hr3 with⟨_,h2,h3⟩|⟨blk,o,z,h2,_⟩
   ·exact⟨h2,h3⟩
   ·rw[h0] at h2;cases h2
 ·obtain⟨p1,p2⟩:=hS.pI (b:=id) (e:=e) (sz:=sz) d (es:=es) (w':=w') (blk:=blk) (o:=o) (z:=z) hz (.inl hid) (.inl hlow) hbel.os hbel.tape hbel.output hbel.size (fun k hk _=>hbel.block k hk) harr hsz hlz (fun hle i hi=>by
   obtain⟨y,x1,x2⟩:=dc hrow i hi
   refine⟨y,x1,lq ?_ x2⟩
   have:=hfl i hi
   simpa[List.getD,hi] using this)
  refine⟨v,_,_,ep c.ρ id (some (blk,o,z)),he,⟨rfl,rfl⟩, ?_, ?_,fin _ ?_⟩
  ·rw[hHeq];exact p1
  ·rw[hHeq];exact p2
  ·rw[hHeq,VR]
   refine⟨.inr rfl,ad,cap,hvv,fun e' sz' d' es' he'=> ?_⟩
   simp only[iT,dG,Option.some.injEq,eT.row.injEq] at he'
   obtain⟨rfl,rfl,rfl,rfl⟩:=he'
   refine⟨by omega,fun _=> .inr ⟨blk,o,z,by simp[iT], ?_⟩⟩
   rcases hr3 with⟨h2,_,_⟩|⟨blk',o',z',h2,h3,h4,h5,h6⟩
   ·rw[hρ] at h2;cases h2
   ·rw[hρ] at h2;cases h2
    exact⟨h3,h4,h5,h6⟩
theorem cJ.Q9 {P:Program} {f:FuncId} {args args2:List AV} {e:TypeId} {sz:Nat} {es cs:List AV} (dZ:lp cs) (h:cJ P f args2 [] 0 (fun r1 H1 _=>∃b d0,r1= .dP (.sl b es.length::cs)∧bt H1 b=some (.row e sz d0 es))) (hfl:∀i,i<es.length→fy (es.getD i .any)) {H:Hp} {nx:Nat} (ha:args.map (dW H 6)=args2) (hfa:cZ 0 args2):
 cJ P f args H nx (fun r H' n=>r= .dP (.sl nx es.length::cs)∧H'=(nx,some (.row e sz .any es))::H∧n=nx+1):=
 (kB.XA (h.VO dZ hfl .any ha hfa)).mono fun r H' n ⟨⟨h1,h2⟩,h3⟩=>⟨h1,h2,h3⟩
end Go.cY
namespace Go.Proofs.YtjopoheligmmoaaGreatDoor
open Go Go.cY Go.Proofs
set_option linter.unusedSimpArgs false
set_option linter.unusedVariables false
set_option maxRecDepth 8000
theorem DR (l m:List Int) (hl:l.length * 8≤140737488351232) (hm:m.length * 8≤140737488351232):Pure Tryz.prog 44 [fW l,fW m] (fun r=>r=bl (decide (l=m))):=by
 refine aI N6 rfl ?_
 unfold fW
 repeat' (first|((with_reducible refine aF ?_);conv=>whnf)|refine aG ?_|exact aC|with_reducible refine aD ?_ ?_|(apply aB;(·exact cR))|refine aH ?_|((with_reducible refine aA ?_ ?_)<;>intro hc<;>(try simp only[List.length_map,ne_eq,dZ] at hc)<;>try(exfalso;omega)))
 ·refine ez (Eq.symm ?_)
  exact decide_eq_false fun e=>hc (by rw[e])
 ·have hlm:l.length=m.length:=by omega
  refine aM (fun i:Nat=>[(0,fW l),(1,fW m),(5,i64 i)])
   (fun i H n=>i≤l.length∧∀j,j<i→l.getD j 0=m.getD j 0) (fun i=>l.length - i) 0 cH ⟨Nat.zero_le _,fun _ h=>by omega⟩ ?_
  unfold fW
  rintro i H n ⟨hi,hall⟩
  by_cases hil:i<l.length
  ·have e1:=oj (l:=l) hil
   have e2:=oj (l:=m) (i:=i) (by omega)
   repeat' (first|((with_reducible refine aF ?_);conv=>whnf)|refine aG ?_|exact aC|with_reducible refine aD ?_ ?_|(apply aB;(·(first|exact e1 _|exact e2 _|exact cR)))|refine aH ?_|((with_reducible refine aA ?_ ?_)<;>intro hc<;>(try simp only[List.length_map,ne_eq,dZ] at hc)<;>try(exfalso;omega)))
   ·refine ez (Eq.symm ?_)
    exact decide_eq_false fun e=>hc (by rw[e])
   ·refine⟨i+1,by omega,cH,by omega,fun j hj=> ?_⟩
    by_cases hji:j=i
    ·subst hji;exact hc
    ·exact hall j (by omega)
  ·have:i=l.length:=by omega
   subst this
   repeat' (first|((with_reducible refine aF ?_);conv=>whnf)|refine aG ?_|exact aC|with_reducible refine aD ?_ ?_|(apply aB;(·exact cR))|refine aH ?_|((with_reducible refine aA ?_ ?_)<;>intro hc<;>(try simp only[List.length_map,ne_eq,dZ] at hc)<;>try(exfalso;omega)))
   refine ez (Eq.symm ?_)
   refine decide_eq_true (List.ext_getElem hlm fun j h1 h2=> ?_)
   have:=hall j h1
   simpa[List.getD,h1,h2] using this
theorem lz (l m:List Int) (hl:l.length * 8≤140737488351232) (hm:m.length * 8≤140737488351232):Pure Tryz.prog 18 [cO l,cO m] (fun r=>r=bl (decide (l=m))):=by
 have c0:=DR l m hl hm
 unfold fW at c0
 refine aI NW rfl ?_
 refine cV ?_
 first|exact rfl|trivial
def XQ (k th nx o:Int):Node:=⟨k,0,0,th,⟨false,0,0⟩,⟨false,0,0⟩,nx,0,o⟩
def VC (name:List UInt8) (a b:Int):cD:=⟨⟨name.toArray⟩,0,0,[XQ 5 a 1 0,XQ 5 b 2 1,XQ 6 b 3 2,XQ 6 a 4 3,XQ 9 0 0 4]⟩
def lj:bu:=⟨[],[⟨⟨(List.toArray [108])⟩,0,0⟩,⟨⟨(List.toArray [109])⟩,0,0⟩],[VC [97] 0 1,VC [98] 1 0]⟩
theorem L7:Pure Tryz.prog 47 [.sc (.string ⟨(List.toArray [97])⟩),i64 0,i64 1] (fun r=>r=(VC [97] 0 1).av):=
 k7 (by simp[cK,cC]) (by kernel_rfl)
theorem L8:Pure Tryz.prog 47 [.sc (.string ⟨(List.toArray [98])⟩),i64 1,i64 0] (fun r=>r=(VC [98] 1 0).av):=
 k7 (by simp[cK,cC]) (by kernel_rfl)
theorem oV:cT lj:=kI.1 (by decide+kernel)
theorem x6:lj.Wf:=by
 have hd:∀d∈lj.cE,d.Wf:=fun d h=>by
  simp only[lj,List.mem_cons,List.not_mem_nil,or_false] at h
  rcases h with rfl|rfl<;>exact⟨by decide+kernel,by decide+kernel,by decide+kernel⟩
 refine⟨fun _ h=>by simp[lj] at h,by simp[lj],hd,by simp[lj],fun g hg=> ?_,by simp[lj]⟩
 simp only[lj,List.mem_cons,List.not_mem_nil,or_false] at hg
 rcases hg with rfl|rfl<;>
 ·refine⟨by decide+kernel,by decide+kernel,by decide+kernel,fun n hn=> ?_,by decide+kernel⟩
  simp only[VC,List.mem_cons,List.not_mem_nil,or_false] at hn
  rcases hn with rfl|rfl|rfl|rfl|rfl<;>
   exact⟨by decide+kernel,by decide+kernel,by decide+kernel,by decide+kernel,⟨by decide+kernel,by decide+kernel⟩,⟨by decide+kernel,by decide+kernel⟩,by decide+kernel,by decide+kernel,by decide+kernel⟩
theorem xZ:dR lj=[⟨0,1,0,1⟩,⟨1,0,1,1⟩]:=by decide+kernel
theorem Q0:fb lj=fun h=>if h=0 then[1] else if h=1 then[0] else[]:=by
 funext h
 unfold fb
 rw[xZ]
 have e:jE [⟨0,1,0,1⟩,⟨1,0,1,1⟩] h=if h=0 then[1] else if h=1 then[0] else[]:=by
  unfold jE
  simp only[List.foldl_cons,List.foldl_nil]
  by_cases h0:h=0
  ·subst h0;simp
  ·by_cases h1:h=1
   ·subst h1;simp
   ·have e0:¬(0:Int)=h:=fun e=>h0 e.symm
    have e1:¬(1:Int)=h:=fun e=>h1 e.symm
    simp[h0,h1,e0,e1]
 rw[e]
 unfold eH
 split
 ·simp
 ·split<;>simp
theorem Q1:qe lj=some [0,1]:=by
 unfold qe
 rw[Q0]
 decide+kernel
theorem QZ:j5 lj (eJ lj (dK lj) [0,1])=some [0,1]:=by decide+kernel
def QA:List cU:=(gT lj 99).getD []
theorem VD:gT lj 99=some QA:=by
 have h:(gT lj 99).isSome=true:=by decide+kernel
 unfold QA
 cases hs:gT lj 99 with
 |none=>rw[hs] at h;cases h
 |some l=>rfl
def W2:cm:=⟨[],[],false⟩
theorem QY:∀e∈dS lj QA QA.length,e.ended=true∨e=W2:=by decide+kernel
theorem VE:W2∈dS lj QA QA.length:=by decide+kernel
theorem VF:gw QA (fM lj QA W2 QA.length)=[0,1]:=by decide+kernel
theorem ES:eG lj 99=(0,QA):=by rw[oQ oV (by decide),show(99:Int).toNat=99 from rfl,VD]
theorem OT {u:bu} {l:List cU} {x:cm} (h:∀e∈dS u l l.length,e.ended=true∨e=x) (hx:x∈dS u l l.length) (hx2:x.ended=false):mB (gq u l)=[x]:=by
 have h1:=(vx u l).filter fun e=> !e.ended
 change (mB (gq u l)).Pairwise _ at h1
 have h2:∀e,e∈mB (gq u l)↔e=x:=fun e=>by
  unfold mB
  rw[List.mem_filter,uP]
  constructor
  ·rintro⟨q1,q2⟩
   rcases h e q1 with h3|h3
   ·rw[h3] at q2;cases q2
   ·exact h3
  ·rintro rfl
   exact⟨hx,by rw[hx2];rfl⟩
 cases hl:mB (gq u l) with
 |nil=>exact absurd ((h2 x).2 rfl) (by rw[hl];simp)
 |cons a t=>
  rw[hl] at h1 h2
  have ha:=(h2 a).1 (by simp)
  subst ha
  cases t with
  |nil=>rfl
  |cons b t=>
   have hb:=(h2 b).1 (by simp)
   subst hb
   have:=(List.pairwise_cons.1 h1).1 b (by simp)
   rw[(j0.zero _ _).2 rfl] at this
   omega
theorem sB:ec lj 99=[W2]:=by
 unfold ec
 rw[ES]
 rw[if_pos rfl]
 exact OT QY VE rfl
theorem Q2:oD lj 99=[0,1]:=by
 unfold oD lY
 rw[sB]
 show nF lj 99 W2=[0,1]
 unfold nF
 rw[ES]
 exact VF
end Go.Proofs.YtjopoheligmmoaaGreatDoor
end
section
/- What the laws begin with: the walk. -/
namespace Go.Proofs.YtjopoheligmmoaaGreatDoor
open Go Go.cY Go.Proofs
set_option linter.unusedSimpArgs false
set_option linter.unusedVariables false
set_option maxRecDepth 8000
abbrev L6:AV:= .agg [.sc (.slice none 0 0),cr lj.cE,de lj.bw]
theorem sA (c:Cx):dN c c L6 lj.av:=cY.dN.agg (.cons (cY.dN.lW c c 3 .any) (.cons (fun _ h=>h) (.cons (fun _ h=>h) .nil)))
theorem YH (u:bu) (hu:u.Wf) (hr:cT u):Pure Tryz.prog 15 [u.av] (fun r=>r= .dP [cO ((qe u).getD []),bl (qe u).isSome,i64 0]):=by
 have key:Pure Tryz.prog 15 [u.av] (fun r=>r=match qe u with|none=> .dP [.sc (.slice none 0 0),bl false,i64 0]|some w=> .dP [cO w,bl true,i64 0]):=by
  refine dH ((KF u hu hr).mono ?_) (by split<;>simp[cK,cZ,cC])
  intro r H n h
  unfold LB at h
  cases hq:qe u with
  |none=>rw[hq] at h;dsimp only at h ⊢;rw[h];rfl
  |some w=>
   rw[hq] at h
   obtain⟨b,d,rfl,hb⟩:=h
   show AV.dP [cY.dW H 5 (.sl b w.length),bl true,i64 0]=_
   rw[dh (k:=4) hb (by simp),cx _ ((cC _ _).2 fun _ _=>by simp[cK])]
 refine iF key (iC _ _ _) fun c=> ?_
 cases qe u with
 |none=>exact dN.dP (.cons (dN.lW _ _ _ _) (.cons (fun _ h=>h) (.cons (fun _ h=>h) .nil)))
 |some w=>exact fun _ h=>h
theorem X7 (u:bu) (hu:u.Wf) (hr:cT u) (w:List Int) (hw:w.length≤1048576):Pure Tryz.prog 21 [u.av,cO w] (fun r=>r= .dP [cO ((j5 u (eJ u (dK u) w)).getD []),bl (j5 u (eJ u (dK u) w)).isSome,i64 0]):=by
 have key:Pure Tryz.prog 21 [u.av,cO w] (fun r=>r=match j5 u (eJ u (dK u) w) with|none=> .dP [.sc (.slice none 0 0),bl false,i64 0]|some w=> .dP [cO w,bl true,i64 0]):=by
  refine dH ((uk u hu hr w hw).mono ?_) (by split<;>simp[cK,cZ,cC])
  intro r H n h
  unfold wz at h
  cases hq:j5 u (eJ u (dK u) w) with
  |none=>rw[hq] at h;dsimp only at h ⊢;rw[h];rfl
  |some w=>
   rw[hq] at h
   obtain⟨b,d,rfl,hb⟩:=h
   show AV.dP [cY.dW H 5 (.sl b w.length),bl true,i64 0]=_
   rw[dh (k:=4) hb (by simp),cx _ ((cC _ _).2 fun _ _=>by simp[cK])]
 refine iF key (iC _ _ _) fun c=> ?_
 cases j5 u (eJ u (dK u) w) with
 |none=>exact dN.dP (.cons (dN.lW _ _ _ _) (.cons (fun _ h=>h) (.cons (fun _ h=>h) .nil)))
 |some w=>exact fun _ h=>h
theorem L9 {H:Hp} {nx:Nat} {b:Nat} (hb:∃d,bt H b=some (.row 3 1 d [i64 0,i64 1])):cJ Tryz.prog 21 [L6, .sl b 2] H nx (fun r H' n=>r= .dP [.sl nx 2,bl true,i64 0]∧H'=(nx,some (.row 3 1 .any [i64 0,i64 1]))::H∧n=nx+1):=by
 have h:=uk lj x6 oV [0,1] (by decide)
 have h2:=cJ.args (bs:=[L6,cO [0,1]]) h fun c=> .cons (sA c) (.cons (fun _ h=>h) .nil)
 obtain⟨d,hb⟩:=hb
 refine cJ.Q9 (es:=[i64 0,i64 1]) (cs:=[bl true,i64 0]) (args2:=[L6,cO [0,1]]) (by simp[lp]) (h2.mono ?_) ?_ ?_ ?_
 ·intro r H1 n1 hR
  unfold wz at hR
  rw[QZ] at hR
  exact hR
 ·intro i hi
  match i,hi with
  |0,_=>trivial
  |1,_=>trivial
 ·show[cY.dW H 6 L6,cY.dW H 6 (.sl b [i64 0,i64 1].length)]=_
  rw[dv _ (show cK 0 L6 by simp[cK,cZ,cC]),dh (k:=5) hb rfl]
  rfl
 ·simp[cK,cZ,cC]
theorem vu {H:Hp} {b:Nat} {d:AV} (hb:bt H b=some (.row 3 1 d [i64 0,i64 1])):cY.dW H 6 (.sl b 2)=cO [0,1]:=by
 show cY.dW H 6 (.sl b [i64 0,i64 1].length)=_
 rw[dh (k:=5) hb rfl]
 rfl
theorem BT {H:Hp} {x y a b:AV} (h1:cY.dW H 6 x=a) (h2:cY.dW H 6 y=b):[x,y].map (cY.dW H 6)=[a,b]:=by
 subst h1 h2
 rfl
theorem ET {H:Hp}:cY.dW H 6 (cO [0,1])=cO [0,1]:=dv _ (by simp[cK,cZ,cC])
theorem xN:Pure Tryz.prog 20 [] (fun r=>r=bl true):=by
 have c0:Pure Tryz.prog 47 [.sc (.string ⟨⟨[⟨⟨⟨97,by decide⟩⟩⟩]⟩⟩),i64 0,i64 1] (fun r=>r=(VC [97] 0 1).av):=L7
 have c1:Pure Tryz.prog 47 [.sc (.string ⟨⟨[⟨⟨⟨98,by decide⟩⟩⟩]⟩⟩),i64 1,i64 0] (fun r=>r=(VC [98] 1 0).av):=L8
 refine dH ?_ (by simp[cK])
 refine ah NX rfl ?_
 refine WL.cut ?_
 refine cV ?_
 refine⟨_,_,_,Rt.refl _ _ _,WL.cut ?_⟩
 refine cV ?_
 refine⟨[(1, .pt 6 1 0 0)],_,_,Rt.trans (Rt.wk (Wk.gl (cb:=6) (jh [3,4] _) 5 .any rfl fun b q hq=>qO hq)) (Rt.less cH),WL.last ?_⟩
 refine aV (b:=6) (q:=some (.row 25 3 .any [L6])) rfl ?_
 intro H2 r3
 have c0:Pure Tryz.prog 13 [L6] (fun r=>r= .dP [vw (dR lj),i64 0]):=Pure.args (sF lj x6 oV) fun c=> .cons (sA c) .nil
 have c1:Pure Tryz.prog 15 [L6] (fun r=>r= .dP [cO [0,1],bl true,i64 0]):=Pure.args (by have:=YH lj x6 oV;rw[Q1] at this;exact this) fun c=> .cons (sA c) .nil
 have c2:Pure Tryz.prog 25 [L6,i64 99] (fun r=>r= .dP [cO [0,1],bl true,i64 0]):=Pure.args (by have:=YV lj x6 99;rw[Q2,sB,ES] at this;exact this) fun c=> .cons (sA c) (.cons (fun _ h=>h) .nil)
 have c3:Pure Tryz.prog 23 [L6,i64 99] (fun r=>r= .dP [iR [W2],i64 0]):=Pure.args (by have:=we lj x6 99;rw[sB,ES] at this;exact this) fun c=> .cons (sA c) (.cons (fun _ h=>h) .nil)
 refine cV ?_
 refine aJ (L9 ⟨_,bx⟩) ?_
 rintro _ H3 n3 ⟨rfl,rfl,rfl⟩
 rw[xZ]
 refine cV ?_
 refine aS (args2:=[cO [0,1],cO [0,1]]) (lz [0,1] [0,1] (by decide) (by decide)) (BT ET (vu bx)) (by simp[cZ,cK,cC]) trivial ?_
 refine cV ?_
 refine aS (args2:=[cO [0,1],cO [0,1]]) (lz [0,1] [0,1] (by decide) (by decide)) (BT (vu bx) (vu bx)) (by simp[cZ,cK,cC]) trivial ?_
 refine cV ?_
 refine aS (args2:=[cO [0,1],cO [0,1]]) (lz [0,1] [0,1] (by decide) (by decide)) (BT ET (vu bx)) (by simp[cZ,cK,cC]) trivial ?_
 refine cV ?_
 first|exact rfl|exact⟨rfl⟩|trivial
end Go.Proofs.YtjopoheligmmoaaGreatDoor
end
section
/- What is so of the ring that is told. -/
namespace Go.Proofs.YtjopoheligmmoaaGreatDoor
open Go Go.cY Go.Proofs
set_option linter.unusedSimpArgs false
set_option linter.unusedVariables false
end Go.Proofs.YtjopoheligmmoaaGreatDoor
end
section
/- A ring is one: the law's walk. -/
namespace Go.Proofs.YtjopoheligmmoaaGreatDoor
open Go Go.cY Go.Proofs
set_option linter.unusedSimpArgs false
set_option linter.unusedVariables false
set_option maxRecDepth 8000
end Go.Proofs.YtjopoheligmmoaaGreatDoor
end
section
/- A knot lies on a ring of edges; what is stuck is knotted. -/
namespace Go.Proofs.YtjopoheligmmoaaGreatDoor
open Go Go.cY Go.Proofs
set_option linter.unusedSimpArgs false
set_option linter.unusedVariables false
section
variable {u:bu} {m:MS}
theorem AU {l:List cU} (hf:gz u l):∀i,i<l.length→eJ u (dK u) (gw l (some i))=(l.getD i default).m:=by
 intro i
 induction i using Nat.strongRecOn with
 |_ i ih=>
  intro hi
  by_cases h0:i=0
  ·subst h0
   have hw:gw l (some 0)=[]:=rfl
   rw[hw,hf.first]
   rfl
  obtain⟨k,t,h1,h2,h3,h4⟩:=hf.HX i (by omega) hi
  have g2:=ih k h1 (by omega)
  have hw:gw l (some i)=gw l (some k)++[(t:Int)]:=by
   show(lP l i).reverse=(lP l k).reverse++[(t:Int)]
   rw[rf hf hi (by rw[h4];exact Int.natCast_nonneg _),h4,List.reverse_cons]
   rfl
  rw[hw,qJ,g2,h4]
  show(if _=0 then _ else _)=_
  rw[if_pos h3]
  rfl
theorem IN (hu:u.Wf) (hr:cT u) {l:List cU} (hf:gz u l) {i:Nat} (hi:i<l.length):p7 u (l.getD i default).m:=by
 rw[←AU hf i hi]
 exact(p7.new hu hr).wX hu hr
def nU (u:bu) (m:MS):Prop:=(∀t,t<u.bw.length→m.kA u (t:Nat)≠0)∧∃t,t<u.bw.length∧m.kA u (t:Nat)≠70
theorem nU.ZW (hr:cT u) (h:p7 u m) (hs:nU u m):∃l,j5 u m=some l:=by
 obtain⟨h1,t,h2,h3⟩:=hs
 exact D5 hr h h1 h2 h3
theorem AH (h:eO u m) (h1:m.stuck u=true) (h2:m.ended u=false):nU u m:=by
 unfold MS.stuck at h1
 unfold MS.ended at h2
 rw[h.oH] at h1 h2
 rw[List.all_eq_true] at h1
 refine⟨fun t ht=> ?_, ?_⟩
 ·have:=h1 t (List.mem_range.2 ht)
  exact of_decide_eq_true this
 ·rw[←Bool.not_eq_true,List.all_eq_true] at h2
  apply Classical.byContradiction
  intro hn
  apply h2
  intro t ht
  apply decide_eq_true
  apply Classical.byContradiction
  intro h7
  exact hn ⟨t,List.mem_range.1 ht,h7⟩
theorem fI.next {l:List Int} (hk:fI u m l) {i:Nat} (hi:i<l.length):(m.node u (l.getD i 0).toNat).kind=5∧m.hold.getD (m.node u (l.getD i 0).toNat).cP.toNat 0=l.getD ((i+1)%l.length) 0:=by
 have h1:=hk.ring.on i hi
 have h3:=hk.ring.nn _ (cS 0 (Nat.mod_lt (i+1) hk.ring.pos))
 unfold eP at h1
 split at h1
 ·rename_i h5
  exact⟨h5,h1⟩
 ·omega
theorem AK (hu:u.Wf) {most:Int} (hne:ec u most≠[]):(eG u most).1=0:=by
 apply Classical.byContradiction
 intro h
 unfold ec at hne
 rw[if_neg h] at hne
 exact hne rfl
end
end Go.Proofs.YtjopoheligmmoaaGreatDoor
end
section
/- Knot of any unit and schedule; a machine behind a schedule. -/
namespace Go.Proofs.YtjopoheligmmoaaGreatDoor
open Go Go.cY Go.Proofs
set_option linter.unusedSimpArgs false
set_option linter.unusedVariables false
set_option maxRecDepth 8000
open Classical in
noncomputable def mA (u:bu) (w:List Int):Int:=if cT u then(if w.length≤1048576 then 0 else 3) else 60
open Classical in
noncomputable def nM (u:bu) (w:List Int):Option (List Int):=if mA u w=0 then j5 u (eJ u (dK u) w) else none
theorem yJ (u:bu) (hu:u.Wf) (w:List Int):Pure Tryz.prog 21 [u.av,cO w] (fun r=>r= .dP [cO ((nM u w).getD []),bl (nM u w).isSome,i64 (mA u w)]):=by
 have nilR:∀(e:Int) (c:Cx),dN c c (.dP [.sc (.slice none 0 0),bl false,i64 e]) (.dP [cO [],bl false,i64 e]):=fun e c=>dN.dP (.cons (dN.lW _ _ _ _) (.cons (fun _ h=>h) (.cons (fun _ h=>h) .nil)))
 by_cases hr:cT u
 ·by_cases hw:w.length≤1048576
  ·have hE:mA u w=0:=by unfold mA;rw[if_pos hr,if_pos hw]
   have hQ:nM u w=j5 u (eJ u (dK u) w):=by unfold nM;rw[if_pos hE]
   rw[hE,hQ]
   exact X7 u hu hr w hw
  ·have hE:mA u w=3:=by unfold mA;rw[if_pos hr,if_neg hw]
   have hQ:nM u w=none:=by unfold nM;rw[hE];rfl
   rw[hE,hQ]
   refine iF (dH ((JC u hu hr w (by omega)).mono fun r H n h=>by rw[h];rfl) (by simp[cK,cZ])) (iC _ _ _) fun c=>nilR 3 c
 ·have hE:mA u w=60:=by unfold mA;rw[if_neg hr]
  have hQ:nM u w=none:=by unfold nM;rw[hE];rfl
  rw[hE,hQ]
  exact iF (NQ u hu hr w) (iC _ _ _) fun c=>nilR 60 c
theorem S6 (u:bu) (hu:u.Wf) (hr:¬cT u) (w:List Int):Pure Tryz.prog 29 [u.av,cO w] (fun r=>r= .sc (.pointer none)):=by
 have c0:=wR u hu hr
 refine aI CR rfl ?_
 refine cV ?_
 first|exact rfl|trivial
theorem PC (u:bu) (hu:u.Wf) (hr:cT u) (w:List Int) (hw:65536<w.length):cJ Tryz.prog 29 [u.av,cO w] [] 0 (fun r H n=>r= .sc (.pointer none)):=by
 have a0:(w.map i64).length=w.length:=List.length_map _
 refine aL CR rfl ?_
 refine cV ?_
 refine aJ (kV u hu hr _ _) ?_
 rintro _ H1 n1 ⟨L,rfl,hM,hL,hn1,hkp⟩
 refine cV ?_
 exact⟨rfl⟩
theorem S7 (u:bu) (hu:u.Wf) (w:List Int) (h:¬(cT u∧w.length≤65536)):Pure Tryz.prog 29 [u.av,cO w] (fun r=>r= .sc (.pointer none)):=by
 by_cases hr:cT u
 ·exact dH ((PC u hu hr w (by have:¬w.length≤65536:=fun hh=>h ⟨hr,hh⟩;omega)).mono fun r H n h=>by rw[h];rfl) (by simp[cK])
 ·exact S6 u hu hr w
set_option maxHeartbeats 2000000 in
theorem O9 (u:bu) (hu:u.Wf) (hr:cT u) (w:List Int) (hw:w.length≤65536) (H0:Hp) (nx:Nat):cJ Tryz.prog 29 [u.av,cO w] H0 nx (fun r H n=>∃L:ML,r= .pt L.mr 1 0 0∧L.At u (eJ u (dK u) w) H∧(eJ u (dK u) w).cN.length≤w.length∧(∀x∈L.all,nx≤x∧x<n)∧nx≤n∧∀y,y<nx→bt H y=bt H0 y):=by
 have a0:(w.map i64).length=w.length:=List.length_map _
 have r0:decide (65536<((w.map i64).length:Int))=false:=decide_eq_false (by omega)
 refine aL CR rfl ?_
 refine cV ?_
 refine aJ (kV u hu hr _ _) ?_
 rintro _ H1 n1 ⟨L,rfl,hM,hL,hn1,hkp⟩
 refine cV ?_
 refine aM (fun i:Nat=>[(1,cO w),(5, .pt L.mr 1 0 0),(7,i64 i)])
  (fun i H n=>i≤w.length∧n1≤n∧L.At u (eJ u (dK u) (w.take i)) H∧(eJ u (dK u) (w.take i)).cN.length≤i∧∀y,y<nx→bt H y=bt H0 y) (fun i=>w.length - i) 0
  cH ⟨Nat.zero_le _,c8,hM.cQ fun y hy=> ?_,Nat.zero_le _,fun y hy=> ?_⟩ ?_
 ·have:=hL y hy;exact cA
 ·exact Eq.trans cA ((hkp y (by omega)).trans cA)
 rintro i H n ⟨hi,hn,hM,hpr,hkeep⟩
 have hsit:p7 u (eJ u (dK u) (w.take i)):=p7.wX hu hr (p7.new hu hr)
 by_cases hil:i<w.length
 ·have e0:∀d,(w.map i64).getD ((i:Int)).toNat d=i64 (w.getD i 0):=fun d=>ints_at hil d
  have hpn:=vB u (dK u) w hil
  have hp2:=ss u (eJ u (dK u) (w.take i)) (w.getD i 0)
  rw[←hpn] at hp2
  refine cV ?_
  refine aJ (pP hu hr hsit.ok (hM.cQ fun y hy=> ?_) (fun y hy=> ?_) (by omega) (w.getD i 0)) ?_
  ·have:=hL y hy;exact cA
  ·exact Nat.lt_of_lt_of_le (Nat.lt_of_lt_of_le (hL y hy).2 hn) c8
  rintro _ H2 n2 ⟨⟨d,e,rfl⟩,hM2,hn2,hkeep2⟩
  rw[←hpn] at hM2
  refine cV ?_
  refine⟨i+1,by omega,cH,by omega,c8,hM2.cQ fun y hy=> ?_,by omega,fun y hy=> ?_⟩
  ·have:=hL y hy;exact cA
  ·exact Eq.trans cA ((hkeep2 y (by omega) fun h=>by have:=hL y h;omega).trans (Eq.trans cA (hkeep y hy)))
 ·obtain rfl:i=w.length:=by omega
  rw[List.take_length] at hM hpr hsit
  refine cV ?_
  refine⟨⟨L,rfl,hM.cQ fun y hy=> ?_,hpr,fun x hx=>⟨by have:=hL x hx;omega,Nat.lt_of_lt_of_le (Nat.lt_of_lt_of_le (hL x hx).2 hn) c8⟩,c8,fun y hy=>Eq.trans cA (hkeep y hy)⟩⟩
  have:=hL y hy;exact cA
open Classical in
noncomputable def jU (u:bu) (w:List Int):Bool:=decide (cT u∧w.length≤65536∧nU u (eJ u (dK u) w))
open Classical in
theorem qL {u:bu} {w:List Int} {b:Bool} (h:(cT u∧w.length≤65536∧nU u (eJ u (dK u) w))↔b=true):jU u w=b:=by
 unfold jU
 cases b with
 |true=>exact decide_eq_true (h.2 rfl)
 |false=>exact decide_eq_false fun hh=>by have:=h.1 hh;cases this
set_option maxHeartbeats 2000000 in
theorem tK (u:bu) (hu:u.Wf) (w:List Int):Pure Tryz.prog 28 [u.av,cO w] (fun r=>r=bl (jU u w)):=by
 by_cases hc:cT u∧w.length≤65536
 ·obtain⟨hr,hw⟩:=hc
  refine dH ?_ (by simp[cK])
  refine ah JJ rfl ?_
  refine WL.cut ?_
  refine cV ?_
  refine⟨_,_,_,Rt.refl _ _ _,WL.cut ?_⟩
  refine cV ?_
  refine aJ (O9 u hu hr w hw _ _) ?_
  rintro _ H1 n1 ⟨L,rfl,hM,hpr,hL,hn1,hkp⟩
  refine cV ?_
  have hgl:=hr.qn.2.2
  have hL0:∀x∈L.all,4≤x:=fun x hx=>by have:=(hL x hx).1;omega
  have hL1:∀x∈L.all,x<n1:=fun x hx=>(hL x hx).2
  have hz:(0:Nat)∉L.all:=fun h=>by have:=hL0 0 h;omega
  have hM2:L.At u (eJ u (dK u) w) (dA H1 none):=hM.cQ fun y hy=>by have:=hL1 y hy;have:=hL0 y hy;exact cA
  have r0:bt H1 0=some (.row 25 3 .any [u.av]):=Eq.trans (hkp 0 (by omega)) bx
  have hsit:p7 u (eJ u (dK u) w):=(p7.new hu hr).wX hu hr
  have hq:∀{b:Bool},(nU u (eJ u (dK u) w)↔b=true)→jU u w=b:=fun h=>qL ⟨fun h2=>h.1 h2.2.2,fun h2=>⟨hr,hw,h.2 h2⟩⟩
  generalize eJ u (dK u) w=m at *
  refine⟨[(2, .pt 0 1 0 0),(5,m.fz u)],_,_,Rt.trans (Rt.slot 5 rfl (LV hM2 _)) (Rt.less cH),WL.last (aV (b:=0) (q:=some (.row 25 3 .any [u.av])) ((dy hz).trans (Eq.trans cA r0)) fun H2 r3=> ?_)⟩
  clear hM hM2 r0 hpr hkp hL hL0 hL1 hz
  have c0:=x9 u hr m hsit.ok
  cases hend:m.ended u with
  |true=>
   rw[hend] at c0
   rw[hq (b:=false) ⟨fun h=> ?_,fun h=>by cases h⟩]
   ·refine cV ?_
    exact⟨rfl⟩
   ·obtain⟨_,t,h1,h2⟩:=h
    unfold MS.ended at hend
    rw[List.all_eq_true] at hend
    exact absurd (of_decide_eq_true (hend t (List.mem_range.2 (by rw[hsit.ok.oH];exact h1)))) h2
  |false=>
   rw[hend] at c0
   refine cV ?_
   refine aM (fun t:Nat=>[(2, .pt 0 1 0 0),(5,m.fz u),(6,i64 t)]) (fun t H n=>t≤u.bw.length∧(∀s,s<t→m.kA u (s:Nat)≠0)∧1≤n∧∃d,bt H 0=some (.row 25 3 d [u.av])) (fun t=>u.bw.length - t) 0
    cH ⟨Nat.zero_le _,fun s hs=>by omega,c8,⟨_,bx⟩⟩ ?_
   clear c0 r3
   rintro t H n ⟨ht,hall,hn,⟨d,r0⟩⟩
   have a0:(u.bw.map cD.av).length=u.bw.length:=List.length_map _
   by_cases htl:t<u.bw.length
   ·have c0:=BH u hr m hsit.ok t
    by_cases hb:m.kA u (t:Nat)=0
    ·rw[decide_eq_true hb] at c0
     rw[hq (b:=false) ⟨fun h=>absurd hb (h.1 t htl),fun h=>by cases h⟩]
     refine cV ?_
     exact⟨rfl⟩
    ·rw[decide_eq_false hb] at c0
     refine cV ?_
     exact⟨t+1,by omega,cH,by omega,fun s hs=>by by_cases e:s=t;(rw[e];exact hb);exact hall s (by omega),c8,⟨_,bx⟩⟩
   ·obtain rfl:t=u.bw.length:=by omega
    rw[hq (b:=true) ⟨fun _=>rfl,fun _=> ?_⟩]
    ·refine cV ?_
     exact⟨rfl⟩
    ·refine⟨hall, ?_⟩
     have hst:=AH (u:=u) (m:=m) hsit.ok (by
      unfold MS.stuck
      rw[List.all_eq_true,hsit.ok.oH]
      exact fun s hs=>decide_eq_true (hall s (List.mem_range.1 hs))) hend
     exact hst.2
 ·have hq:jU u w=false:=qL ⟨fun h=>absurd ⟨h.1,h.2.1⟩ hc,fun h=>by cases h⟩
  have c0:=S7 u hu w hc
  rw[hq]
  refine aI JJ rfl ?_
  refine cV ?_
  first|exact rfl|trivial
end Go.Proofs.YtjopoheligmmoaaGreatDoor
end
section
/- What is stuck is knotted: the law's walk. -/
namespace Go.Proofs.YtjopoheligmmoaaGreatDoor
open Go Go.cY Go.Proofs
set_option linter.unusedSimpArgs false
set_option linter.unusedVariables false
set_option maxRecDepth 8000
theorem zj:∀(l:List (List Int)) (w:List Int),qq w l=w∨qq w l∈l
 |[],w=> .inl rfl
 |x::r,w=>by
  rw[qq]
  rcases zj r (if BP x w<0 then x else w) with h|h
  ·rw[h]
   split
   ·exact .inr (List.mem_cons_self ..)
   ·exact .inl rfl
  ·exact .inr (List.mem_cons_of_mem _ h)
theorem T1 {u:bu} {most:Int} (hne:ec u most≠[]):∃e∈ec u most,oD u most=nF u most e:=by
 have hp:0<(lY u most).length:=by
  unfold lY;rw[List.length_map];exact List.length_pos_iff.2 hne
 have hm:oD u most∈lY u most:=by
  unfold oD
  rcases zj ((lY u most).drop 1) ((lY u most).getD 0 []) with h|h
  ·rw[h];exact cS [] hp
  ·exact List.mem_of_mem_drop h
 unfold lY at hm
 obtain⟨e,h1,h2⟩:=List.mem_map.1 hm
 exact⟨e,h1,h2.symm⟩
theorem K0 {u:bu} (hu:u.Wf) {most:Int} (hne:ec u most≠[]):(eG u most).1=0∧jU u (oD u most)=true:=by
 have h0:=AK hu hne
 obtain⟨e,he,hw⟩:=T1 hne
 obtain⟨hr,hf,hl⟩:=EJ hu h0
 obtain⟨i,g1,g2,g3,g4,g5⟩:=vK hu h0 he
 have hlen:=(vN hu h0 he).2
 refine⟨h0,qL ⟨fun _=>rfl,fun _=>⟨hr,by rw[hw];exact hlen, ?_⟩⟩⟩
 rw[hw]
 unfold nF
 rw[g2,AU hf i g1]
 rw[←g4] at g5
 exact AH (IN hu hr hf g1).ok g3 g5
open Classical in
theorem PT {u:bu} {w:List Int} (h:jU u w=true):cT u∧w.length≤65536∧nU u (eJ u (dK u) w):=by
 unfold jU at h
 exact of_decide_eq_true h
theorem qh {u:bu} (hu:u.Wf) {w:List Int} (h:jU u w=true):mA u w=0∧(nM u w).isSome=true:=by
 obtain⟨hr,hw,hs⟩:=PT h
 have hE:mA u w=0:=by unfold mA;rw[if_pos hr,if_pos (by omega)]
 obtain⟨l,hl⟩:=hs.ZW hr ((p7.new hu hr).wX hu hr)
 refine⟨hE, ?_⟩
 unfold nM
 rw[if_pos hE,hl]
 rfl
set_option maxHeartbeats 2000000 in
theorem wJ (u:bu) (hu:u.Wf) (most:Int) (w:List Int):Pure Tryz.prog 7 [u.av,i64 most,cO w] (fun r=>r=bl true):=by
 have c0:=xN
 have c1:=YV u hu most
 have c2:=tK u hu w
 have c3:=yJ u hu w
 have hk:=fun h=>qh (w:=w) hu h
 by_cases hne:ec u most=[]
 ·rw[decide_eq_false fun h=>h hne] at c1
  cases hs:jU u w with
  |true=>
   obtain⟨k1,k2⟩:=hk hs
   rw[k1,k2] at c3
   rw[hs] at c2
   clear hk
   refine aI UJ rfl ?_
   refine cV ?_
   first|exact rfl|trivial
  |false=>
   rw[hs] at c2
   clear hk c3
   refine aI UJ rfl ?_
   refine cV ?_
   first|exact rfl|trivial
 ·rw[decide_eq_true hne] at c1
  obtain⟨h0,hst⟩:=K0 hu hne
  obtain⟨q1,q2⟩:=qh hu hst
  have c4:=tK u hu (oD u most)
  have c5:=yJ u hu (oD u most)
  rw[h0] at c1
  rw[q1,q2] at c5
  rw[hst] at c4
  cases hs:jU u w with
  |true=>
   obtain⟨k1,k2⟩:=hk hs
   rw[k1,k2] at c3
   rw[hs] at c2
   clear hk
   refine aI UJ rfl ?_
   refine cV ?_
   first|exact rfl|trivial
  |false=>
   rw[hs] at c2
   clear hk c3
   refine aI UJ rfl ?_
   refine cV ?_
   first|exact rfl|trivial
end Go.Proofs.YtjopoheligmmoaaGreatDoor
end
section
/- Where some have not ended and none can step there is a knot, and a way that is told comes to such a situation: for every unit and schedule. No conditions beyond the card's own. -/
namespace Go.Proofs.YtjopoheligmmoaaGreatDoor
open Go Go.cY Go.Proofs Go.RowKit Go.ChangeShapes Go.WideShapes Go.ChangeAt
set_option linter.unusedSimpArgs false
set_option linter.unusedVariables false
set_option maxRecDepth 100000 in
theorem nE (os:Os) (started:os.Started) (H:Type) (enc:TypeId×Value→H):
 ReturnsInHanded {} Tryz.checked os 7 .any (fun w args=>(Rows.stuckKnottedSpec.pre enc Tryz.prog Tryz.f7 [] false w args∧laidMetH Tryz.prog yK w)∧sizedMet enc Tryz.prog Tryz.f7 (OpenSpec.ofChange Rows.stuckKnottedSpec) false w args) (Rows.stuckKnottedSpec.post enc Tryz.prog Tryz.f7 false true false false):=by
 refine returnsInHanded_of_change_and (C:=Tryz.checked) (X:=fun w _=>laidMetH Tryz.prog yK w) (fun _ _ _ hh h=>h.of_heap hh) own started (by kernel_rfl) Tryz.func7
  (ChangeSpec.witness_shaped (enc:=enc) (C:=Tryz.checked) (os:=os) (X:=fun w _=>laidMetH Tryz.prog yK w) false (World.doorLaid Tryz.prog 400 os) #[.agg #[.slice none 0 0, .slice none 0 0, .slice none 0 0], .int .i64 0, .slice none 0 0] 8 rfl (World.shaped_of_RefB (by kernel_rfl) (by kernel_rfl)) (by kernel_rfl) (by kernel_rfl) (by kernel_rfl) (MD os _)) ?_
 intro W base args ds gs before hval hW _ hr hL _
 refine wK (ts:=[25,3,31]) (tb:=4) laidOut (by kernel_rfl) rfl Tryz.underlying4 (by kernel_rfl) (fun ds h=> ?_) (fun t ht=> ?_)
  (jt (ag:=true) (by kernel_rfl) C8 (fun h=>by cases h) (jt (ag:=false) (by kernel_rfl) (eD Tryz.underlying3) (fun _ _ _=>rfl) (jt (ag:=false) (by kernel_rfl) (C6 Tryz.underlying31 Tryz.underlying3 (by kernel_rfl) (by kernel_rfl)) (fun _ _ _=>rfl) wT)))
  (fun a h=> ?_) hval hW hr (S0 hL)
 ·match ds,h with
  |[d0,d1,d2],_=>rfl
 ·have:∀t∈[25,3,31],Tryz.prog.readableRec t=true∧t<Tryz.prog.types.size:=by
   simp only[List.forall_mem_cons]
   refine⟨⟨by kernel_rfl,of_decide_eq_true (by kernel_rfl)⟩,⟨by kernel_rfl,of_decide_eq_true (by kernel_rfl)⟩,⟨by kernel_rfl,of_decide_eq_true (by kernel_rfl)⟩,by simp⟩
  exact this t ht
 ·exact wJ a.1 h.1 a.2.1 a.2.2.1
theorem qM:Rows.StuckKnottedSaid:=
 OpenClaim.holds_of_wide 7 Tryz.f7 rfl rfl rfl rfl rfl rfl rfl ⟨rfl,rfl,rfl,rfl,rfl⟩ rfl rfl rfl rfl rfl (by kernel_rfl) Tryz.func7 (by kernel_rfl)
  (of_decide_eq_true (by kernel_rfl)) (by unfold Func.isWrapper;first|(rw[if_pos (by decide+kernel)];kernel_rfl)|(rw[if_neg (by decide+kernel)];exact⟨rfl,rfl⟩))
  (fun os started H enc _=>nE os started H enc)
set_option maxRecDepth 100000 in
theorem stuckKnotted_holds:Rows.StuckKnottedCardSaid:=
 Claim7.holds_tied_plain_at .later [] [.data] true (true, "14b4af768aa3e6a8dd3f17bcbe4400c6eab11aaff17ef5f81a71be15f13cfe4e") false
  qM (fun _ h=>by cases h) (by kernel_rfl) (fun _ h=>by cases h) stuckKnotted_row_tie rfl ⟨rfl,rfl⟩ (by kernel_rfl) rfl
  (fun f fn hf hfn=>by
   obtain rfl:f=7:=Option.some.inj ((show Tryz.prog.funcNamed "stile/stilelaw24.StuckKnotted" =some 7 by kernel_rfl).symm.trans hf)|>.symm
   obtain rfl:fn=Tryz.f7:=(Option.some.inj (Tryz.func7.symm.trans hfn)).symm
   exact⟨by kernel_rfl,fun j t ht=>by
    rw[show Tryz.f7.params=#[25,3,31] by kernel_rfl] at ht
    have hm:t∈[25,3,31]:=by simpa using Array.mem_of_getElem? ht
    have hall:([25,3,31].all fun u=> !Tryz.prog.wantsStandIn u)=true:=by kernel_rfl
    exact(show Tryz.prog.wantsStandIn t=false by simpa using List.all_eq_true.1 hall t hm)⟩)
  (by kernel_rfl)
end Go.Proofs.YtjopoheligmmoaaGreatDoor
end
