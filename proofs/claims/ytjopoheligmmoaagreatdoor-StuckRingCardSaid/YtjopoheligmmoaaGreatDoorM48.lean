import Derived.Test.YtjopoheligmmoaaGreatDoorM47
import Derived.Test.YtjopoheligmmoaaGreatDoorM23
import Derived.Test.YtjopoheligmmoaaGreatDoorM38
import Derived.Test.YtjopoheligmmoaaGreatDoorM41
section
/- What the laws begin with: two threads that cross. -/
namespace Go.cY
open Go.RowKit
set_option linter.unusedSimpArgs false
set_option linter.unusedVariables false
theorem cJ.UZ {P:Program} {f:FuncId} {args args2:List AV} {e:TypeId} {sz:Nat} {es cs:List AV} (dY:l3 cs) (h:cJ P f args2 [] 0 (fun r1 H1 _=>∃b d0,r1= .dQ (.sl b es.length::cs)∧bt H1 b=some (.row e sz d0 es))) (hfl:∀i,i<es.length→fu (es.getD i .any)) (d:AV) {H:Hp} {id:Nat} (ha:args.map (dV H 6)=args2) (hfa:cX 0 args2):
 jq P f args H id (fun r' H''=>r'= .dQ (.sl id es.length::cs)∧H''=dA H (some (id, .row e sz d es))):=by
 refine⟨h.1,fun w0 c vs hS hH hid hv=> ?_⟩
 have hS0:dW c.w ⟨fun _=>none,bt [],fun _=>False,c.w,c.M0⟩:=⟨Below.refl _ _,hS.ji,fun b e sz d es he=>by simp[bt] at he,fun b b' k k' blk o z o' z' hk=>by simp[bt] at hk⟩
 subst ha
 have hv':cd ⟨fun _=>none,bt [],fun _=>False,c.w,c.M0⟩ (args.map (dV H 6)) vs:=kC hS hH hfa hv
 refine(h.2 c.w _ vs hS0 rfl (fun _ h=>h.elim) hv').mono ?_
 rintro en w' ⟨v,r1,H1,nx',ρ,U,he,⟨b,d0,rfl,hb⟩,hU,hS',_,hvr⟩
 rw[VR] at hvr
 obtain⟨us,hus,hvr⟩:=hvr
 rw[cd] at hvr
 obtain⟨x,v3,hx3,hvr,hv3⟩:=hvr
 rw[VR] at hvr
 obtain⟨_,ad,cap,hvv,hrr⟩:=hvr
 obtain⟨_,hr2⟩:=hrr _ _ _ _ hb
 have hr3:=hr2 rfl
 obtain⟨_,hz,hor⟩:=hS'.jP b _ _ _ _ hb (se hr3)
 have hbel:=hS'.below
 obtain⟨s1,s2⟩:=hS.world hbel
 have hHeq:bt (dA H (some (id, .row e sz d es)))=ej c.H id (some (.row e sz d es)):=by rw[dP,hH]
 have fin:∀c2:Cx,VR c2 (.sl id es.length) x→VR c2 (.dQ (.sl id es.length::cs)) v:=fun c2 h2=>by
  rw[VR]
  refine⟨us,hus, ?_⟩
  rw[hx3,cd]
  exact⟨x,v3,rfl,h2,mQ dY hv3⟩
 rcases hor with⟨h0,hes⟩|⟨blk,o,z,hρ,hlow,⟨arr,harr,hsz⟩,hlz,hrow⟩
 ·subst hes
  obtain⟨p1,p2⟩:=s1.JJ (b:=id) (e:=e) (sz:=sz) d hz hid
  refine⟨v,_,_,ej c.ρ id none,he,⟨rfl,rfl⟩, ?_, ?_,fin _ ?_⟩
  ·rw[hHeq];exact p1
  ·rw[hHeq];exact s2.trans p2
  ·rw[hHeq,VR]
   refine⟨.inr rfl,ad,cap,hvv,fun e' sz' d' es' he'=> ?_⟩
   simp only[iP,dI,Option.some.injEq,eR.row.injEq] at he'
   obtain⟨rfl,rfl,rfl,rfl⟩:=he'
   refine⟨Nat.le_refl _,fun _=> .inl ⟨by simp[iP], ?_⟩⟩
   rcases hr3 with⟨_,h2,h3⟩|⟨blk,o,z,h2,_⟩
   ·exact⟨h2,h3⟩
   ·rw[h0] at h2;cases h2
 ·obtain⟨p1,p2⟩:=hS.oy (b:=id) (e:=e) (sz:=sz) d (es:=es) (w':=w') (blk:=blk) (o:=o) (z:=z) hz (.inl hid) (.inl hlow) hbel.os hbel.tape hbel.output hbel.size (fun k hk _=>hbel.block k hk) harr hsz hlz (fun hle i hi=>by
   obtain⟨y,x1,x2⟩:=db hrow i hi
   refine⟨y,x1,l4 ?_ x2⟩
   have:=hfl i hi
   simpa[List.getD,hi] using this)
  refine⟨v,_,_,ej c.ρ id (some (blk,o,z)),he,⟨rfl,rfl⟩, ?_, ?_,fin _ ?_⟩
  ·rw[hHeq];exact p1
  ·rw[hHeq];exact p2
  ·rw[hHeq,VR]
   refine⟨.inr rfl,ad,cap,hvv,fun e' sz' d' es' he'=> ?_⟩
   simp only[iP,dI,Option.some.injEq,eR.row.injEq] at he'
   obtain⟨rfl,rfl,rfl,rfl⟩:=he'
   refine⟨by omega,fun _=> .inr ⟨blk,o,z,by simp[iP], ?_⟩⟩
   rcases hr3 with⟨h2,_,_⟩|⟨blk',o',z',h2,h3,h4,h5,h6⟩
   ·rw[hρ] at h2;cases h2
   ·rw[hρ] at h2;cases h2
    exact⟨h3,h4,h5,h6⟩
theorem cJ.QK {P:Program} {f:FuncId} {args args2:List AV} {e:TypeId} {sz:Nat} {es cs:List AV} (dY:l3 cs) (h:cJ P f args2 [] 0 (fun r1 H1 _=>∃b d0,r1= .dQ (.sl b es.length::cs)∧bt H1 b=some (.row e sz d0 es))) (hfl:∀i,i<es.length→fu (es.getD i .any)) {H:Hp} {nx:Nat} (ha:args.map (dV H 6)=args2) (hfa:cX 0 args2):
 cJ P f args H nx (fun r H' n=>r= .dQ (.sl nx es.length::cs)∧H'=(nx,some (.row e sz .any es))::H∧n=nx+1):=
 (jq.WM (h.UZ dY hfl .any ha hfa)).mono fun r H' n ⟨⟨h1,h2⟩,h3⟩=>⟨h1,h2,h3⟩
end Go.cY
namespace Go.Proofs.YtjopoheligmmoaaGreatDoor
open Go Go.cY Go.Proofs
set_option linter.unusedSimpArgs false
set_option linter.unusedVariables false
set_option maxRecDepth 8000
theorem C1 (l m:List Int) (hl:l.length * 8≤140737488351232) (hm:m.length * 8≤140737488351232):Pure Tryz.prog 44 [fR l,fR m] (fun r=>r=bl (decide (l=m))):=by
 refine aI NF rfl ?_
 unfold fR
 repeat' (first|((with_reducible refine aF ?_);conv=>whnf)|refine aG ?_|exact aC|with_reducible refine aD ?_ ?_|(apply aB;(·exact cO))|refine aH ?_|((with_reducible refine aA ?_ ?_)<;>intro hc<;>(try simp only[List.length_map,ne_eq,dY] at hc)<;>try(exfalso;omega)))
 ·refine ef (Eq.symm ?_)
  exact decide_eq_false fun e=>hc (by rw[e])
 ·have hlm:l.length=m.length:=by omega
  refine aL (fun i:Nat=>[(0,fR l),(1,fR m),(5,i64 i)])
   (fun i H n=>i≤l.length∧∀j,j<i→l.getD j 0=m.getD j 0) (fun i=>l.length - i) 0 cG ⟨Nat.zero_le _,fun _ h=>by omega⟩ ?_
  unfold fR
  rintro i H n ⟨hi,hall⟩
  by_cases hil:i<l.length
  ·have e1:=oW (l:=l) hil
   have e2:=oW (l:=m) (i:=i) (by omega)
   repeat' (first|((with_reducible refine aF ?_);conv=>whnf)|refine aG ?_|exact aC|with_reducible refine aD ?_ ?_|(apply aB;(·(first|exact e1 _|exact e2 _|exact cO)))|refine aH ?_|((with_reducible refine aA ?_ ?_)<;>intro hc<;>(try simp only[List.length_map,ne_eq,dY] at hc)<;>try(exfalso;omega)))
   ·refine ef (Eq.symm ?_)
    exact decide_eq_false fun e=>hc (by rw[e])
   ·refine⟨i+1,by omega,cG,by omega,fun j hj=> ?_⟩
    by_cases hji:j=i
    ·subst hji;exact hc
    ·exact hall j (by omega)
  ·have:i=l.length:=by omega
   subst this
   repeat' (first|((with_reducible refine aF ?_);conv=>whnf)|refine aG ?_|exact aC|with_reducible refine aD ?_ ?_|(apply aB;(·exact cO))|refine aH ?_|((with_reducible refine aA ?_ ?_)<;>intro hc<;>(try simp only[List.length_map,ne_eq,dY] at hc)<;>try(exfalso;omega)))
   refine ef (Eq.symm ?_)
   refine decide_eq_true (List.ext_getElem hlm fun j h1 h2=> ?_)
   have:=hall j h1
   simpa[List.getD,h1,h2] using this
theorem l8 (l m:List Int) (hl:l.length * 8≤140737488351232) (hm:m.length * 8≤140737488351232):Pure Tryz.prog 18 [cS l,cS m] (fun r=>r=bl (decide (l=m))):=by
 have c0:=C1 l m hl hm
 unfold fR at c0
 refine aI M3 rfl ?_
 refine cU ?_
 first|exact rfl|trivial
def W5 (k th nx o:Int):Node:=⟨k,0,0,th,⟨false,0,0⟩,⟨false,0,0⟩,nx,0,o⟩
def UM (name:List UInt8) (a b:Int):cE:=⟨⟨name.toArray⟩,0,0,[W5 5 a 1 0,W5 5 b 2 1,W5 6 b 3 2,W5 6 a 4 3,W5 9 0 0 4]⟩
def lX:bu:=⟨[],[⟨⟨(List.toArray [108])⟩,0,0⟩,⟨⟨(List.toArray [109])⟩,0,0⟩],[UM [97] 0 1,UM [98] 1 0]⟩
theorem LA:Pure Tryz.prog 47 [.sc (.string ⟨(List.toArray [97])⟩),i64 0,i64 1] (fun r=>r=(UM [97] 0 1).av):=
 kP (by simp[cL,cC]) (by kernel_rfl)
theorem LB:Pure Tryz.prog 47 [.sc (.string ⟨(List.toArray [98])⟩),i64 1,i64 0] (fun r=>r=(UM [98] 1 0).av):=
 kP (by simp[cL,cC]) (by kernel_rfl)
theorem oK:cZ lX:=jy.1 (by decide+kernel)
theorem xK:lX.Wf:=by
 have hd:∀d∈lX.cD,d.Wf:=fun d h=>by
  simp only[lX,List.mem_cons,List.not_mem_nil,or_false] at h
  rcases h with rfl|rfl<;>exact⟨by decide+kernel,by decide+kernel,by decide+kernel⟩
 refine⟨fun _ h=>by simp[lX] at h,by simp[lX],hd,by simp[lX],fun g hg=> ?_,by simp[lX]⟩
 simp only[lX,List.mem_cons,List.not_mem_nil,or_false] at hg
 rcases hg with rfl|rfl<;>
 ·refine⟨by decide+kernel,by decide+kernel,by decide+kernel,fun n hn=> ?_,by decide+kernel⟩
  simp only[UM,List.mem_cons,List.not_mem_nil,or_false] at hn
  rcases hn with rfl|rfl|rfl|rfl|rfl<;>
   exact⟨by decide+kernel,by decide+kernel,by decide+kernel,by decide+kernel,⟨by decide+kernel,by decide+kernel⟩,⟨by decide+kernel,by decide+kernel⟩,by decide+kernel,by decide+kernel,by decide+kernel⟩
theorem xJ:dH lX=[⟨0,1,0,1⟩,⟨1,0,1,1⟩]:=by decide+kernel
theorem QA:eh lX=fun h=>if h=0 then[1] else if h=1 then[0] else[]:=by
 funext h
 unfold eh
 rw[xJ]
 have e:jA [⟨0,1,0,1⟩,⟨1,0,1,1⟩] h=if h=0 then[1] else if h=1 then[0] else[]:=by
  unfold jA
  simp only[List.foldl_cons,List.foldl_nil]
  by_cases h0:h=0
  ·subst h0;simp
  ·by_cases h1:h=1
   ·subst h1;simp
   ·have e0:¬(0:Int)=h:=fun e=>h0 e.symm
    have e1:¬(1:Int)=h:=fun e=>h1 e.symm
    simp[h0,h1,e0,e1]
 rw[e]
 unfold eG
 split
 ·simp
 ·split<;>simp
theorem QB:lr lX=some [0,1]:=by
 unfold lr
 rw[QA]
 decide+kernel
theorem P9:EG lX (iG lX (du lX) [0,1])=some [0,1]:=by decide+kernel
def PI:List cT:=(gQ lX 99).getD []
theorem UN:gQ lX 99=some PI:=by
 have h:(gQ lX 99).isSome=true:=by decide+kernel
 unfold PI
 cases hs:gQ lX 99 with
 |none=>rw[hs] at h;cases h
 |some l=>rfl
def V9:cm:=⟨[],[],false⟩
theorem P8:∀e∈dO lX PI PI.length,e.ended=true∨e=V9:=by decide+kernel
theorem UO:V9∈dO lX PI PI.length:=by decide+kernel
theorem UP:jb PI (fH lX PI V9 PI.length)=[0,1]:=by decide+kernel
theorem DZ:eH lX 99=(0,PI):=by rw[oG oK (by decide),show(99:Int).toNat=99 from rfl,UN]
theorem N2 {u:bu} {l:List cT} {x:cm} (h:∀e∈dO u l l.length,e.ended=true∨e=x) (hx:x∈dO u l l.length) (hx2:x.ended=false):la (gn u l)=[x]:=by
 have h1:=(vd u l).filter fun e=> !e.ended
 change (la (gn u l)).Pairwise _ at h1
 have h2:∀e,e∈la (gn u l)↔e=x:=fun e=>by
  unfold la
  rw[List.mem_filter,tw]
  constructor
  ·rintro⟨q1,q2⟩
   rcases h e q1 with h3|h3
   ·rw[h3] at q2;cases q2
   ·exact h3
  ·rintro rfl
   exact⟨hx,by rw[hx2];rfl⟩
 cases hl:la (gn u l) with
 |nil=>exact absurd ((h2 x).2 rfl) (by rw[hl];simp)
 |cons a t=>
  rw[hl] at h1 h2
  have ha:=(h2 a).1 (by simp)
  subst ha
  cases t with
  |nil=>rfl
  |cons b t=>
   have hb:=(h2 b).1 (by simp)
   subst hb
   have:=(List.pairwise_cons.1 h1).1 b (by simp)
   rw[(jV.zero _ _).2 rfl] at this
   omega
theorem rY:fU lX 99=[V9]:=by
 unfold fU
 rw[DZ]
 rw[if_pos rfl]
 exact N2 P8 UO rfl
theorem QC:wU lX 99=[0,1]:=by
 unfold wU uu
 rw[rY]
 show pK lX 99 V9=[0,1]
 unfold pK
 rw[DZ]
 exact UP
end Go.Proofs.YtjopoheligmmoaaGreatDoor
end
section
/- What the laws begin with: the walk. -/
namespace Go.Proofs.YtjopoheligmmoaaGreatDoor
open Go Go.cY Go.Proofs
set_option linter.unusedSimpArgs false
set_option linter.unusedVariables false
set_option maxRecDepth 8000
abbrev K9:AV:= .agg [.sc (.slice none 0 0),cr lX.cD,dc lX.bx]
theorem rX (c:Cx):dR c c K9 lX.av:=cY.dR.agg (.cons (cY.dR.nF c c 3 .any) (.cons (fun _ h=>h) (.cons (fun _ h=>h) .nil)))
theorem TY (u:bu) (hu:u.Wf) (hr:cZ u):Pure Tryz.prog 15 [u.av] (fun r=>r= .dQ [cS ((lr u).getD []),bl (lr u).isSome,i64 0]):=by
 have key:Pure Tryz.prog 15 [u.av] (fun r=>r=match lr u with|none=> .dQ [.sc (.slice none 0 0),bl false,i64 0]|some w=> .dQ [cS w,bl true,i64 0]):=by
  refine dU ((JO u hu hr).mono ?_) (by split<;>simp[cL,cX,cC])
  intro r H n h
  unfold KK at h
  cases hq:lr u with
  |none=>rw[hq] at h;dsimp only at h ⊢;rw[h];rfl
  |some w=>
   rw[hq] at h
   obtain⟨b,d,rfl,hb⟩:=h
   show AV.dQ [cY.dV H 5 (.sl b w.length),bl true,i64 0]=_
   rw[df (k:=4) hb (by simp),cy _ ((cC _ _).2 fun _ _=>by simp[cL])]
 refine mm key (mP _ _ _) fun c=> ?_
 cases lr u with
 |none=>exact dR.dQ (.cons (dR.nF _ _ _ _) (.cons (fun _ h=>h) (.cons (fun _ h=>h) .nil)))
 |some w=>exact fun _ h=>h
theorem LD {H:Hp} {nx:Nat} {b:Nat} (hb:∃d,bt H b=some (.row 3 1 d [i64 0,i64 1])):cJ Tryz.prog 21 [K9, .sl b 2] H nx (fun r H' n=>r= .dQ [.sl nx 2,bl true,i64 0]∧H'=(nx,some (.row 3 1 .any [i64 0,i64 1]))::H∧n=nx+1):=by
 have h:=II lX xK oK [0,1] (by decide)
 have h2:=cJ.args (bs:=[K9,cS [0,1]]) h fun c=> .cons (rX c) (.cons (fun _ h=>h) .nil)
 obtain⟨d,hb⟩:=hb
 refine cJ.QK (es:=[i64 0,i64 1]) (cs:=[bl true,i64 0]) (args2:=[K9,cS [0,1]]) (by simp[l3]) (h2.mono ?_) ?_ ?_ ?_
 ·intro r H1 n1 hR
  unfold DO at hR
  rw[P9] at hR
  exact hR
 ·intro i hi
  match i,hi with
  |0,_=>trivial
  |1,_=>trivial
 ·show[cY.dV H 6 K9,cY.dV H 6 (.sl b [i64 0,i64 1].length)]=_
  rw[dv _ (show cL 0 K9 by simp[cL,cX,cC]),df (k:=5) hb rfl]
  rfl
 ·simp[cL,cX,cC]
theorem v8 {H:Hp} {b:Nat} {d:AV} (hb:bt H b=some (.row 3 1 d [i64 0,i64 1])):cY.dV H 6 (.sl b 2)=cS [0,1]:=by
 show cY.dV H 6 (.sl b [i64 0,i64 1].length)=_
 rw[df (k:=5) hb rfl]
 rfl
theorem A1 {H:Hp} {x y a b:AV} (h1:cY.dV H 6 x=a) (h2:cY.dV H 6 y=b):[x,y].map (cY.dV H 6)=[a,b]:=by
 subst h1 h2
 rfl
theorem D0 {H:Hp}:cY.dV H 6 (cS [0,1])=cS [0,1]:=dv _ (by simp[cL,cX,cC])
theorem wy:Pure Tryz.prog 20 [] (fun r=>r=bl true):=by
 have c0:Pure Tryz.prog 47 [.sc (.string ⟨⟨[⟨⟨⟨97,by decide⟩⟩⟩]⟩⟩),i64 0,i64 1] (fun r=>r=(UM [97] 0 1).av):=LA
 have c1:Pure Tryz.prog 47 [.sc (.string ⟨⟨[⟨⟨⟨98,by decide⟩⟩⟩]⟩⟩),i64 1,i64 0] (fun r=>r=(UM [98] 1 0).av):=LB
 refine dU ?_ (by simp[cL])
 refine ar M4 rfl ?_
 refine WL.cut ?_
 refine cU ?_
 refine⟨_,_,_,Rt.refl _ _ _,WL.cut ?_⟩
 refine cU ?_
 refine⟨[(1, .pt 6 1 0 0)],_,_,Rt.trans (Rt.wk (Wk.gk (cb:=6) (ja [3,4] _) 5 .any rfl fun b q hq=>qF hq)) (Rt.less cG),WL.last ?_⟩
 refine af (b:=6) (q:=some (.row 25 3 .any [K9])) rfl ?_
 intro H2 r3
 have c0:Pure Tryz.prog 13 [K9] (fun r=>r= .dQ [mL (dH lX),i64 0]):=Pure.args (nS lX xK oK) fun c=> .cons (rX c) .nil
 have c1:Pure Tryz.prog 15 [K9] (fun r=>r= .dQ [cS [0,1],bl true,i64 0]):=Pure.args (by have:=TY lX xK oK;rw[QB] at this;exact this) fun c=> .cons (rX c) .nil
 have c2:Pure Tryz.prog 25 [K9,i64 99] (fun r=>r= .dQ [cS [0,1],bl true,i64 0]):=Pure.args (by have:=ZH lX xK 99;rw[QC,rY,DZ] at this;exact this) fun c=> .cons (rX c) (.cons (fun _ h=>h) .nil)
 have c3:Pure Tryz.prog 23 [K9,i64 99] (fun r=>r= .dQ [iN [V9],i64 0]):=Pure.args (by have:=wS lX xK 99;rw[rY,DZ] at this;exact this) fun c=> .cons (rX c) (.cons (fun _ h=>h) .nil)
 refine cU ?_
 refine aJ (LD ⟨_,bw⟩) ?_
 rintro _ H3 n3 ⟨rfl,rfl,rfl⟩
 rw[xJ]
 refine cU ?_
 refine aS (args2:=[cS [0,1],cS [0,1]]) (l8 [0,1] [0,1] (by decide) (by decide)) (A1 D0 (v8 bw)) (by simp[cX,cL,cC]) trivial ?_
 refine cU ?_
 refine aS (args2:=[cS [0,1],cS [0,1]]) (l8 [0,1] [0,1] (by decide) (by decide)) (A1 (v8 bw) (v8 bw)) (by simp[cX,cL,cC]) trivial ?_
 refine cU ?_
 refine aS (args2:=[cS [0,1],cS [0,1]]) (l8 [0,1] [0,1] (by decide) (by decide)) (A1 D0 (v8 bw)) (by simp[cX,cL,cC]) trivial ?_
 refine cU ?_
 first|exact rfl|exact⟨rfl⟩|trivial
end Go.Proofs.YtjopoheligmmoaaGreatDoor
end
section
/- What is so of the ring that is told. -/
namespace Go.Proofs.YtjopoheligmmoaaGreatDoor
open Go Go.cY Go.Proofs
set_option linter.unusedSimpArgs false
set_option linter.unusedVariables false
structure T6 (u:bu) (w:List Int):Prop where
 pos:0<w.length
 on:∀i,i<w.length→∃e∈dH u,e.held=w.getD i 0∧e.taken=w.getD ((i+1)%w.length) 0
 self:1<w.length→∀e∈dH u,e.held≠e.taken
 nd:w.Nodup
 least:∀i,i<w.length→w.getD 0 0≤w.getD i 0
 ZW:∀x∈w,0≤x∧x<u.cD.length
theorem SK {u:bu} (hr:cZ u) {w:List Int} (h:lr u=some w):T6 u w:=by
 unfold lr at h
 obtain⟨f,h1,h2,h3⟩:=jx h
 have hin:∀x,∀y∈eh u x,0≤y∧y<(u.cD.length:Int):=fun x=>xq hr x
 obtain⟨p1,p2,p3,p4,p5⟩:=(lU (lead:=eh u) (n:=u.cD.length) (first:=(f:Int)) hin (by omega)).1 w h2
 have key:∀c,qa (eh u) c→0≤c.getD 0 0→c.getD 0 0<u.cD.length→w.length≤c.length∧(c.length≤w.length→(f:Int)≤c.getD 0 0):=fun c hc c0 c1=>by
  obtain⟨g,hg⟩:∃g:Nat,c.getD 0 0=g:=⟨(c.getD 0 0).toNat,by omega⟩
  have hs:=lU (lead:=eh u) (n:=u.cD.length) (first:=(g:Int)) hin (by omega)
  cases hb:pX (eh u) u.cD.length (g:Int) with
  |none=>exact absurd hg (hs.2 hb c hc)
  |some l=>
   have q1:=(hs.1 l hb).2.2.2.2 c hc hg
   have q2:=h3 g (by omega) l hb
   exact⟨by omega,fun hle=>by have:=q2.2 (by omega);omega⟩
 refine⟨p2.pos,fun i hi=> ?_,fun hlt e he hself=> ?_,p3,fun i hi=> ?_,p4⟩
 ·obtain⟨e,e1,e2,e3⟩:=pg.1 (p2.on i hi)
  exact⟨e,e1,e2,e3⟩
 ·have hin:=(rf hr he).1
  have hc:qa (eh u) [e.held]:=⟨by simp,fun i hi=>by
   have:i=0:=by simp at hi;omega
   subst this
   exact pg.2 ⟨e,he,rfl,by simpa using hself.symm⟩⟩
  have:=(key _ hc (by simpa using hin.1) (by simpa using hin.2)).1
  simp at this
  omega
 ·obtain⟨d,d1,d2,d3⟩:=p2.gh hi
  have hm:=p4 _ (cR 0 hi)
  have:=(key d d1 (by rw[d2];exact hm.1) (by rw[d2];exact hm.2)).2 (by omega)
  rw[d2] at this
  rw[p1];exact this
end Go.Proofs.YtjopoheligmmoaaGreatDoor
end
section
/- A ring is one: the law's walk. -/
namespace Go.Proofs.YtjopoheligmmoaaGreatDoor
open Go Go.cY Go.Proofs
set_option linter.unusedSimpArgs false
set_option linter.unusedVariables false
set_option maxRecDepth 8000
theorem QH {E:List eA} {j:Nat} (h:j<E.length) (d:AV):(E.map eA.av).getD j d=(E.getD j default).av:=cz eA.av E j d h
def B5 (E:List eA) (a b:Int) (j:Nat):Bool:=(E.take j).any fun e=>decide (e.held=a)&&decide (e.taken=b)
theorem I6 {E:List eA} {a b:Int} {j:Nat} (h:j<E.length):B5 E a b (j+1)=(B5 E a b j||(decide ((E.getD j default).held=a)&&decide ((E.getD j default).taken=b))):=by
 unfold B5
 rw[List.take_add_one,List.any_append]
 simp[List.getD,h]
theorem N7 {E:List eA} {a b:Int} (h:∃e∈E,e.held=a∧e.taken=b):B5 E a b E.length=true:=by
 obtain⟨e,h1,h2,h3⟩:=h
 unfold B5
 rw[List.take_length,List.any_eq_true]
 exact⟨e,h1,by rw[h2,h3];simp⟩
theorem OP (u:bu) (hu:u.Wf) (hr:¬cZ u):Pure Tryz.prog 15 [u.av] (fun r=>r= .dQ [.sc (.slice none 0 0),bl false,i64 60]):=
 dU ((OR u hu hr).mono fun r H n h=>by rw[h];rfl) (by simp[cL,cX])
set_option maxHeartbeats 4000000 in
theorem wM (u:bu) (hu:u.Wf):Pure Tryz.prog 10 [u.av] (fun r=>r=bl true):=by
 have c0:=wy
 by_cases hr:cZ u
 ·have c1:=TY u hu hr
  have c2:=nS u hu hr
  have hfe:=uJ (dH u)
  have hel:=mM hr (m:=u.bx.length) (Nat.le_refl _)
  have hle:(dH u).length≤65536 * 8:=by
   have:=hr.qO.2.2
   unfold dH;omega
  cases hq:lr u with
  |none=>
   rw[hq] at c1
   dsimp only[Option.getD,Option.isSome] at c1
   refine aI BY rfl ?_
   refine cU ?_
   first|exact rfl|trivial
  |some w=>
   rw[hq] at c1
   dsimp only[Option.getD,Option.isSome] at c1
   have ok:=SK hr hq
   have hp:=ok.pos
   have hwl:w.length≤16:=Nat.le_trans (gB _ _ ok.nd ok.ZW) hr.qO.2.1
   refine aI BY rfl ?_
   refine cU ?_
   clear c0 c1 c2
   have hnd:=ok.nd
   have hon:=ok.on
   have hself:=ok.self
   have hleast:=ok.least
   generalize dH u=E at *
   refine aL (fun i:Nat=>[(3,cS w),(6,mL E),(8,i64 i)]) (fun i H n=>i≤w.length) (fun i=>w.length - i) 0 cG (Nat.zero_le _) ?_
   have a0:(w.map i64).length=w.length:=List.length_map _
   have a1:(E.map eA.av).length=E.length:=List.length_map _
   rintro i H n hi
   by_cases hil:i<w.length
   ·have e0:∀d,(w.map i64).getD ((i:Int)).toNat d=i64 (w.getD i 0):=fun d=>by rw[Int.toNat_natCast];exact cz i64 w i d hil
    have hml:(i+1)%w.length<w.length:=Nat.mod_lt _ hp
    have hrem:((i:Int)+1).tmod (w.length:Int)=(((i+1)%w.length:Nat):Int):=by
     rw[show(i:Int)+1=((i+1:Nat):Int) by omega]
     exact(Int.ofNat_tmod _ _).symm
    have e1:∀d,(w.map i64).getD (((i:Int)+1).tmod (w.length:Int)).toNat d=i64 (w.getD ((i+1)%w.length) 0):=fun d=>by rw[hrem,Int.toNat_natCast];exact cz i64 w _ d hml
    have hmet:=N7 (hon i hil)
    refine cU ?_
    refine aL (fun j:Nat=>[(3,cS w),(6,mL E),(8,i64 i),(9,bl (B5 E (w.getD i 0) (w.getD ((i+1)%w.length) 0) j)),(10,i64 j)]) (fun j H n=>j≤E.length) (fun j=>E.length - j) 0 cG (Nat.zero_le _) ?_
    rintro j H2 n2 hj
    by_cases hjl:j<E.length
    ·have e2:∀d,(E.map eA.av).getD ((j:Int)).toNat d=(E.getD j default).av:=fun d=>by rw[Int.toNat_natCast];exact QH hjl d
     have hs:=fun h=>hself h _ (cR default hjl)
     have hnext:=I6 (a:=w.getD i 0) (b:=w.getD ((i+1)%w.length) 0) hjl
     have done:∀{b c:Bool},b=c→bl b=bl c:=fun h=>by rw[h]
     cases hb:B5 E (w.getD i 0) (w.getD ((i+1)%w.length) 0) j with
     |true=>
      rw[hb,Bool.true_or] at hnext
      refine cU ?_
      refine⟨j+1,by omega,by rw[hnext];exact cG,by omega⟩
     |false=>
      rw[hb,Bool.false_or] at hnext
      by_cases h1:(E.getD j default).held=w.getD i 0
      ·have r0:=decide_eq_true h1
       by_cases h2:(E.getD j default).taken=w.getD ((i+1)%w.length) 0
       ·have q1:=decide_eq_true h2
        have r1:decide ((E.getD j default).taken=w.getD (((i:Int)+1).tmod ((w.map i64).length:Int)).toNat default)=true:=by rw[a0,hrem,Int.toNat_natCast];exact q1
        rw[r0,q1,show(true&&true)=true from rfl] at hnext
        refine cU ?_
        refine⟨j+1,by omega,by rw[hnext];exact cG,by omega⟩
       ·have q1:=decide_eq_false h2
        have r1:decide ((E.getD j default).taken=w.getD (((i:Int)+1).tmod ((w.map i64).length:Int)).toNat default)=false:=by rw[a0,hrem,Int.toNat_natCast];exact q1
        rw[r0,q1,show(true&&false)=false from rfl] at hnext
        refine cU ?_
        refine⟨j+1,by omega,by rw[hnext];exact cG,by omega⟩
      ·have r0:=decide_eq_false h1
       rw[r0,Bool.false_and] at hnext
       refine cU ?_
       refine⟨j+1,by omega,by rw[hnext];exact cG,by omega⟩
    ·obtain rfl:j=E.length:=by omega
     rw[hmet]
     refine cU ?_
     refine aL (fun k:Nat=>[(3,cS w),(6,mL E),(8,i64 i),(9,bl true),(11,i64 k)]) (fun k H n=>k≤i) (fun k=>i - k) 0 cG (Nat.zero_le _) ?_
     rintro k H3 n3 hk
     by_cases hki:k<i
     ·have e2:∀d,(w.map i64).getD ((k:Int)).toNat d=i64 (w.getD k 0):=fun d=>by rw[Int.toNat_natCast];exact cz i64 w k d (by omega)
      have r0:decide (w.getD k 0≠w.getD i 0)=true:=decide_eq_true fun e=>by have:=zV hnd (by omega) hil e;omega
      refine cU ?_
      refine⟨k+1,by omega,cG,by omega⟩
     ·obtain rfl:k=i:=by omega
      have e2:∀d,(w.map i64).getD (0:Int).toNat d=i64 (w.getD 0 0):=fun d=>cz i64 w 0 d hp
      have r0:decide (w.getD k 0<w.getD 0 0)=false:=decide_eq_false (by have:=hleast k hil;omega)
      refine cU ?_
      refine⟨k+1,by omega,cG,by omega⟩
   ·obtain rfl:i=w.length:=by omega
    refine cU ?_
    first|exact rfl|exact ef (decide_eq_true (by omega))|trivial
 ·have c1:=OP u hu hr
  have c2:=tu u hu hr
  refine aI BY rfl ?_
  refine cU ?_
  first|exact rfl|trivial
end Go.Proofs.YtjopoheligmmoaaGreatDoor
end
section
/- A ring is one: for every unit. No conditions beyond the card's own. -/
namespace Go.Proofs.YtjopoheligmmoaaGreatDoor
open Go Go.cY Go.Proofs Go.RowKit Go.ChangeShapes Go.WideShapes Go.ChangeAt
set_option linter.unusedSimpArgs false
set_option linter.unusedVariables false
set_option maxRecDepth 100000 in
theorem qD (os:Os) (started:os.Started) (H:Type) (enc:TypeId×Value→H):
 ReturnsInHanded {} Tryz.checked os 10 .any (fun w args=>(Rows.stuckRingSpec.pre enc Tryz.prog Tryz.f10 [] false w args∧laidMetH Tryz.prog xo w)∧sizedMet enc Tryz.prog Tryz.f10 (OpenSpec.ofChange Rows.stuckRingSpec) false w args) (Rows.stuckRingSpec.post enc Tryz.prog Tryz.f10 false true false false):=by
 refine returnsInHanded_of_change_and (C:=Tryz.checked) (X:=fun w _=>laidMetH Tryz.prog xo w) (fun _ _ _ hh h=>h.of_heap hh) own started (by kernel_rfl) Tryz.func10
  (ChangeSpec.witness_shaped (enc:=enc) (C:=Tryz.checked) (os:=os) (X:=fun w _=>laidMetH Tryz.prog xo w) false (World.doorLaid Tryz.prog 400 os) #[.agg #[.slice none 0 0, .slice none 0 0, .slice none 0 0]] 8 rfl (World.shaped_of_RefB (by kernel_rfl) (by kernel_rfl)) (by kernel_rfl) (by kernel_rfl) (by kernel_rfl) (LJ os _)) ?_
 intro W base args ds gs before hval hW _ hr hL _
 refine vr (ts:=[25]) (tb:=4) laidOut (by kernel_rfl) rfl Tryz.underlying4 (by kernel_rfl) (fun ds h=> ?_) (fun t ht=> ?_)
  (tL (ag:=true) (by kernel_rfl) CI (fun h=>by cases h) wC)
  (fun a h=> ?_) hval hW hr (SC hL)
 ·match ds,h with
  |[d0],_=>rfl
 ·have:∀t∈[25],Tryz.prog.readableRec t=true∧t<Tryz.prog.types.size:=by
   simp only[List.forall_mem_cons]
   refine⟨⟨by kernel_rfl,of_decide_eq_true (by kernel_rfl)⟩,by simp⟩
  exact this t ht
 ·exact wM a.1 h.1
theorem tQ:Rows.StuckRingSaid:=
 OpenClaim.holds_of_wide 10 Tryz.f10 rfl rfl rfl rfl rfl rfl rfl ⟨rfl,rfl,rfl,rfl,rfl⟩ rfl rfl rfl rfl rfl (by kernel_rfl) Tryz.func10 (by kernel_rfl)
  (of_decide_eq_true (by kernel_rfl)) (by unfold Func.isWrapper;first|(rw[if_pos (by decide+kernel)];kernel_rfl)|(rw[if_neg (by decide+kernel)];exact⟨rfl,rfl⟩))
  (fun os started H enc _=>qD os started H enc)
set_option maxRecDepth 100000 in
theorem stuckRing_holds:Rows.StuckRingCardSaid:=
 Claim7.holds_tied_plain_at .later [] [.data] true (true, "14b4af768aa3e6a8dd3f17bcbe4400c6eab11aaff17ef5f81a71be15f13cfe4e") false
  tQ (fun _ h=>by cases h) (by kernel_rfl) (fun _ h=>by cases h) stuckRing_row_tie rfl ⟨rfl,rfl⟩ (by kernel_rfl) rfl
  (fun f fn hf hfn=>by
   obtain rfl:f=10:=Option.some.inj ((show Tryz.prog.funcNamed "stile/stilelaw24.StuckRing" =some 10 by kernel_rfl).symm.trans hf)|>.symm
   obtain rfl:fn=Tryz.f10:=(Option.some.inj (Tryz.func10.symm.trans hfn)).symm
   exact⟨by kernel_rfl,fun j t ht=>by
    rw[show Tryz.f10.params=#[25] by kernel_rfl] at ht
    have hm:t∈[25]:=by simpa using Array.mem_of_getElem? ht
    have hall:([25].all fun u=> !Tryz.prog.wantsStandIn u)=true:=by kernel_rfl
    exact(show Tryz.prog.wantsStandIn t=false by simpa using List.all_eq_true.1 hall t hm)⟩)
  (by kernel_rfl)
end Go.Proofs.YtjopoheligmmoaaGreatDoor
end
