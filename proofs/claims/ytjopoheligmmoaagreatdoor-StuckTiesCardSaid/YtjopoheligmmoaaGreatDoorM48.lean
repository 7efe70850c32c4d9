import Derived.Test.YtjopoheligmmoaaGreatDoorM47
import Derived.Test.YtjopoheligmmoaaGreatDoorM23
import Derived.Test.YtjopoheligmmoaaGreatDoorM38
import Derived.Test.YtjopoheligmmoaaGreatDoorM41
section
/- What the laws begin with: two threads that cross. -/
namespace Go.cY
open Go.RowKit
set_option linter.unusedSimpArgs false
set_option linter.unusedVariables false
theorem cJ.VN {P:Program} {f:FuncId} {args args2:List AV} {e:TypeId} {sz:Nat} {es cs:List AV} (da:lp cs) (h:cJ P f args2 [] 0 (fun r1 H1 _=>∃b d0,r1= .dP (.sl b es.length::cs)∧bt H1 b=some (.row e sz d0 es))) (hfl:∀i,i<es.length→gA (es.getD i .any)) (d:AV) {H:Hp} {id:Nat} (ha:args.map (dX H 6)=args2) (hfa:cZ 0 args2):
 jz P f args H id (fun r' H''=>r'= .dP (.sl id es.length::cs)∧H''=dC H (some (id, .row e sz d es))):=by
 refine⟨h.1,fun w0 c vs hS hH hid hv=> ?_⟩
 have hS0:dY c.w ⟨fun _=>none,bt [],fun _=>False,c.w,c.M0⟩:=⟨Below.refl _ _,hS.jr,fun b e sz d es he=>by simp[bt] at he,fun b b' k k' blk o z o' z' hk=>by simp[bt] at hk⟩
 subst ha
 have hv':cd ⟨fun _=>none,bt [],fun _=>False,c.w,c.M0⟩ (args.map (dX H 6)) vs:=kK hS hH hfa hv
 refine(h.2 c.w _ vs hS0 rfl (fun _ h=>h.elim) hv').mono ?_
 rintro en w' ⟨v,r1,H1,nx',ρ,U,he,⟨b,d0,rfl,hb⟩,hU,hS',_,hvr⟩
 rw[VR] at hvr
 obtain⟨us,hus,hvr⟩:=hvr
 rw[cd] at hvr
 obtain⟨x,v3,hx3,hvr,hv3⟩:=hvr
 rw[VR] at hvr
 obtain⟨_,ad,cap,hvv,hrr⟩:=hvr
 obtain⟨_,hr2⟩:=hrr _ _ _ _ hb
 have hr3:=hr2 rfl
 obtain⟨_,hz,hor⟩:=hS'.jU b _ _ _ _ hb (sx hr3)
 have hbel:=hS'.below
 obtain⟨s1,s2⟩:=hS.world hbel
 have hHeq:bt (dC H (some (id, .row e sz d es)))=eu c.H id (some (.row e sz d es)):=by rw[dU,hH]
 have fin:∀c2:Cx,VR c2 (.sl id es.length) x→VR c2 (.dP (.sl id es.length::cs)) v:=fun c2 h2=>by
  rw[VR]
  refine⟨us,hus, ?_⟩
  rw[hx3,cd]
  exact⟨x,v3,rfl,h2,mZ da hv3⟩
 rcases hor with⟨h0,hes⟩|⟨blk,o,z,hρ,hlow,⟨arr,harr,hsz⟩,hlz,hrow⟩
 ·subst hes
  obtain⟨p1,p2⟩:=s1.JW (b:=id) (e:=e) (sz:=sz) d hz hid
  refine⟨v,_,_,eu c.ρ id none,he,⟨rfl,rfl⟩, ?_, ?_,fin _ ?_⟩
  ·rw[hHeq];exact p1
  ·rw[hHeq];exact s2.trans p2
  ·rw[hHeq,VR]
   refine⟨.inr rfl,ad,cap,hvv,fun e' sz' d' es' he'=> ?_⟩
   simp only[iT,dJ,Option.some.injEq,eT.row.injEq] at he'
   obtain⟨rfl,rfl,rfl,rfl⟩:=he'
   refine⟨Nat.le_refl _,fun _=> .inl ⟨by simp[iT], ?_⟩⟩
   rcases hr3 with⟨_,h2,h3⟩|⟨blk,o,z,h2,_⟩
   ·exact⟨h2,h3⟩
   ·rw[h0] at h2;cases h2
 ·obtain⟨p1,p2⟩:=hS.pI (b:=id) (e:=e) (sz:=sz) d (es:=es) (w':=w') (blk:=blk) (o:=o) (z:=z) hz (.inl hid) (.inl hlow) hbel.os hbel.tape hbel.output hbel.size (fun k hk _=>hbel.block k hk) harr hsz hlz (fun hle i hi=>by
   obtain⟨y,x1,x2⟩:=dc hrow i hi
   refine⟨y,x1,lq ?_ x2⟩
   have:=hfl i hi
   simpa[List.getD,hi] using this)
  refine⟨v,_,_,eu c.ρ id (some (blk,o,z)),he,⟨rfl,rfl⟩, ?_, ?_,fin _ ?_⟩
  ·rw[hHeq];exact p1
  ·rw[hHeq];exact p2
  ·rw[hHeq,VR]
   refine⟨.inr rfl,ad,cap,hvv,fun e' sz' d' es' he'=> ?_⟩
   simp only[iT,dJ,Option.some.injEq,eT.row.injEq] at he'
   obtain⟨rfl,rfl,rfl,rfl⟩:=he'
   refine⟨by omega,fun _=> .inr ⟨blk,o,z,by simp[iT], ?_⟩⟩
   rcases hr3 with⟨h2,_,_⟩|⟨blk',o',z',h2,h3,h4,h5,h6⟩
   ·rw[hρ] at h2;cases h2
   ·rw[hρ] at h2;cases h2
    exact⟨h3,h4,h5,h6⟩
theorem cJ.Q6 {P:Program} {f:FuncId} {args args2:List AV} {e:TypeId} {sz:Nat} {es cs:List AV} (da:lp cs) (h:cJ P f args2 [] 0 (fun r1 H1 _=>∃b d0,r1= .dP (.sl b es.length::cs)∧bt H1 b=some (.row e sz d0 es))) (hfl:∀i,i<es.length→gA (es.getD i .any)) {H:Hp} {nx:Nat} (ha:args.map (dX H 6)=args2) (hfa:cZ 0 args2):
 cJ P f args H nx (fun r H' n=>r= .dP (.sl nx es.length::cs)∧H'=(nx,some (.row e sz .any es))::H∧n=nx+1):=
 (jz.W9 (h.VN da hfl .any ha hfa)).mono fun r H' n ⟨⟨h1,h2⟩,h3⟩=>⟨h1,h2,h3⟩
end Go.cY
namespace Go.Proofs.YtjopoheligmmoaaGreatDoor
open Go Go.cY Go.Proofs
set_option linter.unusedSimpArgs false
set_option linter.unusedVariables false
set_option maxRecDepth 8000
theorem DG (l m:List Int) (hl:l.length * 8≤140737488351232) (hm:m.length * 8≤140737488351232):Pure Tryz.prog 44 [fV l,fV m] (fun r=>r=bl (decide (l=m))):=by
 refine aI N3 rfl ?_
 unfold fV
 repeat' (first|((with_reducible refine aF ?_);conv=>whnf)|refine aG ?_|exact aC|with_reducible refine aD ?_ ?_|(apply aB;(·exact cR))|refine aH ?_|((with_reducible refine aA ?_ ?_)<;>intro hc<;>(try simp only[List.length_map,ne_eq,da] at hc)<;>try(exfalso;omega)))
 ·refine fA (Eq.symm ?_)
  exact decide_eq_false fun e=>hc (by rw[e])
 ·have hlm:l.length=m.length:=by omega
  refine aM (fun i:Nat=>[(0,fV l),(1,fV m),(5,i64 i)])
   (fun i H n=>i≤l.length∧∀j,j<i→l.getD j 0=m.getD j 0) (fun i=>l.length - i) 0 cH ⟨Nat.zero_le _,fun _ h=>by omega⟩ ?_
  unfold fV
  rintro i H n ⟨hi,hall⟩
  by_cases hil:i<l.length
  ·have e1:=oj (l:=l) hil
   have e2:=oj (l:=m) (i:=i) (by omega)
   repeat' (first|((with_reducible refine aF ?_);conv=>whnf)|refine aG ?_|exact aC|with_reducible refine aD ?_ ?_|(apply aB;(·(first|exact e1 _|exact e2 _|exact cR)))|refine aH ?_|((with_reducible refine aA ?_ ?_)<;>intro hc<;>(try simp only[List.length_map,ne_eq,da] at hc)<;>try(exfalso;omega)))
   ·refine fA (Eq.symm ?_)
    exact decide_eq_false fun e=>hc (by rw[e])
   ·refine⟨i+1,by omega,cH,by omega,fun j hj=> ?_⟩
    by_cases hji:j=i
    ·subst hji;exact hc
    ·exact hall j (by omega)
  ·have:i=l.length:=by omega
   subst this
   repeat' (first|((with_reducible refine aF ?_);conv=>whnf)|refine aG ?_|exact aC|with_reducible refine aD ?_ ?_|(apply aB;(·exact cR))|refine aH ?_|((with_reducible refine aA ?_ ?_)<;>intro hc<;>(try simp only[List.length_map,ne_eq,da] at hc)<;>try(exfalso;omega)))
   refine fA (Eq.symm ?_)
   refine decide_eq_true (List.ext_getElem hlm fun j h1 h2=> ?_)
   have:=hall j h1
   simpa[List.getD,h1,h2] using this
theorem lz (l m:List Int) (hl:l.length * 8≤140737488351232) (hm:m.length * 8≤140737488351232):Pure Tryz.prog 18 [cO l,cO m] (fun r=>r=bl (decide (l=m))):=by
 have c0:=DG l m hl hm
 unfold fV at c0
 refine aI NT rfl ?_
 refine cU ?_
 first|exact rfl|trivial
def XO (k th nx o:Int):Node:=⟨k,0,0,th,⟨false,0,0⟩,⟨false,0,0⟩,nx,0,o⟩
def VB (name:List UInt8) (a b:Int):cD:=⟨⟨name.toArray⟩,0,0,[XO 5 a 1 0,XO 5 b 2 1,XO 6 b 3 2,XO 6 a 4 3,XO 9 0 0 4]⟩
def lj:bw:=⟨[],[⟨⟨(List.toArray [108])⟩,0,0⟩,⟨⟨(List.toArray [109])⟩,0,0⟩],[VB [97] 0 1,VB [98] 1 0]⟩
theorem LZ:Pure Tryz.prog 47 [.sc (.string ⟨(List.toArray [97])⟩),i64 0,i64 1] (fun r=>r=(VB [97] 0 1).av):=
 kY (by simp[cK,cC]) (by kernel_rfl)
theorem L0:Pure Tryz.prog 47 [.sc (.string ⟨(List.toArray [98])⟩),i64 1,i64 0] (fun r=>r=(VB [98] 1 0).av):=
 kY (by simp[cK,cC]) (by kernel_rfl)
theorem oT:cT lj:=kG.1 (by decide+kernel)
theorem xX:lj.Wf:=by
 have hd:∀d∈lj.cE,d.Wf:=fun d h=>by
  simp only[lj,List.mem_cons,List.not_mem_nil,or_false] at h
  rcases h with rfl|rfl<;>exact⟨by decide+kernel,by decide+kernel,by decide+kernel⟩
 refine⟨fun _ h=>by simp[lj] at h,by simp[lj],hd,by simp[lj],fun g hg=> ?_,by simp[lj]⟩
 simp only[lj,List.mem_cons,List.not_mem_nil,or_false] at hg
 rcases hg with rfl|rfl<;>
 ·refine⟨by decide+kernel,by decide+kernel,by decide+kernel,fun n hn=> ?_,by decide+kernel⟩
  simp only[VB,List.mem_cons,List.not_mem_nil,or_false] at hn
  rcases hn with rfl|rfl|rfl|rfl|rfl<;>
   exact⟨by decide+kernel,by decide+kernel,by decide+kernel,by decide+kernel,⟨by decide+kernel,by decide+kernel⟩,⟨by decide+kernel,by decide+kernel⟩,by decide+kernel,by decide+kernel,by decide+kernel⟩
theorem xW:cq lj=[⟨0,1,0,1⟩,⟨1,0,1,1⟩]:=by decide+kernel
theorem QW:fb lj=fun h=>if h=0 then[1] else if h=1 then[0] else[]:=by
 funext h
 unfold fb
 rw[xW]
 have e:jE [⟨0,1,0,1⟩,⟨1,0,1,1⟩] h=if h=0 then[1] else if h=1 then[0] else[]:=by
  unfold jE
  simp only[List.foldl_cons,List.foldl_nil]
  by_cases h0:h=0
  ·subst h0;simp
  ·by_cases h1:h=1
   ·subst h1;simp
   ·have e0:¬(0:Int)=h:=fun e=>h0 e.symm
    have e1:¬(1:Int)=h:=fun e=>h1 e.symm
    simp[h0,h1,e0,e1]
 rw[e]
 unfold eG
 split
 ·simp
 ·split<;>simp
theorem QX:qg lj=some [0,1]:=by
 unfold qg
 rw[QW]
 decide+kernel
theorem QV:jM lj (eV lj (dR lj) [0,1])=some [0,1]:=by decide+kernel
def P5:List cV:=(gU lj 99).getD []
theorem VC:gU lj 99=some P5:=by
 have h:(gU lj 99).isSome=true:=by decide+kernel
 unfold P5
 cases hs:gU lj 99 with
 |none=>rw[hs] at h;cases h
 |some l=>rfl
def W1:cm:=⟨[],[],false⟩
theorem QU:∀e∈dS lj P5 P5.length,e.ended=true∨e=W1:=by decide+kernel
theorem VD:W1∈dS lj P5 P5.length:=by decide+kernel
theorem VE:jh P5 (fM lj P5 W1 P5.length)=[0,1]:=by decide+kernel
theorem EE:eH lj 99=(0,P5):=by rw[oO oT (by decide),show(99:Int).toNat=99 from rfl,VC]
theorem OQ {u:bw} {l:List cV} {x:cm} (h:∀e∈dS u l l.length,e.ended=true∨e=x) (hx:x∈dS u l l.length) (hx2:x.ended=false):mA (gq u l)=[x]:=by
 have h1:=(vt u l).filter fun e=> !e.ended
 change (mA (gq u l)).Pairwise _ at h1
 have h2:∀e,e∈mA (gq u l)↔e=x:=fun e=>by
  unfold mA
  rw[List.mem_filter,uL]
  constructor
  ·rintro⟨q1,q2⟩
   rcases h e q1 with h3|h3
   ·rw[h3] at q2;cases q2
   ·exact h3
  ·rintro rfl
   exact⟨hx,by rw[hx2];rfl⟩
 cases hl:mA (gq u l) with
 |nil=>exact absurd ((h2 x).2 rfl) (by rw[hl];simp)
 |cons a t=>
  rw[hl] at h1 h2
  have ha:=(h2 a).1 (by simp)
  subst ha
  cases t with
  |nil=>rfl
  |cons b t=>
   have hb:=(h2 b).1 (by simp)
   subst hb
   have:=(List.pairwise_cons.1 h1).1 b (by simp)
   rw[(j0.zero _ _).2 rfl] at this
   omega
theorem rv:fY lj 99=[W1]:=by
 unfold fY
 rw[EE]
 rw[if_pos rfl]
 exact OQ QU VD rfl
theorem QY:w9 lj 99=[0,1]:=by
 unfold w9 vJ
 rw[rv]
 show pU lj 99 W1=[0,1]
 unfold pU
 rw[EE]
 exact VE
end Go.Proofs.YtjopoheligmmoaaGreatDoor
end
section
/- What the laws begin with: the walk. -/
namespace Go.Proofs.YtjopoheligmmoaaGreatDoor
open Go Go.cY Go.Proofs
set_option linter.unusedSimpArgs false
set_option linter.unusedVariables false
set_option maxRecDepth 8000
abbrev LY:AV:= .agg [.sc (.slice none 0 0),ct lj.cE,de lj.bu]
theorem ru (c:Cx):dO c c LY lj.av:=cY.dO.agg (.cons (cY.dO.lW c c 3 .any) (.cons (fun _ h=>h) (.cons (fun _ h=>h) .nil)))
theorem YF (u:bw) (hu:u.Wf) (hr:cT u):Pure Tryz.prog 15 [u.av] (fun r=>r= .dP [cO ((qg u).getD []),bl (qg u).isSome,i64 0]):=by
 have key:Pure Tryz.prog 15 [u.av] (fun r=>r=match qg u with|none=> .dP [.sc (.slice none 0 0),bl false,i64 0]|some w=> .dP [cO w,bl true,i64 0]):=by
  refine dD ((J1 u hu hr).mono ?_) (by split<;>simp[cK,cZ,cC])
  intro r H n h
  unfold K0 at h
  cases hq:qg u with
  |none=>rw[hq] at h;dsimp only at h ⊢;rw[h];rfl
  |some w=>
   rw[hq] at h
   obtain⟨b,d,rfl,hb⟩:=h
   show AV.dP [cY.dX H 5 (.sl b w.length),bl true,i64 0]=_
   rw[dh (k:=4) hb (by simp),cy _ ((cC _ _).2 fun _ _=>by simp[cK])]
 refine iD key (iA _ _ _) fun c=> ?_
 cases qg u with
 |none=>exact dO.dP (.cons (dO.lW _ _ _ _) (.cons (fun _ h=>h) (.cons (fun _ h=>h) .nil)))
 |some w=>exact fun _ h=>h
theorem X5 (u:bw) (hu:u.Wf) (hr:cT u) (w:List Int) (hw:w.length≤1048576):Pure Tryz.prog 21 [u.av,cO w] (fun r=>r= .dP [cO ((jM u (eV u (dR u) w)).getD []),bl (jM u (eV u (dR u) w)).isSome,i64 0]):=by
 have key:Pure Tryz.prog 21 [u.av,cO w] (fun r=>r=match jM u (eV u (dR u) w) with|none=> .dP [.sc (.slice none 0 0),bl false,i64 0]|some w=> .dP [cO w,bl true,i64 0]):=by
  refine dD ((ug u hu hr w hw).mono ?_) (by split<;>simp[cK,cZ,cC])
  intro r H n h
  unfold wu at h
  cases hq:jM u (eV u (dR u) w) with
  |none=>rw[hq] at h;dsimp only at h ⊢;rw[h];rfl
  |some w=>
   rw[hq] at h
   obtain⟨b,d,rfl,hb⟩:=h
   show AV.dP [cY.dX H 5 (.sl b w.length),bl true,i64 0]=_
   rw[dh (k:=4) hb (by simp),cy _ ((cC _ _).2 fun _ _=>by simp[cK])]
 refine iD key (iA _ _ _) fun c=> ?_
 cases jM u (eV u (dR u) w) with
 |none=>exact dO.dP (.cons (dO.lW _ _ _ _) (.cons (fun _ h=>h) (.cons (fun _ h=>h) .nil)))
 |some w=>exact fun _ h=>h
theorem L1 {H:Hp} {nx:Nat} {b:Nat} (hb:∃d,bt H b=some (.row 3 1 d [i64 0,i64 1])):cJ Tryz.prog 21 [LY, .sl b 2] H nx (fun r H' n=>r= .dP [.sl nx 2,bl true,i64 0]∧H'=(nx,some (.row 3 1 .any [i64 0,i64 1]))::H∧n=nx+1):=by
 have h:=ug lj xX oT [0,1] (by decide)
 have h2:=cJ.args (bs:=[LY,cO [0,1]]) h fun c=> .cons (ru c) (.cons (fun _ h=>h) .nil)
 obtain⟨d,hb⟩:=hb
 refine cJ.Q6 (es:=[i64 0,i64 1]) (cs:=[bl true,i64 0]) (args2:=[LY,cO [0,1]]) (by simp[lp]) (h2.mono ?_) ?_ ?_ ?_
 ·intro r H1 n1 hR
  unfold wu at hR
  rw[QV] at hR
  exact hR
 ·intro i hi
  match i,hi with
  |0,_=>trivial
  |1,_=>trivial
 ·show[cY.dX H 6 LY,cY.dX H 6 (.sl b [i64 0,i64 1].length)]=_
  rw[dv _ (show cK 0 LY by simp[cK,cZ,cC]),dh (k:=5) hb rfl]
  rfl
 ·simp[cK,cZ,cC]
theorem vq {H:Hp} {b:Nat} {d:AV} (hb:bt H b=some (.row 3 1 d [i64 0,i64 1])):cY.dX H 6 (.sl b 2)=cO [0,1]:=by
 show cY.dX H 6 (.sl b [i64 0,i64 1].length)=_
 rw[dh (k:=5) hb rfl]
 rfl
theorem BI {H:Hp} {x y a b:AV} (h1:cY.dX H 6 x=a) (h2:cY.dX H 6 y=b):[x,y].map (cY.dX H 6)=[a,b]:=by
 subst h1 h2
 rfl
theorem EF {H:Hp}:cY.dX H 6 (cO [0,1])=cO [0,1]:=dv _ (by simp[cK,cZ,cC])
theorem xK:Pure Tryz.prog 20 [] (fun r=>r=bl true):=by
 have c0:Pure Tryz.prog 47 [.sc (.string ⟨⟨[⟨⟨⟨97,by decide⟩⟩⟩]⟩⟩),i64 0,i64 1] (fun r=>r=(VB [97] 0 1).av):=LZ
 have c1:Pure Tryz.prog 47 [.sc (.string ⟨⟨[⟨⟨⟨98,by decide⟩⟩⟩]⟩⟩),i64 1,i64 0] (fun r=>r=(VB [98] 1 0).av):=L0
 refine dD ?_ (by simp[cK])
 refine ah NU rfl ?_
 refine WL.cut ?_
 refine cU ?_
 refine⟨_,_,_,Rt.refl _ _ _,WL.cut ?_⟩
 refine cU ?_
 refine⟨[(1, .pt 6 1 0 0)],_,_,Rt.trans (Rt.wk (Wk.gl (cb:=6) (jg [3,4] _) 5 .any rfl fun b q hq=>qN hq)) (Rt.less cH),WL.last ?_⟩
 refine aV (b:=6) (q:=some (.row 25 3 .any [LY])) rfl ?_
 intro H2 r3
 have c0:Pure Tryz.prog 13 [LY] (fun r=>r= .dP [oV (cq lj),i64 0]):=Pure.args (kr lj xX oT) fun c=> .cons (ru c) .nil
 have c1:Pure Tryz.prog 15 [LY] (fun r=>r= .dP [cO [0,1],bl true,i64 0]):=Pure.args (by have:=YF lj xX oT;rw[QX] at this;exact this) fun c=> .cons (ru c) .nil
 have c2:Pure Tryz.prog 25 [LY,i64 99] (fun r=>r= .dP [cO [0,1],bl true,i64 0]):=Pure.args (by have:=Z2 lj xX 99;rw[QY,rv,EE] at this;exact this) fun c=> .cons (ru c) (.cons (fun _ h=>h) .nil)
 have c3:Pure Tryz.prog 23 [LY,i64 99] (fun r=>r= .dP [iR [W1],i64 0]):=Pure.args (by have:=w7 lj xX 99;rw[rv,EE] at this;exact this) fun c=> .cons (ru c) (.cons (fun _ h=>h) .nil)
 refine cU ?_
 refine aJ (L1 ⟨_,bx⟩) ?_
 rintro _ H3 n3 ⟨rfl,rfl,rfl⟩
 rw[xW]
 refine cU ?_
 refine aS (args2:=[cO [0,1],cO [0,1]]) (lz [0,1] [0,1] (by decide) (by decide)) (BI EF (vq bx)) (by simp[cZ,cK,cC]) trivial ?_
 refine cU ?_
 refine aS (args2:=[cO [0,1],cO [0,1]]) (lz [0,1] [0,1] (by decide) (by decide)) (BI (vq bx) (vq bx)) (by simp[cZ,cK,cC]) trivial ?_
 refine cU ?_
 refine aS (args2:=[cO [0,1],cO [0,1]]) (lz [0,1] [0,1] (by decide) (by decide)) (BI EF (vq bx)) (by simp[cZ,cK,cC]) trivial ?_
 refine cU ?_
 first|exact rfl|exact⟨rfl⟩|trivial
end Go.Proofs.YtjopoheligmmoaaGreatDoor
end
section
/- What is so of the ring that is told. -/
namespace Go.Proofs.YtjopoheligmmoaaGreatDoor
open Go Go.cY Go.Proofs
set_option linter.unusedSimpArgs false
set_option linter.unusedVariables false
end Go.Proofs.YtjopoheligmmoaaGreatDoor
end
section
/- A ring is one: the law's walk. -/
namespace Go.Proofs.YtjopoheligmmoaaGreatDoor
open Go Go.cY Go.Proofs
set_option linter.unusedSimpArgs false
set_option linter.unusedVariables false
set_option maxRecDepth 8000
theorem Q3 {E:List dy} {j:Nat} (h:j<E.length) (d:AV):(E.map dy.av).getD j d=(E.getD j default).av:=dA dy.av E j d h
end Go.Proofs.YtjopoheligmmoaaGreatDoor
end
section
/- A knot lies on a ring of edges; what is stuck is knotted. -/
namespace Go.Proofs.YtjopoheligmmoaaGreatDoor
open Go Go.cY Go.Proofs
set_option linter.unusedSimpArgs false
set_option linter.unusedVariables false
section
variable {u:bw} {m:MS}
def K1 (u:bw) (m:MS):Prop:=(∀t,t<u.bu.length→m.k9 u (t:Nat)≠0)∧∃t,t<u.bu.length∧m.k9 u (t:Nat)≠70
theorem K1.aAE (hr:cT u) (h:qR u m) (hs:K1 u m):∃l,jM u m=some l:=by
 obtain⟨h1,t,h2,h3⟩:=hs
 exact DU hr h h1 h2 h3
theorem e8.next {l:List Int} (hk:e8 u m l) {i:Nat} (hi:i<l.length):(m.node u (l.getD i 0).toNat).kind=5∧m.hold.getD (m.node u (l.getD i 0).toNat).cM.toNat 0=l.getD ((i+1)%l.length) 0:=by
 have h1:=hk.ring.on i hi
 have h3:=hk.ring.nn _ (cS 0 (Nat.mod_lt (i+1) hk.ring.pos))
 unfold eL at h1
 split at h1
 ·rename_i h5
  exact⟨h5,h1⟩
 ·omega
theorem e8.ZL (hr:cT u) (h:qR u m) {l:List Int} (hk:e8 u m l) {i:Nat} (hi:i<l.length):
 (⟨(m.node u (l.getD i 0).toNat).cM,(m.node u (l.getD ((i+1)%l.length) 0).toNat).cM,l.getD ((i+1)%l.length) 0,m.at_.getD (l.getD ((i+1)%l.length) 0).toNat 0⟩:dy)∈cq u:=by
 have hj:(i+1)%l.length<l.length:=Nat.mod_lt _ hk.ring.pos
 obtain⟨a1,a2⟩:=hk.next hi
 obtain⟨b1,_⟩:=hk.next hj
 obtain⟨s0,s1⟩:=hk.UE i hi
 obtain⟨t0,t1⟩:=hk.UE _ hj
 generalize l.getD i 0=s at *
 generalize l.getD ((i+1)%l.length) 0=t at *
 obtain⟨tn,rfl⟩:∃k:Nat,t=k:=⟨t.toNat,by omega⟩
 rw[Int.toNat_natCast] at *
 have htn:tn<u.bu.length:=by omega
 obtain⟨x0,x1⟩:=eo (h.ok.node hr (t:=s.toNat) (by omega)) (.inl a1)
 have hown:=(h.inv.own tn htn _ x0 x1).1 a2
 have hat:=h.ok.fy tn htn
 refine uJ.2 ⟨tn,(m.at_.getD tn 0).toNat,htn,by omega,b1, ?_,rfl,rfl, ?_⟩
 ·exact(GP (hr.gr htn) hr.qX.2.1 _ _).2 hown
 ·show m.at_.getD tn 0=_
  omega
end
end Go.Proofs.YtjopoheligmmoaaGreatDoor
end
section
/- Knot of any unit and schedule; a machine behind a schedule. -/
namespace Go.Proofs.YtjopoheligmmoaaGreatDoor
open Go Go.cY Go.Proofs
set_option linter.unusedSimpArgs false
set_option linter.unusedVariables false
set_option maxRecDepth 8000
open Classical in
noncomputable def lQ (u:bw) (w:List Int):Int:=if cT u then(if w.length≤1048576 then 0 else 3) else 60
open Classical in
noncomputable def lR (u:bw) (w:List Int):Option (List Int):=if lQ u w=0 then jM u (eV u (dR u) w) else none
theorem NN (u:bw) (hu:u.Wf) (w:List Int):Pure Tryz.prog 21 [u.av,cO w] (fun r=>r= .dP [cO ((lR u w).getD []),bl (lR u w).isSome,i64 (lQ u w)]):=by
 have nilR:∀(e:Int) (c:Cx),dO c c (.dP [.sc (.slice none 0 0),bl false,i64 e]) (.dP [cO [],bl false,i64 e]):=fun e c=>dO.dP (.cons (dO.lW _ _ _ _) (.cons (fun _ h=>h) (.cons (fun _ h=>h) .nil)))
 by_cases hr:cT u
 ·by_cases hw:w.length≤1048576
  ·have hE:lQ u w=0:=by unfold lQ;rw[if_pos hr,if_pos hw]
   have hQ:lR u w=jM u (eV u (dR u) w):=by unfold lR;rw[if_pos hE]
   rw[hE,hQ]
   exact X5 u hu hr w hw
  ·have hE:lQ u w=3:=by unfold lQ;rw[if_pos hr,if_neg hw]
   have hQ:lR u w=none:=by unfold lR;rw[hE];rfl
   rw[hE,hQ]
   refine iD (dD ((IY u hu hr w (by omega)).mono fun r H n h=>by rw[h];rfl) (by simp[cK,cZ])) (iA _ _ _) fun c=>nilR 3 c
 ·have hE:lQ u w=60:=by unfold lQ;rw[if_neg hr]
  have hQ:lR u w=none:=by unfold lR;rw[hE];rfl
  rw[hE,hQ]
  exact iD (NO u hu hr w) (iA _ _ _) fun c=>nilR 60 c
theorem S4 (u:bw) (hu:u.Wf) (hr:¬cT u) (w:List Int):Pure Tryz.prog 29 [u.av,cO w] (fun r=>r= .sc (.pointer none)):=by
 have c0:=wN u hu hr
 refine aI CG rfl ?_
 refine cU ?_
 first|exact rfl|trivial
theorem O6 (u:bw) (hu:u.Wf) (hr:cT u) (w:List Int) (hw:65536<w.length):cJ Tryz.prog 29 [u.av,cO w] [] 0 (fun r H n=>r= .sc (.pointer none)):=by
 have a0:(w.map i64).length=w.length:=List.length_map _
 refine aL CG rfl ?_
 refine cU ?_
 refine aJ (kT u hu hr _ _) ?_
 rintro _ H1 n1 ⟨L,rfl,hM,hL,hn1,hkp⟩
 refine cU ?_
 exact⟨rfl⟩
theorem S5 (u:bw) (hu:u.Wf) (w:List Int) (h:¬(cT u∧w.length≤65536)):Pure Tryz.prog 29 [u.av,cO w] (fun r=>r= .sc (.pointer none)):=by
 by_cases hr:cT u
 ·exact dD ((O6 u hu hr w (by have:¬w.length≤65536:=fun hh=>h ⟨hr,hh⟩;omega)).mono fun r H n h=>by rw[h];rfl) (by simp[cK])
 ·exact S4 u hu hr w
set_option maxHeartbeats 2000000 in
theorem zl (u:bw) (hu:u.Wf) (hr:cT u) (w:List Int) (hw:w.length≤65536) (H0:Hp) (nx:Nat):cJ Tryz.prog 29 [u.av,cO w] H0 nx (fun r H n=>∃L:ML,r= .pt L.mr 1 0 0∧L.At u (eV u (dR u) w) H∧(eV u (dR u) w).cP.length≤w.length∧(∀x∈L.all,nx≤x∧x<n)∧nx≤n∧∀y,y<nx→bt H y=bt H0 y):=by
 have a0:(w.map i64).length=w.length:=List.length_map _
 have r0:decide (65536<((w.map i64).length:Int))=false:=decide_eq_false (by omega)
 refine aL CG rfl ?_
 refine cU ?_
 refine aJ (kT u hu hr _ _) ?_
 rintro _ H1 n1 ⟨L,rfl,hM,hL,hn1,hkp⟩
 refine cU ?_
 refine aM (fun i:Nat=>[(1,cO w),(5, .pt L.mr 1 0 0),(7,i64 i)])
  (fun i H n=>i≤w.length∧n1≤n∧L.At u (eV u (dR u) (w.take i)) H∧(eV u (dR u) (w.take i)).cP.length≤i∧∀y,y<nx→bt H y=bt H0 y) (fun i=>w.length - i) 0
  cH ⟨Nat.zero_le _,c8,hM.cQ fun y hy=> ?_,Nat.zero_le _,fun y hy=> ?_⟩ ?_
 ·have:=hL y hy;exact cA
 ·exact Eq.trans cA ((hkp y (by omega)).trans cA)
 rintro i H n ⟨hi,hn,hM,hpr,hkeep⟩
 have hsit:qR u (eV u (dR u) (w.take i)):=qR.zj hu hr (qR.new hu hr)
 by_cases hil:i<w.length
 ·have e0:∀d,(w.map i64).getD ((i:Int)).toNat d=i64 (w.getD i 0):=fun d=>ints_at hil d
  have hpn:=uy u (dR u) w hil
  have hp2:=si u (eV u (dR u) (w.take i)) (w.getD i 0)
  rw[←hpn] at hp2
  refine cU ?_
  refine aJ (pP hu hr hsit.ok (hM.cQ fun y hy=> ?_) (fun y hy=> ?_) (by omega) (w.getD i 0)) ?_
  ·have:=hL y hy;exact cA
  ·exact Nat.lt_of_lt_of_le (Nat.lt_of_lt_of_le (hL y hy).2 hn) c8
  rintro _ H2 n2 ⟨⟨d,e,rfl⟩,hM2,hn2,hkeep2⟩
  rw[←hpn] at hM2
  refine cU ?_
  refine⟨i+1,by omega,cH,by omega,c8,hM2.cQ fun y hy=> ?_,by omega,fun y hy=> ?_⟩
  ·have:=hL y hy;exact cA
  ·exact Eq.trans cA ((hkeep2 y (by omega) fun h=>by have:=hL y h;omega).trans (Eq.trans cA (hkeep y hy)))
 ·obtain rfl:i=w.length:=by omega
  rw[List.take_length] at hM hpr hsit
  refine cU ?_
  refine⟨⟨L,rfl,hM.cQ fun y hy=> ?_,hpr,fun x hx=>⟨by have:=hL x hx;omega,Nat.lt_of_lt_of_le (Nat.lt_of_lt_of_le (hL x hx).2 hn) c8⟩,c8,fun y hy=>Eq.trans cA (hkeep y hy)⟩⟩
  have:=hL y hy;exact cA
end Go.Proofs.YtjopoheligmmoaaGreatDoor
end
section
/- What is stuck is knotted: the law's walk. -/
namespace Go.Proofs.YtjopoheligmmoaaGreatDoor
open Go Go.cY Go.Proofs
set_option linter.unusedSimpArgs false
set_option linter.unusedVariables false
set_option maxRecDepth 8000
end Go.Proofs.YtjopoheligmmoaaGreatDoor
end
section
/- In a knot each waits for what the next one holds: the law's walk. -/
namespace Go.Proofs.YtjopoheligmmoaaGreatDoor
open Go Go.cY Go.Proofs
set_option linter.unusedSimpArgs false
set_option linter.unusedVariables false
set_option maxRecDepth 8000
theorem NM {u:bw} (hu:u.Wf) {w k:List Int} (h:lR u w=some k):cT u∧lQ u w=0∧e8 u (eV u (dR u) w) k:=by
 unfold lR at h
 split at h
 ·rename_i h0
  have hr:cT u:=by
   apply Classical.byContradiction
   intro hr
   unfold lQ at h0
   rw[if_neg hr] at h0
   cases h0
  exact⟨hr,h0,RG hr ((qR.new hu hr).zj hu hr).ok h⟩
 ·cases h
theorem L9 (e:dy) (a b c d:Int):decide (e=⟨a,b,c,d⟩)=(decide (e.held=a)&&(decide (e.taken=b)&&(decide (e.dW=c)&&(decide (e.node=d)&&true)))):=by
 cases e
 simp[dy.mk.injEq,Bool.decide_and]
theorem L8 {E:List dy} {a b c d:Int} {j:Nat} (h:j<E.length):(E.take (j+1)).any (fun e=>decide (e=⟨a,b,c,d⟩))=if(E.take j).any (fun e=>decide (e=⟨a,b,c,d⟩))=true then true else(decide ((E.getD j default).held=a)&&(decide ((E.getD j default).taken=b)&&(decide ((E.getD j default).dW=c)&&(decide ((E.getD j default).node=d)&&true)))):=by
 rw[←L9,List.take_add_one,List.any_append,show E[j]?.toList.any (fun e=>decide (e=⟨a,b,c,d⟩))=decide (E.getD j default=⟨a,b,c,d⟩) by simp[List.getD,h]]
 cases(E.take j).any (fun e=>decide (e=⟨a,b,c,d⟩))<;>simp
set_option maxHeartbeats 4000000 in
theorem KH (u:bw) (hu:u.Wf) (w:List Int):Pure Tryz.prog 9 [u.av,cO w] (fun r=>r=bl true):=by
 have c0:=xK
 have c1:=NN u hu w
 by_cases hc:cT u∧w.length≤65536
 ·obtain⟨hr,hw⟩:=hc
  have c2:=kr u hu hr
  cases hk:lR u w with
  |none=>
   rw[hk] at c1
   dsimp only[Option.getD,Option.isSome] at c1
   generalize lQ u w=e1 at *
   have c3:=c2
   refine dD ?_ (by simp[cK])
   refine aL UI rfl ?_
   refine cU ?_
   refine aJ (zl u hu hr w hw _ _) ?_
   rintro _ H1 n1 ⟨L,rfl,hM,hpr,hL,hn1,hkp⟩
   have r0':bt H1 0=some (.row 25 3 .any [u.av]):=Eq.trans (hkp 0 (by omega)) bx
   by_cases h1:e1=0
   ·have r0:decide (e1≠0)=false:=decide_eq_false fun h=>h h1
    refine cU ?_
    exact⟨rfl⟩
   ·have r0:decide (e1≠0)=true:=decide_eq_true h1
    refine cU ?_
    exact⟨rfl⟩
  |some k=>
   obtain⟨_,hE,hK⟩:=NM hu hk
   rw[hk,hE] at c1
   dsimp only[Option.getD,Option.isSome] at c1
   have hsit:qR u (eV u (dR u) w):=(qR.new hu hr).zj hu hr
   refine dD ?_ (by simp[cK])
   refine ah UI rfl ?_
   refine WL.cut ?_
   refine cU ?_
   refine⟨_,_,_,Rt.refl _ _ _,WL.cut ?_⟩
   refine cU ?_
   refine⟨_,_,_,Rt.refl _ _ _,WL.cut ?_⟩
   refine cU ?_
   refine⟨_,_,_,Rt.refl _ _ _,WL.cut ?_⟩
   refine cU ?_
   refine aJ (zl u hu hr w hw _ _) ?_
   rintro _ H1 n1 ⟨L,rfl,hM,hpr,hL,hn1,hkp⟩
   refine cU ?_
   have hgl:=hr.qX
   have hL0:∀x∈L.all,14≤x:=fun x hx=>by have:=(hL x hx).1;omega
   have hL1:∀x∈L.all,x<n1:=fun x hx=>(hL x hx).2
   have hz:(0:Nat)∉L.all:=fun h=>by have:=hL0 0 h;omega
   have hM2:L.At u (eV u (dR u) w) (dC H1 none):=hM.cQ fun y hy=>by have:=hL1 y hy;have:=hL0 y hy;exact cA
   have r0:bt H1 0=some (.row 25 3 .any [u.av]):=Eq.trans (hkp 0 (by omega)) bx
   generalize eV u (dR u) w=m at *
   refine⟨[(2, .pt 0 1 0 0),(5,cO k),(6,bl true),(7,i64 0),(8,m.fz u)],_,_,Rt.trans (Rt.slot 8 rfl (LJ hM2 _)) (Rt.less cH),WL.last (aV (b:=0) (q:=some (.row 25 3 .any [u.av])) ((dz hz).trans (Eq.trans cA r0)) fun H2 r3=> ?_)⟩
   clear hM hM2 r0 hpr hkp hL hL0 hL1 hz c0 c1
   have hel:=mW hr (m:=u.bu.length) (Nat.le_refl _)
   have hle:(cq u).length≤65536 * 8:=by unfold cq;omega
   refine cU ?_
   refine aM (fun i:Nat=>[(2, .pt 0 1 0 0),(5,cO k),(8,m.fz u),(9,oV (cq u)),(11,i64 i)]) (fun i H n=>i≤k.length∧1≤n∧∃d,bt H 0=some (.row 25 3 d [u.av])) (fun i=>k.length - i) 0
    cH ⟨Nat.zero_le _,c8,⟨_,bx⟩⟩ ?_
   clear c2 r3
   have hkl:=hK.len
   have a0:(k.map i64).length=k.length:=List.length_map _
   have a1:(u.bu.map cD.av).length=u.bu.length:=List.length_map _
   have hp:=hK.ring.pos
   rintro i H n ⟨hi,hn,⟨d,r0'⟩⟩
   by_cases hil:i<k.length
   ·have hml:(i+1)%k.length<k.length:=Nat.mod_lt _ hp
    have hrem:((i:Int)+1).tmod (k.length:Int)=(((i+1)%k.length:Nat):Int):=by
     rw[show(i:Int)+1=((i+1:Nat):Int) by omega]
     exact(Int.ofNat_tmod _ _).symm
    obtain⟨j,hj⟩:∃j,j=(i+k.length - 1)%k.length:=⟨_,rfl⟩
    have hjl:j<k.length:=by rw[hj];exact Nat.mod_lt _ hp
    have hji:(j+1)%k.length=i:=by
     rw[hj,Nat.mod_add_mod,show i+k.length - 1+1=i+k.length by omega,Nat.add_mod_right,Nat.mod_eq_of_lt hil]
    have hrem2:((i:Int)+(k.length:Int) - 1).tmod (k.length:Int)=(j:Int):=by
     rw[show(i:Int)+(k.length:Int) - 1=((i+k.length - 1:Nat):Int) by omega,hj]
     exact(Int.ofNat_tmod _ _).symm
    obtain⟨k1,k2⟩:=hK.next hil
    have hedge:=hK.ZL hr hsit hjl
    rw[hji] at hedge
    obtain⟨t0,t1⟩:=hK.UE i hil
    obtain⟨s0,s1⟩:=hK.UE j hjl
    obtain⟨t,ht⟩:∃t:Nat,k.getD i 0=t:=⟨(k.getD i 0).toNat,by omega⟩
    obtain⟨s,hs⟩:∃s:Nat,k.getD j 0=s:=⟨(k.getD j 0).toNat,by omega⟩
    have e0:∀d,(k.map i64).getD ((i:Int)).toNat d=i64 (t:Int):=fun d=>by rw[←ht,Int.toNat_natCast];exact dA i64 k i d hil
    have e1:∀d,(k.map i64).getD (((i:Int)+1).tmod ((k.map i64).length:Int)).toNat d=i64 (k.getD ((i+1)%k.length) 0):=fun d=>by rw[a0,hrem,Int.toNat_natCast];exact dA i64 k _ d hml
    have e2:∀d,(k.map i64).getD (((i:Int)+((k.map i64).length:Int) - 1).tmod ((k.map i64).length:Int)).toNat d=i64 (s:Int):=fun d=>by rw[a0,hrem2,Int.toNat_natCast,←hs];exact dA i64 k _ d hjl
    rw[ht] at k1 k2 hedge t1
    rw[hs] at hedge s1
    rw[Int.toNat_natCast] at k1 k2 hedge
    rw[Int.toNat_natCast] at hedge
    have e3:∀d,(u.bu.map cD.av).getD ((t:Int)).toNat d=(u.gr t).av:=fun d=>oe (by omega) d
    have e4:∀d,(u.bu.map cD.av).getD ((s:Int)).toNat d=(u.gr s).av:=fun d=>oe (by omega) d
    obtain⟨p0,p1⟩:=hsit.ok.fy t (by omega)
    obtain⟨q0,q1⟩:=hsit.ok.fy s (by omega)
    have c0:=LI u m hsit.ok (t:=t) (by omega)
    have c1:=LI u m hsit.ok (t:=s) (by omega)
    obtain⟨x0,x1⟩:=eo (hsit.ok.node hr (t:=t) (by omega)) (.inl k1)
    have c2:=ue u m hsit.ok (x:=(m.node u t).cM.toNat) (by omega)
    rw[Int.toNat_of_nonneg x0,k2] at c2
    have e5:∀d,((u.gr t).nodes.map Node.av).getD (m.at_.getD t 0).toNat d=(m.node u t).av:=fun d=>dA Node.av _ _ d (by omega)
    have e6:∀d,((u.gr s).nodes.map Node.av).getD (m.at_.getD s 0).toNat d=(m.node u s).av:=fun d=>dA Node.av _ _ d (by omega)
    have a2:((u.gr t).nodes.map Node.av).length=(u.gr t).nodes.length:=List.length_map _
    have a3:((u.gr s).nodes.map Node.av).length=(u.gr s).nodes.length:=List.length_map _
    generalize m.node u t=nt at *
    generalize m.node u s=ns at *
    generalize m.at_.getD t 0=pt at *
    generalize m.at_.getD s 0=ps at *
    generalize u.gr t=gt at *
    generalize u.gr s=gs at *
    have r0:decide (nt.kind≠5)=false:=decide_eq_false fun h=>h k1
    have r1:decide (k.getD ((i+1)%k.length) 0≠k.getD ((i+1)%k.length) 0)=false:=decide_eq_false fun h=>h rfl
    have r2:decide ((s:Int)<0)=false:=decide_eq_false (by omega)
    have r3:decide (((u.bu.map cD.av).length:Int)≤(s:Int))=false:=decide_eq_false (by omega)
    refine cU ?_
    refine aM (fun σ:Nat×Nat×Nat=>[(2, .pt 0 1 0 0),(5,cO k),(8,m.fz u),(9,oV (cq u)),(11,i64 i),(12,i64 (t:Int)),(13, .pt σ.1 1 0 0),(15, .pt σ.2.1 1 0 0),(16,bl (((cq u).take σ.2.2).any fun e=>decide (e=⟨ns.cM,nt.cM,(t:Int),pt⟩))),(17,i64 σ.2.2)])
     (fun σ H n=>σ.2.2≤(cq u).length∧1≤n∧(∃d,bt H 0=some (.row 25 3 d [u.av]))∧(∃d,bt H σ.1=some (.row 65 13 d [nt.av]))∧∃d,bt H σ.2.1=some (.row 65 13 d [ns.av])) (fun σ=>(cq u).length - σ.2.2)
     (_,_,0) cH ⟨Nat.zero_le _,c8,⟨_,bx⟩,⟨_,bx⟩,⟨_,bx⟩⟩ ?_
    clear r0 r1 r2 r3
    rintro⟨b1,b2,j2⟩ H3 n3 ⟨hj2,hn3,⟨d3,r0'⟩,⟨d4,r1'⟩,⟨d5,r2'⟩⟩
    dsimp only at hj2 r1' r2' ⊢
    have aE:((cq u).map dy.av).length=(cq u).length:=List.length_map _
    by_cases hj2l:j2<(cq u).length
    ·have e0:∀d,((cq u).map dy.av).getD ((j2:Int)).toNat d=((cq u).getD j2 default).av:=fun d=>by rw[Int.toNat_natCast];exact Q3 hj2l d
     have hnx:=L8 (E:=cq u) (a:=ns.cM) (b:=nt.cM) (c:=(t:Int)) (d:=pt) hj2l
     refine cU ?_
     exact⟨(b1,b2,j2+1),by dsimp only;omega,by rw[hnx];exact cH,by dsimp only;omega,c8,⟨_,bx⟩,⟨_,bx⟩,⟨_,bx⟩⟩
    ·obtain rfl:j2=(cq u).length:=by omega
     rw[List.take_length,show(cq u).any (fun e=>decide (e=⟨ns.cM,nt.cM,(t:Int),pt⟩))=true from List.any_eq_true.2 ⟨_,hedge,decide_eq_true rfl⟩]
     refine cU ?_
     exact⟨i+1,by omega,cH,by omega,c8,⟨_,bx⟩⟩
   ·obtain rfl:i=k.length:=by omega
    refine cU ?_
    exact⟨rfl⟩
 ·have c2:=S5 u hu w hc
  generalize lQ u w=e1 at *
  generalize (lR u w).isSome=b1 at *
  by_cases hr:cT u
  ·have c3:=kr u hu hr
   refine aI UI rfl ?_
   by_cases h1:e1=0
   ·have r0:decide (e1≠0)=false:=decide_eq_false fun h=>h h1
    cases b1 with
    |true=>
     refine cU ?_
     first|exact rfl|trivial
    |false=>
     refine cU ?_
     first|exact rfl|trivial
   ·have r0:decide (e1≠0)=true:=decide_eq_true h1
    refine cU ?_
    first|exact rfl|trivial
  ·have c3:=HT u hu hr
   refine aI UI rfl ?_
   by_cases h1:e1=0
   ·have r0:decide (e1≠0)=false:=decide_eq_false fun h=>h h1
    refine cU ?_
    first|exact rfl|trivial
   ·have r0:decide (e1≠0)=true:=decide_eq_true h1
    refine cU ?_
    first|exact rfl|trivial
end Go.Proofs.YtjopoheligmmoaaGreatDoor
end
section
/- In a knot each waits for a lock that the next one holds; the two locks are an edge: for every unit and schedule. No conditions beyond the card's own. -/
namespace Go.Proofs.YtjopoheligmmoaaGreatDoor
open Go Go.cY Go.Proofs Go.RowKit Go.ChangeShapes Go.WideShapes Go.ChangeAt
set_option linter.unusedSimpArgs false
set_option linter.unusedVariables false
set_option maxRecDepth 100000 in
theorem qL (os:Os) (started:os.Started) (H:Type) (enc:TypeId×Value→H):
 ReturnsInHanded {} Tryz.checked os 9 .any (fun w args=>(Rows.stuckTiesSpec.pre enc Tryz.prog Tryz.f9 [] false w args∧laidMetH Tryz.prog yE w)∧sizedMet enc Tryz.prog Tryz.f9 (OpenSpec.ofChange Rows.stuckTiesSpec) false w args) (Rows.stuckTiesSpec.post enc Tryz.prog Tryz.f9 false true false false):=by
 refine returnsInHanded_of_change_and (C:=Tryz.checked) (X:=fun w _=>laidMetH Tryz.prog yE w) (fun _ _ _ hh h=>h.of_heap hh) own started (by kernel_rfl) Tryz.func9
  (ChangeSpec.witness_shaped (enc:=enc) (C:=Tryz.checked) (os:=os) (X:=fun w _=>laidMetH Tryz.prog yE w) false (World.doorLaid Tryz.prog 400 os) #[.agg #[.slice none 0 0, .slice none 0 0, .slice none 0 0], .slice none 0 0] 8 rfl (World.shaped_of_RefB (by kernel_rfl) (by kernel_rfl)) (by kernel_rfl) (by kernel_rfl) (by kernel_rfl) (L6 os _)) ?_
 intro W base args ds gs before hval hW _ hr hL _
 refine wF (ts:=[25,31]) (tb:=4) laidOut (by kernel_rfl) rfl Tryz.underlying4 (by kernel_rfl) (fun ds h=> ?_) (fun t ht=> ?_)
  (nN (ag:=true) (by kernel_rfl) CX (fun h=>by cases h) (nN (ag:=false) (by kernel_rfl) (CV Tryz.underlying31 Tryz.underlying3 (by kernel_rfl) (by kernel_rfl)) (fun _ _ _=>rfl) wP))
  (fun a h=> ?_) hval hW hr (SY hL)
 ·match ds,h with
  |[d0,d1],_=>rfl
 ·have:∀t∈[25,31],Tryz.prog.readableRec t=true∧t<Tryz.prog.types.size:=by
   simp only[List.forall_mem_cons]
   refine⟨⟨by kernel_rfl,of_decide_eq_true (by kernel_rfl)⟩,⟨by kernel_rfl,of_decide_eq_true (by kernel_rfl)⟩,by simp⟩
  exact this t ht
 ·exact KH a.1 h.1 a.2.1
theorem tf:Rows.StuckTiesSaid:=
 OpenClaim.holds_of_wide 9 Tryz.f9 rfl rfl rfl rfl rfl rfl rfl ⟨rfl,rfl,rfl,rfl,rfl⟩ rfl rfl rfl rfl rfl (by kernel_rfl) Tryz.func9 (by kernel_rfl)
  (of_decide_eq_true (by kernel_rfl)) (by unfold Func.isWrapper;first|(rw[if_pos (by decide+kernel)];kernel_rfl)|(rw[if_neg (by decide+kernel)];exact⟨rfl,rfl⟩))
  (fun os started H enc _=>qL os started H enc)
set_option maxRecDepth 100000 in
theorem stuckTies_holds:Rows.StuckTiesCardSaid:=
 Claim7.holds_tied_plain_at .later [] [.data] true (true, "14b4af768aa3e6a8dd3f17bcbe4400c6eab11aaff17ef5f81a71be15f13cfe4e") false
  tf (fun _ h=>by cases h) (by kernel_rfl) (fun _ h=>by cases h) stuckTies_row_tie rfl ⟨rfl,rfl⟩ (by kernel_rfl) rfl
  (fun f fn hf hfn=>by
   obtain rfl:f=9:=Option.some.inj ((show Tryz.prog.funcNamed "stile/stilelaw24.StuckTies" =some 9 by kernel_rfl).symm.trans hf)|>.symm
   obtain rfl:fn=Tryz.f9:=(Option.some.inj (Tryz.func9.symm.trans hfn)).symm
   exact⟨by kernel_rfl,fun j t ht=>by
    rw[show Tryz.f9.params=#[25,31] by kernel_rfl] at ht
    have hm:t∈[25,31]:=by simpa using Array.mem_of_getElem? ht
    have hall:([25,31].all fun u=> !Tryz.prog.wantsStandIn u)=true:=by kernel_rfl
    exact(show Tryz.prog.wantsStandIn t=false by simpa using List.all_eq_true.1 hall t hm)⟩)
  (by kernel_rfl)
end Go.Proofs.YtjopoheligmmoaaGreatDoor
end
