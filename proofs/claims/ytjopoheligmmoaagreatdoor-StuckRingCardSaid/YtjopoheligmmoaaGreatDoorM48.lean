import Derived.Test.YtjopoheligmmoaaGreatDoorM47
import Derived.Test.YtjopoheligmmoaaGreatDoorM23
import Derived.Test.YtjopoheligmmoaaGreatDoorM38
import Derived.Test.YtjopoheligmmoaaGreatDoorM41
section
/- What the laws begin with: two threads that cross. -/
namespace Go.cX
open Go.RowKit
set_option linter.unusedSimpArgs false
set_option linter.unusedVariables false
theorem cI.UY {P:Program} {f:FuncId} {args args2:List AV} {e:TypeId} {sz:Nat} {es cs:List AV} (dX:lZ cs) (h:cI P f args2 [] 0 (fun r1 H1 _=>∃b d0,r1= .dP (.sl b es.length::cs)∧br H1 b=some (.row e sz d0 es))) (hfl:∀i,i<es.length→ft (es.getD i .any)) (d:AV) {H:Hp} {id:Nat} (ha:args.map (dU H 6)=args2) (hfa:cW 0 args2):
 jo P f args H id (fun r' H''=>r'= .dP (.sl id es.length::cs)∧H''=cz H (some (id, .row e sz d es))):=by
 refine⟨h.1,fun w0 c vs hS hH hid hv=> ?_⟩
 have hS0:dV c.w ⟨fun _=>none,br [],fun _=>False,c.w,c.M0⟩:=⟨Below.refl _ _,hS.jh,fun b e sz d es he=>by simp[br] at he,fun b b' k k' blk o z o' z' hk=>by simp[br] at hk⟩
 subst ha
 have hv':cc ⟨fun _=>none,br [],fun _=>False,c.w,c.M0⟩ (args.map (dU H 6)) vs:=kB hS hH hfa hv
 refine(h.2 c.w _ vs hS0 rfl (fun _ h=>h.elim) hv').mono ?_
 rintro en w' ⟨v,r1,H1,nx',ρ,U,he,⟨b,d0,rfl,hb⟩,hU,hS',_,hvr⟩
 rw[VR] at hvr
 obtain⟨us,hus,hvr⟩:=hvr
 rw[cc] at hvr
 obtain⟨x,v3,hx3,hvr,hv3⟩:=hvr
 rw[VR] at hvr
 obtain⟨_,ad,cap,hvv,hrr⟩:=hvr
 obtain⟨_,hr2⟩:=hrr _ _ _ _ hb
 have hr3:=hr2 rfl
 obtain⟨_,hz,hor⟩:=hS'.jO b _ _ _ _ hb (sd hr3)
 have hbel:=hS'.below
 obtain⟨s1,s2⟩:=hS.world hbel
 have hHeq:br (cz H (some (id, .row e sz d es)))=eh c.H id (some (.row e sz d es)):=by rw[dO,hH]
 have fin:∀c2:Cx,VR c2 (.sl id es.length) x→VR c2 (.dP (.sl id es.length::cs)) v:=fun c2 h2=>by
  rw[VR]
  refine⟨us,hus, ?_⟩
  rw[hx3,cc]
  exact⟨x,v3,rfl,h2,mP dX hv3⟩
 rcases hor with⟨h0,hes⟩|⟨blk,o,z,hρ,hlow,⟨arr,harr,hsz⟩,hlz,hrow⟩
 ·subst hes
  obtain⟨p1,p2⟩:=s1.JI (b:=id) (e:=e) (sz:=sz) d hz hid
  refine⟨v,_,_,eh c.ρ id none,he,⟨rfl,rfl⟩, ?_, ?_,fin _ ?_⟩
  ·rw[hHeq];exact p1
  ·rw[hHeq];exact s2.trans p2
  ·rw[hHeq,VR]
   refine⟨.inr rfl,ad,cap,hvv,fun e' sz' d' es' he'=> ?_⟩
   simp only[iO,dH,Option.some.injEq,eQ.row.injEq] at he'
   obtain⟨rfl,rfl,rfl,rfl⟩:=he'
   refine⟨Nat.le_refl _,fun _=> .inl ⟨by simp[iO], ?_⟩⟩
   rcases hr3 with⟨_,h2,h3⟩|⟨blk,o,z,h2,_⟩
   ·exact⟨h2,h3⟩
   ·rw[h0] at h2;cases h2
 ·obtain⟨p1,p2⟩:=hS.ox (b:=id) (e:=e) (sz:=sz) d (es:=es) (w':=w') (blk:=blk) (o:=o) (z:=z) hz (.inl hid) (.inl hlow) hbel.os hbel.tape hbel.output hbel.size (fun k hk _=>hbel.block k hk) harr hsz hlz (fun hle i hi=>by
   obtain⟨y,x1,x2⟩:=da hrow i hi
   refine⟨y,x1,l3 ?_ x2⟩
   have:=hfl i hi
   simpa[List.getD,hi] using this)
  refine⟨v,_,_,eh c.ρ id (some (blk,o,z)),he,⟨rfl,rfl⟩, ?_, ?_,fin _ ?_⟩
  ·rw[hHeq];exact p1
  ·rw[hHeq];exact p2
  ·rw[hHeq,VR]
   refine⟨.inr rfl,ad,cap,hvv,fun e' sz' d' es' he'=> ?_⟩
   simp only[iO,dH,Option.some.injEq,eQ.row.injEq] at he'
   obtain⟨rfl,rfl,rfl,rfl⟩:=he'
   refine⟨by omega,fun _=> .inr ⟨blk,o,z,by simp[iO], ?_⟩⟩
   rcases hr3 with⟨h2,_,_⟩|⟨blk',o',z',h2,h3,h4,h5,h6⟩
   ·rw[hρ] at h2;cases h2
   ·rw[hρ] at h2;cases h2
    exact⟨h3,h4,h5,h6⟩
theorem cI.QJ {P:Program} {f:FuncId} {args args2:List AV} {e:TypeId} {sz:Nat} {es cs:List AV} (dX:lZ cs) (h:cI P f args2 [] 0 (fun r1 H1 _=>∃b d0,r1= .dP (.sl b es.length::cs)∧br H1 b=some (.row e sz d0 es))) (hfl:∀i,i<es.length→ft (es.getD i .any)) {H:Hp} {nx:Nat} (ha:args.map (dU H 6)=args2) (hfa:cW 0 args2):
 cI P f args H nx (fun r H' n=>r= .dP (.sl nx es.length::cs)∧H'=(nx,some (.row e sz .any es))::H∧n=nx+1):=
 (jo.WK (h.UY dX hfl .any ha hfa)).mono fun r H' n ⟨⟨h1,h2⟩,h3⟩=>⟨h1,h2,h3⟩
end Go.cX
namespace Go.Proofs.YtjopoheligmmoaaGreatDoor
open Go Go.cX Go.Proofs
set_option linter.unusedSimpArgs false
set_option linter.unusedVariables false
set_option maxRecDepth 8000
theorem C0 (l m:List Int) (hl:l.length * 8≤140737488351232) (hm:m.length * 8≤140737488351232):Pure Tryz.prog 44 [fQ l,fQ m] (fun r=>r=bl (decide (l=m))):=by
 refine aI ND rfl ?_
 unfold fQ
 repeat' (first|((with_reducible refine aF ?_);conv=>whnf)|refine aG ?_|exact aC|with_reducible refine aD ?_ ?_|(apply aB;(·exact cN))|refine aH ?_|((with_reducible refine aA ?_ ?_)<;>intro hc<;>(try simp only[List.length_map,ne_eq,dX] at hc)<;>try(exfalso;omega)))
 ·refine ee (Eq.symm ?_)
  exact decide_eq_false fun e=>hc (by rw[e])
 ·have hlm:l.length=m.length:=by omega
  refine aL (fun i:Nat=>[(0,fQ l),(1,fQ m),(5,i64 i)])
   (fun i H n=>i≤l.length∧∀j,j<i→l.getD j 0=m.getD j 0) (fun i=>l.length - i) 0 cF ⟨Nat.zero_le _,fun _ h=>by omega⟩ ?_
  unfold fQ
  rintro i H n ⟨hi,hall⟩
  by_cases hil:i<l.length
  ·have e1:=oV (l:=l) hil
   have e2:=oV (l:=m) (i:=i) (by omega)
   repeat' (first|((with_reducible refine aF ?_);conv=>whnf)|refine aG ?_|exact aC|with_reducible refine aD ?_ ?_|(apply aB;(·(first|exact e1 _|exact e2 _|exact cN)))|refine aH ?_|((with_reducible refine aA ?_ ?_)<;>intro hc<;>(try simp only[List.length_map,ne_eq,dX] at hc)<;>try(exfalso;omega)))
   ·refine ee (Eq.symm ?_)
    exact decide_eq_false fun e=>hc (by rw[e])
   ·refine⟨i+1,by omega,cF,by omega,fun j hj=> ?_⟩
    by_cases hji:j=i
    ·subst hji;exact hc
    ·exact hall j (by omega)
  ·have:i=l.length:=by omega
   subst this
   repeat' (first|((with_reducible refine aF ?_);conv=>whnf)|refine aG ?_|exact aC|with_reducible refine aD ?_ ?_|(apply aB;(·exact cN))|refine aH ?_|((with_reducible refine aA ?_ ?_)<;>intro hc<;>(try simp only[List.length_map,ne_eq,dX] at hc)<;>try(exfalso;omega)))
   refine ee (Eq.symm ?_)
   refine decide_eq_true (List.ext_getElem hlm fun j h1 h2=> ?_)
   have:=hall j h1
   simpa[List.getD,h1,h2] using this
theorem l7 (l m:List Int) (hl:l.length * 8≤140737488351232) (hm:m.length * 8≤140737488351232):Pure Tryz.prog 18 [cR l,cR m] (fun r=>r=bl (decide (l=m))):=by
 have c0:=C0 l m hl hm
 unfold fQ at c0
 refine aI M1 rfl ?_
 refine cT ?_
 first|exact rfl|trivial
def W4 (k th nx o:Int):Node:=⟨k,0,0,th,⟨false,0,0⟩,⟨false,0,0⟩,nx,0,o⟩
def UL (name:List UInt8) (a b:Int):cD:=⟨⟨name.toArray⟩,0,0,[W4 5 a 1 0,W4 5 b 2 1,W4 6 b 3 2,W4 6 a 4 3,W4 9 0 0 4]⟩
def lW:bt:=⟨[],[⟨⟨(List.toArray [108])⟩,0,0⟩,⟨⟨(List.toArray [109])⟩,0,0⟩],[UL [97] 0 1,UL [98] 1 0]⟩
theorem K9:Pure Tryz.prog 47 [.sc (.string ⟨(List.toArray [97])⟩),i64 0,i64 1] (fun r=>r=(UL [97] 0 1).av):=
 kO (by simp[cK,cB]) (by kernel_rfl)
theorem LA:Pure Tryz.prog 47 [.sc (.string ⟨(List.toArray [98])⟩),i64 1,i64 0] (fun r=>r=(UL [98] 1 0).av):=
 kO (by simp[cK,cB]) (by kernel_rfl)
theorem oJ:cY lW:=jx.1 (by decide+kernel)
theorem xJ:lW.Wf:=by
 have hd:∀d∈lW.cC,d.Wf:=fun d h=>by
  simp only[lW,List.mem_cons,List.not_mem_nil,or_false] at h
  rcases h with rfl|rfl<;>exact⟨by decide+kernel,by decide+kernel,by decide+kernel⟩
 refine⟨fun _ h=>by simp[lW] at h,by simp[lW],hd,by simp[lW],fun g hg=> ?_,by simp[lW]⟩
 simp only[lW,List.mem_cons,List.not_mem_nil,or_false] at hg
 rcases hg with rfl|rfl<;>
 ·refine⟨by decide+kernel,by decide+kernel,by decide+kernel,fun n hn=> ?_,by decide+kernel⟩
  simp only[UL,List.mem_cons,List.not_mem_nil,or_false] at hn
  rcases hn with rfl|rfl|rfl|rfl|rfl<;>
   exact⟨by decide+kernel,by decide+kernel,by decide+kernel,by decide+kernel,⟨by decide+kernel,by decide+kernel⟩,⟨by decide+kernel,by decide+kernel⟩,by decide+kernel,by decide+kernel,by decide+kernel⟩
theorem xI:dG lW=[⟨0,1,0,1⟩,⟨1,0,1,1⟩]:=by decide+kernel
theorem P9:ef lW=fun h=>if h=0 then[1] else if h=1 then[0] else[]:=by
 funext h
 unfold ef
 rw[xI]
 have e:iz [⟨0,1,0,1⟩,⟨1,0,1,1⟩] h=if h=0 then[1] else if h=1 then[0] else[]:=by
  unfold iz
  simp only[List.foldl_cons,List.foldl_nil]
  by_cases h0:h=0
  ·subst h0;simp
  ·by_cases h1:h=1
   ·subst h1;simp
   ·have e0:¬(0:Int)=h:=fun e=>h0 e.symm
    have e1:¬(1:Int)=h:=fun e=>h1 e.symm
    simp[h0,h1,e0,e1]
 rw[e]
 unfold eF
 split
 ·simp
 ·split<;>simp
theorem QA:lq lW=some [0,1]:=by
 unfold lq
 rw[P9]
 decide+kernel
theorem P8:EF lW (iF lW (dn lW) [0,1])=some [0,1]:=by decide+kernel
def PH:List cS:=(gP lW 99).getD []
theorem UM:gP lW 99=some PH:=by
 have h:(gP lW 99).isSome=true:=by decide+kernel
 unfold PH
 cases hs:gP lW 99 with
 |none=>rw[hs] at h;cases h
 |some l=>rfl
def V8:cj:=⟨[],[],false⟩
theorem P7:∀e∈dN lW PH PH.length,e.ended=true∨e=V8:=by decide+kernel
theorem UN:V8∈dN lW PH PH.length:=by decide+kernel
theorem UO:ja PH (fG lW PH V8 PH.length)=[0,1]:=by decide+kernel
theorem DY:eG lW 99=(0,PH):=by rw[oF oJ (by decide),show(99:Int).toNat=99 from rfl,UM]
theorem N1 {u:bt} {l:List cS} {x:cj} (h:∀e∈dN u l l.length,e.ended=true∨e=x) (hx:x∈dN u l l.length) (hx2:x.ended=false):l9 (gm u l)=[x]:=by
 have h1:=(vc u l).filter fun e=> !e.ended
 change (l9 (gm u l)).Pairwise _ at h1
 have h2:∀e,e∈l9 (gm u l)↔e=x:=fun e=>by
  unfold l9
  rw[List.mem_filter,tv]
  constructor
  ·rintro⟨q1,q2⟩
   rcases h e q1 with h3|h3
   ·rw[h3] at q2;cases q2
   ·exact h3
  ·rintro rfl
   exact⟨hx,by rw[hx2];rfl⟩
 cases hl:l9 (gm u l) with
 |nil=>exact absurd ((h2 x).2 rfl) (by rw[hl];simp)
 |cons a t=>
  rw[hl] at h1 h2
  have ha:=(h2 a).1 (by simp)
  subst ha
  cases t with
  |nil=>rfl
  |cons b t=>
   have hb:=(h2 b).1 (by simp)
   subst hb
   have:=(List.pairwise_cons.1 h1).1 b (by simp)
   rw[(jU.zero _ _).2 rfl] at this
   omega
theorem rX:fT lW 99=[V8]:=by
 unfold fT
 rw[DY]
 rw[if_pos rfl]
 exact N1 P7 UN rfl
theorem QB:wT lW 99=[0,1]:=by
 unfold wT ur
 rw[rX]
 show pJ lW 99 V8=[0,1]
 unfold pJ
 rw[DY]
 exact UO
end Go.Proofs.YtjopoheligmmoaaGreatDoor
end
section
/- What the laws begin with: the walk. -/
namespace Go.Proofs.YtjopoheligmmoaaGreatDoor
open Go Go.cX Go.Proofs
set_option linter.unusedSimpArgs false
set_option linter.unusedVariables false
set_option maxRecDepth 8000
abbrev K8:AV:= .agg [.sc (.slice none 0 0),cq lW.cC,db lW.bw]
theorem rW (c:Cx):dQ c c K8 lW.av:=cX.dQ.agg (.cons (cX.dQ.nE c c 3 .any) (.cons (fun _ h=>h) (.cons (fun _ h=>h) .nil)))
theorem TX (u:bt) (hu:u.Wf) (hr:cY u):Pure Tryz.prog 15 [u.av] (fun r=>r= .dP [cR ((lq u).getD []),bl (lq u).isSome,i64 0]):=by
 have key:Pure Tryz.prog 15 [u.av] (fun r=>r=match lq u with|none=> .dP [.sc (.slice none 0 0),bl false,i64 0]|some w=> .dP [cR w,bl true,i64 0]):=by
  refine dS ((JN u hu hr).mono ?_) (by split<;>simp[cK,cW,cB])
  intro r H n h
  unfold KJ at h
  cases hq:lq u with
  |none=>rw[hq] at h;dsimp only at h ⊢;rw[h];rfl
  |some w=>
   rw[hq] at h
   obtain⟨b,d,rfl,hb⟩:=h
   show AV.dP [cX.dU H 5 (.sl b w.length),bl true,i64 0]=_
   rw[de (k:=4) hb (by simp),cx _ ((cB _ _).2 fun _ _=>by simp[cK])]
 refine mj key (mO _ _ _) fun c=> ?_
 cases lq u with
 |none=>exact dQ.dP (.cons (dQ.nE _ _ _ _) (.cons (fun _ h=>h) (.cons (fun _ h=>h) .nil)))
 |some w=>exact fun _ h=>h
theorem LB {H:Hp} {nx:Nat} {b:Nat} (hb:∃d,br H b=some (.row 3 1 d [i64 0,i64 1])):cI Tryz.prog 21 [K8, .sl b 2] H nx (fun r H' n=>r= .dP [.sl nx 2,bl true,i64 0]∧H'=(nx,some (.row 3 1 .any [i64 0,i64 1]))::H∧n=nx+1):=by
 have h:=IH lW xJ oJ [0,1] (by decide)
 have h2:=cI.args (bs:=[K8,cR [0,1]]) h fun c=> .cons (rW c) (.cons (fun _ h=>h) .nil)
 obtain⟨d,hb⟩:=hb
 refine cI.QJ (es:=[i64 0,i64 1]) (cs:=[bl true,i64 0]) (args2:=[K8,cR [0,1]]) (by simp[lZ]) (h2.mono ?_) ?_ ?_ ?_
 ·intro r H1 n1 hR
  unfold DN at hR
  rw[P8] at hR
  exact hR
 ·intro i hi
  match i,hi with
  |0,_=>trivial
  |1,_=>trivial
 ·show[cX.dU H 6 K8,cX.dU H 6 (.sl b [i64 0,i64 1].length)]=_
  rw[du _ (show cK 0 K8 by simp[cK,cW,cB]),de (k:=5) hb rfl]
  rfl
 ·simp[cK,cW,cB]
theorem v7 {H:Hp} {b:Nat} {d:AV} (hb:br H b=some (.row 3 1 d [i64 0,i64 1])):cX.dU H 6 (.sl b 2)=cR [0,1]:=by
 show cX.dU H 6 (.sl b [i64 0,i64 1].length)=_
 rw[de (k:=5) hb rfl]
 rfl
theorem A0 {H:Hp} {x y a b:AV} (h1:cX.dU H 6 x=a) (h2:cX.dU H 6 y=b):[x,y].map (cX.dU H 6)=[a,b]:=by
 subst h1 h2
 rfl
theorem DZ {H:Hp}:cX.dU H 6 (cR [0,1])=cR [0,1]:=du _ (by simp[cK,cW,cB])
theorem wx:Pure Tryz.prog 20 [] (fun r=>r=bl true):=by
 have c0:Pure Tryz.prog 47 [.sc (.string ⟨⟨[⟨⟨⟨97,by decide⟩⟩⟩]⟩⟩),i64 0,i64 1] (fun r=>r=(UL [97] 0 1).av):=K9
 have c1:Pure Tryz.prog 47 [.sc (.string ⟨⟨[⟨⟨⟨98,by decide⟩⟩⟩]⟩⟩),i64 1,i64 0] (fun r=>r=(UL [98] 1 0).av):=LA
 refine dS ?_ (by simp[cK])
 refine ar M3 rfl ?_
 refine WL.cut ?_
 refine cT ?_
 refine⟨_,_,_,Rt.refl _ _ _,WL.cut ?_⟩
 refine cT ?_
 refine⟨[(1, .pt 6 1 0 0)],_,_,Rt.trans (Rt.wk (Wk.gh (cb:=6) (j9 [3,4] _) 5 .any rfl fun b q hq=>qE hq)) (Rt.less cF),WL.last ?_⟩
 refine af (b:=6) (q:=some (.row 25 3 .any [K8])) rfl ?_
 intro H2 r3
 have c0:Pure Tryz.prog 13 [K8] (fun r=>r= .dP [mK (dG lW),i64 0]):=Pure.args (nR lW xJ oJ) fun c=> .cons (rW c) .nil
 have c1:Pure Tryz.prog 15 [K8] (fun r=>r= .dP [cR [0,1],bl true,i64 0]):=Pure.args (by have:=TX lW xJ oJ;rw[QA] at this;exact this) fun c=> .cons (rW c) .nil
 have c2:Pure Tryz.prog 25 [K8,i64 99] (fun r=>r= .dP [cR [0,1],bl true,i64 0]):=Pure.args (by have:=ZG lW xJ 99;rw[QB,rX,DY] at this;exact this) fun c=> .cons (rW c) (.cons (fun _ h=>h) .nil)
 have c3:Pure Tryz.prog 23 [K8,i64 99] (fun r=>r= .dP [iM [V8],i64 0]):=Pure.args (by have:=wR lW xJ 99;rw[rX,DY] at this;exact this) fun c=> .cons (rW c) (.cons (fun _ h=>h) .nil)
 refine cT ?_
 refine aJ (LB ⟨_,bu⟩) ?_
 rintro _ H3 n3 ⟨rfl,rfl,rfl⟩
 rw[xI]
 refine cT ?_
 refine aS (args2:=[cR [0,1],cR [0,1]]) (l7 [0,1] [0,1] (by decide) (by decide)) (A0 DZ (v7 bu)) (by simp[cW,cK,cB]) trivial ?_
 refine cT ?_
 refine aS (args2:=[cR [0,1],cR [0,1]]) (l7 [0,1] [0,1] (by decide) (by decide)) (A0 (v7 bu) (v7 bu)) (by simp[cW,cK,cB]) trivial ?_
 refine cT ?_
 refine aS (args2:=[cR [0,1],cR [0,1]]) (l7 [0,1] [0,1] (by decide) (by decide)) (A0 DZ (v7 bu)) (by simp[cW,cK,cB]) trivial ?_
 refine cT ?_
 first|exact rfl|exact⟨rfl⟩|trivial
end Go.Proofs.YtjopoheligmmoaaGreatDoor
end
section
/- What is so of the ring that is told. -/
namespace Go.Proofs.YtjopoheligmmoaaGreatDoor
open Go Go.cX Go.Proofs
set_option linter.unusedSimpArgs false
set_option linter.unusedVariables false
structure T5 (u:bt) (w:List Int):Prop where
 pos:0<w.length
 on:∀i,i<w.length→∃e∈dG u,e.held=w.getD i 0∧e.taken=w.getD ((i+1)%w.length) 0
 self:1<w.length→∀e∈dG u,e.held≠e.taken
 nd:w.Nodup
 least:∀i,i<w.length→w.getD 0 0≤w.getD i 0
 ZV:∀x∈w,0≤x∧x<u.cC.length
theorem SJ {u:bt} (hr:cY u) {w:List Int} (h:lq u=some w):T5 u w:=by
 unfold lq at h
 obtain⟨f,h1,h2,h3⟩:=jw h
 have hin:∀x,∀y∈ef u x,0≤y∧y<(u.cC.length:Int):=fun x=>xp hr x
 obtain⟨p1,p2,p3,p4,p5⟩:=(lT (lead:=ef u) (n:=u.cC.length) (first:=(f:Int)) hin (by omega)).1 w h2
 have key:∀c,q9 (ef u) c→0≤c.getD 0 0→c.getD 0 0<u.cC.length→w.length≤c.length∧(c.length≤w.length→(f:Int)≤c.getD 0 0):=fun c hc c0 c1=>by
  obtain⟨g,hg⟩:∃g:Nat,c.getD 0 0=g:=⟨(c.getD 0 0).toNat,by omega⟩
  have hs:=lT (lead:=ef u) (n:=u.cC.length) (first:=(g:Int)) hin (by omega)
  cases hb:pW (ef u) u.cC.length (g:Int) with
  |none=>exact absurd hg (hs.2 hb c hc)
  |some l=>
   have q1:=(hs.1 l hb).2.2.2.2 c hc hg
   have q2:=h3 g (by omega) l hb
   exact⟨by omega,fun hle=>by have:=q2.2 (by omega);omega⟩
 refine⟨p2.pos,fun i hi=> ?_,fun hlt e he hself=> ?_,p3,fun i hi=> ?_,p4⟩
 ·obtain⟨e,e1,e2,e3⟩:=pf.1 (p2.on i hi)
  exact⟨e,e1,e2,e3⟩
 ·have hin:=(re hr he).1
  have hc:q9 (ef u) [e.held]:=⟨by simp,fun i hi=>by
   have:i=0:=by simp at hi;omega
   subst this
   exact pf.2 ⟨e,he,rfl,by simpa using hself.symm⟩⟩
  have:=(key _ hc (by simpa using hin.1) (by simpa using hin.2)).1
  simp at this
  omega
 ·obtain⟨d,d1,d2,d3⟩:=p2.gb hi
  have hm:=p4 _ (cQ 0 hi)
  have:=(key d d1 (by rw[d2];exact hm.1) (by rw[d2];exact hm.2)).2 (by omega)
  rw[d2] at this
  rw[p1];exact this
end Go.Proofs.YtjopoheligmmoaaGreatDoor
end
section
/- A ring is one: the law's walk. -/
namespace Go.Proofs.YtjopoheligmmoaaGreatDoor
open Go Go.cX Go.Proofs
set_option linter.unusedSimpArgs false
set_option linter.unusedVariables false
set_option maxRecDepth 8000
theorem QG {E:List dz} {j:Nat} (h:j<E.length) (d:AV):(E.map dz.av).getD j d=(E.getD j default).av:=cy dz.av E j d h
def B4 (E:List dz) (a b:Int) (j:Nat):Bool:=(E.take j).any fun e=>decide (e.held=a)&&decide (e.taken=b)
theorem I5 {E:List dz} {a b:Int} {j:Nat} (h:j<E.length):B4 E a b (j+1)=(B4 E a b j||(decide ((E.getD j default).held=a)&&decide ((E.getD j default).taken=b))):=by
 unfold B4
 rw[List.take_add_one,List.any_append]
 simp[List.getD,h]
theorem N6 {E:List dz} {a b:Int} (h:∃e∈E,e.held=a∧e.taken=b):B4 E a b E.length=true:=by
 obtain⟨e,h1,h2,h3⟩:=h
 unfold B4
 rw[List.take_length,List.any_eq_true]
 exact⟨e,h1,by rw[h2,h3];simp⟩
theorem OO (u:bt) (hu:u.Wf) (hr:¬cY u):Pure Tryz.prog 15 [u.av] (fun r=>r= .dP [.sc (.slice none 0 0),bl false,i64 60]):=
 dS ((OQ u hu hr).mono fun r H n h=>by rw[h];rfl) (by simp[cK,cW])
set_option maxHeartbeats 4000000 in
theorem wL (u:bt) (hu:u.Wf):Pure Tryz.prog 10 [u.av] (fun r=>r=bl true):=by
 have c0:=wx
 by_cases hr:cY u
 ·have c1:=TX u hu hr
  have c2:=nR u hu hr
  have hfe:=uI (dG u)
  have hel:=mL hr (m:=u.bw.length) (Nat.le_refl _)
  have hle:(dG u).length≤65536 * 8:=by
   have:=hr.qN.2.2
   unfold dG;omega
  cases hq:lq u with
  |none=>
   rw[hq] at c1
   dsimp only[Option.getD,Option.isSome] at c1
   refine aI BX rfl ?_
   refine cT ?_
   first|exact rfl|trivial
  |some w=>
   rw[hq] at c1
   dsimp only[Option.getD,Option.isSome] at c1
   have ok:=SJ hr hq
   have hp:=ok.pos
   have hwl:w.length≤16:=Nat.le_trans (gA _ _ ok.nd ok.ZV) hr.qN.2.1
   refine aI BX rfl ?_
   refine cT ?_
   clear c0 c1 c2
   have hnd:=ok.nd
   have hon:=ok.on
   have hself:=ok.self
   have hleast:=ok.least
   generalize dG u=E at *
   refine aL (fun i:Nat=>[(3,cR w),(6,mK E),(8,i64 i)]) (fun i H n=>i≤w.length) (fun i=>w.length - i) 0 cF (Nat.zero_le _) ?_
   have a0:(w.map i64).length=w.length:=List.length_map _
   have a1:(E.map dz.av).length=E.length:=List.length_map _
   rintro i H n hi
   by_cases hil:i<w.length
   ·have e0:∀d,(w.map i64).getD ((i:Int)).toNat d=i64 (w.getD i 0):=fun d=>by rw[Int.toNat_natCast];exact cy i64 w i d hil
    have hml:(i+1)%w.length<w.length:=Nat.mod_lt _ hp
    have hrem:((i:Int)+1).tmod (w.length:Int)=(((i+1)%w.length:Nat):Int):=by
     rw[show(i:Int)+1=((i+1:Nat):Int) by omega]
     exact(Int.ofNat_tmod _ _).symm
    have e1:∀d,(w.map i64).getD (((i:Int)+1).tmod (w.length:Int)).toNat d=i64 (w.getD ((i+1)%w.length) 0):=fun d=>by rw[hrem,Int.toNat_natCast];exact cy i64 w _ d hml
    have hmet:=N6 (hon i hil)
    refine cT ?_
    refine aL (fun j:Nat=>[(3,cR w),(6,mK E),(8,i64 i),(9,bl (B4 E (w.getD i 0) (w.getD ((i+1)%w.length) 0) j)),(10,i64 j)]) (fun j H n=>j≤E.length) (fun j=>E.length - j) 0 cF (Nat.zero_le _) ?_
    rintro j H2 n2 hj
    by_cases hjl:j<E.length
    ·have e2:∀d,(E.map dz.av).getD ((j:Int)).toNat d=(E.getD j default).av:=fun d=>by rw[Int.toNat_natCast];exact QG hjl d
     have hs:=fun h=>hself h _ (cQ default hjl)
     have hnext:=I5 (a:=w.getD i 0) (b:=w.getD ((i+1)%w.length) 0) hjl
     have done:∀{b c:Bool},b=c→bl b=bl c:=fun h=>by rw[h]
     cases hb:B4 E (w.getD i 0) (w.getD ((i+1)%w.length) 0) j with
     |true=>
      rw[hb,Bool.true_or] at hnext
      refine cT ?_
      refine⟨j+1,by omega,by rw[hnext];exact cF,by omega⟩
     |false=>
      rw[hb,Bool.false_or] at hnext
      by_cases h1:(E.getD j default).held=w.getD i 0
      ·have r0:=decide_eq_true h1
       by_cases h2:(E.getD j default).taken=w.getD ((i+1)%w.length) 0
       ·have q1:=decide_eq_true h2
        have r1:decide ((E.getD j default).taken=w.getD (((i:Int)+1).tmod ((w.map i64).length:Int)).toNat default)=true:=by rw[a0,hrem,Int.toNat_natCast];exact q1
        rw[r0,q1,show(true&&true)=true from rfl] at hnext
        refine cT ?_
        refine⟨j+1,by omega,by rw[hnext];exact cF,by omega⟩
       ·have q1:=decide_eq_false h2
        have r1:decide ((E.getD j default).taken=w.getD (((i:Int)+1).tmod ((w.map i64).length:Int)).toNat default)=false:=by rw[a0,hrem,Int.toNat_natCast];exact q1
        rw[r0,q1,show(true&&false)=false from rfl] at hnext
        refine cT ?_
        refine⟨j+1,by omega,by rw[hnext];exact cF,by omega⟩
      ·have r0:=decide_eq_false h1
       rw[r0,Bool.false_and] at hnext
       refine cT ?_
       refine⟨j+1,by omega,by rw[hnext];exact cF,by omega⟩
    ·obtain rfl:j=E.length:=by omega
     rw[hmet]
     refine cT ?_
     refine aL (fun k:Nat=>[(3,cR w),(6,mK E),(8,i64 i),(9,bl true),(11,i64 k)]) (fun k H n=>k≤i) (fun k=>i - k) 0 cF (Nat.zero_le _) ?_
     rintro k H3 n3 hk
     by_cases hki:k<i
     ·have e2:∀d,(w.map i64).getD ((k:Int)).toNat d=i64 (w.getD k 0):=fun d=>by rw[Int.toNat_natCast];exact cy i64 w k d (by omega)
      have r0:decide (w.getD k 0≠w.getD i 0)=true:=decide_eq_true fun e=>by have:=zR hnd (by omega) hil e;omega
      refine cT ?_
      refine⟨k+1,by omega,cF,by omega⟩
     ·obtain rfl:k=i:=by omega
      have e2:∀d,(w.map i64).getD (0:Int).toNat d=i64 (w.getD 0 0):=fun d=>cy i64 w 0 d hp
      have r0:decide (w.getD k 0<w.getD 0 0)=false:=decide_eq_false (by have:=hleast k hil;omega)
      refine cT ?_
      refine⟨k+1,by omega,cF,by omega⟩
   ·obtain rfl:i=w.length:=by omega
    refine cT ?_
    first|exact rfl|exact ee (decide_eq_true (by omega))|trivial
 ·have c1:=OO u hu hr
  have c2:=tq u hu hr
  refine aI BX rfl ?_
  refine cT ?_
  first|exact rfl|trivial
end Go.Proofs.YtjopoheligmmoaaGreatDoor
end
section
/- A ring is one: for every unit. No conditions beyond the card's own. -/
namespace Go.Proofs.YtjopoheligmmoaaGreatDoor
open Go Go.cX Go.Proofs Go.RowKit Go.ChangeShapes Go.WideShapes Go.ChangeAt
set_option linter.unusedSimpArgs false
set_option linter.unusedVariables false
set_option maxRecDepth 100000 in
theorem qC (os:Os) (started:os.Started) (H:Type) (enc:TypeId×Value→H):
 ReturnsInHanded {} Tryz.checked os 10 .any (fun w args=>(Rows.stuckRingSpec.pre enc Tryz.prog Tryz.f10 [] false w args∧laidMetH Tryz.prog xn w)∧sizedMet enc Tryz.prog Tryz.f10 (OpenSpec.ofChange Rows.stuckRingSpec) false w args) (Rows.stuckRingSpec.post enc Tryz.prog Tryz.f10 false true false false):=by
 refine returnsInHanded_of_change_and (C:=Tryz.checked) (X:=fun w _=>laidMetH Tryz.prog xn w) (fun _ _ _ hh h=>h.of_heap hh) own started (by kernel_rfl) Tryz.func10
  (ChangeSpec.witness_shaped (enc:=enc) (C:=Tryz.checked) (os:=os) (X:=fun w _=>laidMetH Tryz.prog xn w) false (World.doorLaid Tryz.prog 400 os) #[.agg #[.slice none 0 0, .slice none 0 0, .slice none 0 0]] 8 rfl (World.shaped_of_RefB (by kernel_rfl) (by kernel_rfl)) (by kernel_rfl) (by kernel_rfl) (by kernel_rfl) (LI os _)) ?_
 intro W base args ds gs before hval hW _ hr hL _
 refine vq (ts:=[25]) (tb:=4) laidOut (by kernel_rfl) rfl Tryz.underlying4 (by kernel_rfl) (fun ds h=> ?_) (fun t ht=> ?_)
  (tK (ag:=true) (by kernel_rfl) CH (fun h=>by cases h) wB)
  (fun a h=> ?_) hval hW hr (SB hL)
 ·match ds,h with
  |[d0],_=>rfl
 ·have:∀t∈[25],Tryz.prog.readableRec t=true∧t<Tryz.prog.types.size:=by
   simp only[List.forall_mem_cons]
   refine⟨⟨by kernel_rfl,of_decide_eq_true (by kernel_rfl)⟩,by simp⟩
  exact this t ht
 ·exact wL a.1 h.1
theorem tP:Rows.StuckRingSaid:=
 OpenClaim.holds_of_wide 10 Tryz.f10 rfl rfl rfl rfl rfl rfl rfl ⟨rfl,rfl,rfl,rfl,rfl⟩ rfl rfl rfl rfl rfl (by kernel_rfl) Tryz.func10 (by kernel_rfl)
  (of_decide_eq_true (by kernel_rfl)) (by unfold Func.isWrapper;first|(rw[if_pos (by decide+kernel)];kernel_rfl)|(rw[if_neg (by decide+kernel)];exact⟨rfl,rfl⟩))
  (fun os started H enc _=>qC os started H enc)
set_option maxRecDepth 100000 in
theorem stuckRing_holds:Rows.StuckRingCardSaid:=
 Claim7.holds_tied_plain_at .later [] [.data] true (true, "14b4af768aa3e6a8dd3f17bcbe4400c6eab11aaff17ef5f81a71be15f13cfe4e") false
  tP (fun _ h=>by cases h) (by kernel_rfl) (fun _ h=>by cases h) stuckRing_row_tie rfl ⟨rfl,rfl⟩ (by kernel_rfl) rfl
  (fun f fn hf hfn=>by
   obtain rfl:f=10:=Option.some.inj ((show Tryz.prog.funcNamed "stile/stilelaw24.StuckRing" =some 10 by kernel_rfl).symm.trans hf)|>.symm
   obtain rfl:fn=Tryz.f10:=(Option.some.inj (Tryz.func10.symm.trans hfn)).symm
   exact⟨by kernel_rfl,fun j t ht=>by
    rw[show Tryz.f10.params=#[25] by kernel_rfl] at ht
    have hm:t∈[25]:=by simpa using Array.mem_of_getElem? ht
    have hall:([25].all fun u=> !Tryz.prog.wantsStandIn u)=true:=by kernel_rfl
    exact(show Tryz.prog.wantsStandIn t=false by simpa using List.all_eq_true.1 hall t hm)⟩)
  (by kernel_rfl)
end Go.Proofs.YtjopoheligmmoaaGreatDoor
end
