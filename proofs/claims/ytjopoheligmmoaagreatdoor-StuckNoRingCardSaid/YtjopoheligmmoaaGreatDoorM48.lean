import Derived.Test.YtjopoheligmmoaaGreatDoorM47
import Derived.Test.YtjopoheligmmoaaGreatDoorM23
import Derived.Test.YtjopoheligmmoaaGreatDoorM38
import Derived.Test.YtjopoheligmmoaaGreatDoorM41
section
/- What the laws begin with: two threads that cross. -/
namespace Go.cY
open Go.RowKit
set_option linter.unusedSimpArgs false
set_option linter.unusedVariables false
theorem cH.VK {P:Program} {f:FuncId} {args args2:List AV} {e:TypeId} {sz:Nat} {es cs:List AV} (dY:ll cs) (h:cH P f args2 [] 0 (fun r1 H1 _=>∃b d0,r1= .dL (.sl b es.length::cs)∧br H1 b=some (.row e sz d0 es))) (hfl:∀i,i<es.length→fx (es.getD i .any)) (d:AV) {H:Hp} {id:Nat} (ha:args.map (dU H 6)=args2) (hfa:cX 0 args2):
 jz P f args H id (fun r' H''=>r'= .dL (.sl id es.length::cs)∧H''=cy H (some (id, .row e sz d es))):=by
 refine⟨h.1,fun w0 c vs hS hH hid hv=> ?_⟩
 have hS0:dV c.w ⟨fun _=>none,br [],fun _=>False,c.w,c.M0⟩:=⟨Below.refl _ _,hS.jq,fun b e sz d es he=>by simp[br] at he,fun b b' k k' blk o z o' z' hk=>by simp[br] at hk⟩
 subst ha
 have hv':cc ⟨fun _=>none,br [],fun _=>False,c.w,c.M0⟩ (args.map (dU H 6)) vs:=kK hS hH hfa hv
 refine(h.2 c.w _ vs hS0 rfl (fun _ h=>h.elim) hv').mono ?_
 rintro en w' ⟨v,r1,H1,nx',ρ,U,he,⟨b,d0,rfl,hb⟩,hU,hS',_,hvr⟩
 rw[VR] at hvr
 obtain⟨us,hus,hvr⟩:=hvr
 rw[cc] at hvr
 obtain⟨x,v3,hx3,hvr,hv3⟩:=hvr
 rw[VR] at hvr
 obtain⟨_,ad,cap,hvv,hrr⟩:=hvr
 obtain⟨_,hr2⟩:=hrr _ _ _ _ hb
 have hr3:=hr2 rfl
 obtain⟨_,hz,hor⟩:=hS'.jU b _ _ _ _ hb (tA hr3)
 have hbel:=hS'.below
 obtain⟨s1,s2⟩:=hS.world hbel
 have hHeq:br (cy H (some (id, .row e sz d es)))=eo c.H id (some (.row e sz d es)):=by rw[dR,hH]
 have fin:∀c2:Cx,VR c2 (.sl id es.length) x→VR c2 (.dL (.sl id es.length::cs)) v:=fun c2 h2=>by
  rw[VR]
  refine⟨us,hus, ?_⟩
  rw[hx3,cc]
  exact⟨x,v3,rfl,h2,mW dY hv3⟩
 rcases hor with⟨h0,hes⟩|⟨blk,o,z,hρ,hlow,⟨arr,harr,hsz⟩,hlz,hrow⟩
 ·subst hes
  obtain⟨p1,p2⟩:=s1.J5 (b:=id) (e:=e) (sz:=sz) d hz hid
  refine⟨v,_,_,eo c.ρ id none,he,⟨rfl,rfl⟩, ?_, ?_,fin _ ?_⟩
  ·rw[hHeq];exact p1
  ·rw[hHeq];exact s2.trans p2
  ·rw[hHeq,VR]
   refine⟨.inr rfl,ad,cap,hvv,fun e' sz' d' es' he'=> ?_⟩
   simp only[iU,dF,Option.some.injEq,eS.row.injEq] at he'
   obtain⟨rfl,rfl,rfl,rfl⟩:=he'
   refine⟨Nat.le_refl _,fun _=> .inl ⟨by simp[iU], ?_⟩⟩
   rcases hr3 with⟨_,h2,h3⟩|⟨blk,o,z,h2,_⟩
   ·exact⟨h2,h3⟩
   ·rw[h0] at h2;cases h2
 ·obtain⟨p1,p2⟩:=hS.pG (b:=id) (e:=e) (sz:=sz) d (es:=es) (w':=w') (blk:=blk) (o:=o) (z:=z) hz (.inl hid) (.inl hlow) hbel.os hbel.tape hbel.output hbel.size (fun k hk _=>hbel.block k hk) harr hsz hlz (fun hle i hi=>by
   obtain⟨y,x1,x2⟩:=db hrow i hi
   refine⟨y,x1,ln ?_ x2⟩
   have:=hfl i hi
   simpa[List.getD,hi] using this)
  refine⟨v,_,_,eo c.ρ id (some (blk,o,z)),he,⟨rfl,rfl⟩, ?_, ?_,fin _ ?_⟩
  ·rw[hHeq];exact p1
  ·rw[hHeq];exact p2
  ·rw[hHeq,VR]
   refine⟨.inr rfl,ad,cap,hvv,fun e' sz' d' es' he'=> ?_⟩
   simp only[iU,dF,Option.some.injEq,eS.row.injEq] at he'
   obtain⟨rfl,rfl,rfl,rfl⟩:=he'
   refine⟨by omega,fun _=> .inr ⟨blk,o,z,by simp[iU], ?_⟩⟩
   rcases hr3 with⟨h2,_,_⟩|⟨blk',o',z',h2,h3,h4,h5,h6⟩
   ·rw[hρ] at h2;cases h2
   ·rw[hρ] at h2;cases h2
    exact⟨h3,h4,h5,h6⟩
theorem cH.Q4 {P:Program} {f:FuncId} {args args2:List AV} {e:TypeId} {sz:Nat} {es cs:List AV} (dY:ll cs) (h:cH P f args2 [] 0 (fun r1 H1 _=>∃b d0,r1= .dL (.sl b es.length::cs)∧br H1 b=some (.row e sz d0 es))) (hfl:∀i,i<es.length→fx (es.getD i .any)) {H:Hp} {nx:Nat} (ha:args.map (dU H 6)=args2) (hfa:cX 0 args2):
 cH P f args H nx (fun r H' n=>r= .dL (.sl nx es.length::cs)∧H'=(nx,some (.row e sz .any es))::H∧n=nx+1):=
 (jz.W8 (h.VK dY hfl .any ha hfa)).mono fun r H' n ⟨⟨h1,h2⟩,h3⟩=>⟨h1,h2,h3⟩
end Go.cY
namespace Go.Proofs.YtjopoheligmmoaaGreatDoor
open Go Go.cY Go.Proofs
set_option linter.unusedSimpArgs false
set_option linter.unusedVariables false
set_option maxRecDepth 8000
theorem DJ (l m:List Int) (hl:l.length * 8≤140737488351232) (hm:m.length * 8≤140737488351232):Pure Tryz.prog 44 [fW l,fW m] (fun r=>r=bl (decide (l=m))):=by
 refine aI N0 rfl ?_
 unfold fW
 repeat' (first|((with_reducible refine aF ?_);conv=>whnf)|refine aG ?_|exact aC|with_reducible refine aD ?_ ?_|(apply aB;(·exact cO))|refine aH ?_|((with_reducible refine aA ?_ ?_)<;>intro hc<;>(try simp only[List.length_map,ne_eq,dY] at hc)<;>try(exfalso;omega)))
 ·refine ew (Eq.symm ?_)
  exact decide_eq_false fun e=>hc (by rw[e])
 ·have hlm:l.length=m.length:=by omega
  refine aM (fun i:Nat=>[(0,fW l),(1,fW m),(5,i64 i)])
   (fun i H n=>i≤l.length∧∀j,j<i→l.getD j 0=m.getD j 0) (fun i=>l.length - i) 0 cJ ⟨Nat.zero_le _,fun _ h=>by omega⟩ ?_
  unfold fW
  rintro i H n ⟨hi,hall⟩
  by_cases hil:i<l.length
  ·have e1:=oe (l:=l) hil
   have e2:=oe (l:=m) (i:=i) (by omega)
   repeat' (first|((with_reducible refine aF ?_);conv=>whnf)|refine aG ?_|exact aC|with_reducible refine aD ?_ ?_|(apply aB;(·(first|exact e1 _|exact e2 _|exact cO)))|refine aH ?_|((with_reducible refine aA ?_ ?_)<;>intro hc<;>(try simp only[List.length_map,ne_eq,dY] at hc)<;>try(exfalso;omega)))
   ·refine ew (Eq.symm ?_)
    exact decide_eq_false fun e=>hc (by rw[e])
   ·refine⟨i+1,by omega,cJ,by omega,fun j hj=> ?_⟩
    by_cases hji:j=i
    ·subst hji;exact hc
    ·exact hall j (by omega)
  ·have:i=l.length:=by omega
   subst this
   repeat' (first|((with_reducible refine aF ?_);conv=>whnf)|refine aG ?_|exact aC|with_reducible refine aD ?_ ?_|(apply aB;(·exact cO))|refine aH ?_|((with_reducible refine aA ?_ ?_)<;>intro hc<;>(try simp only[List.length_map,ne_eq,dY] at hc)<;>try(exfalso;omega)))
   refine ew (Eq.symm ?_)
   refine decide_eq_true (List.ext_getElem hlm fun j h1 h2=> ?_)
   have:=hall j h1
   simpa[List.getD,h1,h2] using this
theorem lu (l m:List Int) (hl:l.length * 8≤140737488351232) (hm:m.length * 8≤140737488351232):Pure Tryz.prog 18 [cQ l,cQ m] (fun r=>r=bl (decide (l=m))):=by
 have c0:=DJ l m hl hm
 unfold fW at c0
 refine aI NQ rfl ?_
 refine cU ?_
 first|exact rfl|trivial
def XO (k th nx o:Int):Node:=⟨k,0,0,th,⟨false,0,0⟩,⟨false,0,0⟩,nx,0,o⟩
def U8 (name:List UInt8) (a b:Int):cC:=⟨⟨name.toArray⟩,0,0,[XO 5 a 1 0,XO 5 b 2 1,XO 6 b 3 2,XO 6 a 4 3,XO 9 0 0 4]⟩
def lg:bu:=⟨[],[⟨⟨(List.toArray [108])⟩,0,0⟩,⟨⟨(List.toArray [109])⟩,0,0⟩],[U8 [97] 0 1,U8 [98] 1 0]⟩
theorem L0:Pure Tryz.prog 47 [.sc (.string ⟨(List.toArray [97])⟩),i64 0,i64 1] (fun r=>r=(U8 [97] 0 1).av):=
 kX (by simp[cI,cB]) (by kernel_rfl)
theorem L1:Pure Tryz.prog 47 [.sc (.string ⟨(List.toArray [98])⟩),i64 1,i64 0] (fun r=>r=(U8 [98] 1 0).av):=
 kX (by simp[cI,cB]) (by kernel_rfl)
theorem oR:cS lg:=kG.1 (by decide+kernel)
theorem xW:lg.Wf:=by
 have hd:∀d∈lg.cD,d.Wf:=fun d h=>by
  simp only[lg,List.mem_cons,List.not_mem_nil,or_false] at h
  rcases h with rfl|rfl<;>exact⟨by decide+kernel,by decide+kernel,by decide+kernel⟩
 refine⟨fun _ h=>by simp[lg] at h,by simp[lg],hd,by simp[lg],fun g hg=> ?_,by simp[lg]⟩
 simp only[lg,List.mem_cons,List.not_mem_nil,or_false] at hg
 rcases hg with rfl|rfl<;>
 ·refine⟨by decide+kernel,by decide+kernel,by decide+kernel,fun n hn=> ?_,by decide+kernel⟩
  simp only[U8,List.mem_cons,List.not_mem_nil,or_false] at hn
  rcases hn with rfl|rfl|rfl|rfl|rfl<;>
   exact⟨by decide+kernel,by decide+kernel,by decide+kernel,by decide+kernel,⟨by decide+kernel,by decide+kernel⟩,⟨by decide+kernel,by decide+kernel⟩,by decide+kernel,by decide+kernel,by decide+kernel⟩
theorem xV:dP lg=[⟨0,1,0,1⟩,⟨1,0,1,1⟩]:=by decide+kernel
theorem QV:fQ lg=fun h=>if h=0 then[1] else if h=1 then[0] else[]:=by
 funext h
 unfold fQ
 rw[xV]
 have e:jF [⟨0,1,0,1⟩,⟨1,0,1,1⟩] h=if h=0 then[1] else if h=1 then[0] else[]:=by
  unfold jF
  simp only[List.foldl_cons,List.foldl_nil]
  by_cases h0:h=0
  ·subst h0;simp
  ·by_cases h1:h=1
   ·subst h1;simp
   ·have e0:¬(0:Int)=h:=fun e=>h0 e.symm
    have e1:¬(1:Int)=h:=fun e=>h1 e.symm
    simp[h0,h1,e0,e1]
 rw[e]
 unfold eG
 split
 ·simp
 ·split<;>simp
theorem QW:lU lg=some [0,1]:=by
 unfold lU
 rw[QV]
 decide+kernel
theorem QU:iM lg (fU lg (dX lg) [0,1])=some [0,1]:=by decide+kernel
def P5:List cT:=(gT lg 99).getD []
theorem U9:gT lg 99=some P5:=by
 have h:(gT lg 99).isSome=true:=by decide+kernel
 unfold P5
 cases hs:gT lg 99 with
 |none=>rw[hs] at h;cases h
 |some l=>rfl
def W0:cj:=⟨[],[],false⟩
theorem QS:∀e∈dQ lg P5 P5.length,e.ended=true∨e=W0:=by decide+kernel
theorem VA:W0∈dQ lg P5 P5.length:=by decide+kernel
theorem VB:gv P5 (fK lg P5 W0 P5.length)=[0,1]:=by decide+kernel
theorem EI:eE lg 99=(0,P5):=by rw[oK oR (by decide),show(99:Int).toNat=99 from rfl,U9]
theorem ON {u:bu} {l:List cT} {x:cj} (h:∀e∈dQ u l l.length,e.ended=true∨e=x) (hx:x∈dQ u l l.length) (hx2:x.ended=false):ly (gp u l)=[x]:=by
 have h1:=(vv u l).filter fun e=> !e.ended
 change (ly (gp u l)).Pairwise _ at h1
 have h2:∀e,e∈ly (gp u l)↔e=x:=fun e=>by
  unfold ly
  rw[List.mem_filter,uM]
  constructor
  ·rintro⟨q1,q2⟩
   rcases h e q1 with h3|h3
   ·rw[h3] at q2;cases q2
   ·exact h3
  ·rintro rfl
   exact⟨hx,by rw[hx2];rfl⟩
 cases hl:ly (gp u l) with
 |nil=>exact absurd ((h2 x).2 rfl) (by rw[hl];simp)
 |cons a t=>
  rw[hl] at h1 h2
  have ha:=(h2 a).1 (by simp)
  subst ha
  cases t with
  |nil=>rfl
  |cons b t=>
   have hb:=(h2 b).1 (by simp)
   subst hb
   have:=(List.pairwise_cons.1 h1).1 b (by simp)
   rw[(j0.zero _ _).2 rfl] at this
   omega
theorem ry:fE lg 99=[W0]:=by
 unfold fE
 rw[EI]
 rw[if_pos rfl]
 exact ON QS VA rfl
theorem QX:w9 lg 99=[0,1]:=by
 unfold w9 vK
 rw[ry]
 show pS lg 99 W0=[0,1]
 unfold pS
 rw[EI]
 exact VB
end Go.Proofs.YtjopoheligmmoaaGreatDoor
end
section
/- What the laws begin with: the walk. -/
namespace Go.Proofs.YtjopoheligmmoaaGreatDoor
open Go Go.cY Go.Proofs
set_option linter.unusedSimpArgs false
set_option linter.unusedVariables false
set_option maxRecDepth 8000
abbrev LZ:AV:= .agg [.sc (.slice none 0 0),cq lg.cD,dc lg.bt]
theorem rv (c:Cx):dM c c LZ lg.av:=cY.dM.agg (.cons (cY.dM.lT c c 3 .any) (.cons (fun _ h=>h) (.cons (fun _ h=>h) .nil)))
theorem UH (u:bu) (hu:u.Wf) (hr:cS u):Pure Tryz.prog 15 [u.av] (fun r=>r= .dL [cQ ((lU u).getD []),bl (lU u).isSome,i64 0]):=by
 have key:Pure Tryz.prog 15 [u.av] (fun r=>r=match lU u with|none=> .dL [.sc (.slice none 0 0),bl false,i64 0]|some w=> .dL [cQ w,bl true,i64 0]):=by
  refine dK ((KA u hu hr).mono ?_) (by split<;>simp[cI,cX,cB])
  intro r H n h
  unfold K5 at h
  cases hq:lU u with
  |none=>rw[hq] at h;dsimp only at h ⊢;rw[h];rfl
  |some w=>
   rw[hq] at h
   obtain⟨b,d,rfl,hb⟩:=h
   show AV.dL [cY.dU H 5 (.sl b w.length),bl true,i64 0]=_
   rw[df (k:=4) hb (by simp),cu _ ((cB _ _).2 fun _ _=>by simp[cI])]
 refine iE key (iB _ _ _) fun c=> ?_
 cases lU u with
 |none=>exact dM.dL (.cons (dM.lT _ _ _ _) (.cons (fun _ h=>h) (.cons (fun _ h=>h) .nil)))
 |some w=>exact fun _ h=>h
theorem X5 (u:bu) (hu:u.Wf) (hr:cS u) (w:List Int) (hw:w.length≤1048576):Pure Tryz.prog 21 [u.av,cQ w] (fun r=>r= .dL [cQ ((iM u (fU u (dX u) w)).getD []),bl (iM u (fU u (dX u) w)).isSome,i64 0]):=by
 have key:Pure Tryz.prog 21 [u.av,cQ w] (fun r=>r=match iM u (fU u (dX u) w) with|none=> .dL [.sc (.slice none 0 0),bl false,i64 0]|some w=> .dL [cQ w,bl true,i64 0]):=by
  refine dK ((ug u hu hr w hw).mono ?_) (by split<;>simp[cI,cX,cB])
  intro r H n h
  unfold wu at h
  cases hq:iM u (fU u (dX u) w) with
  |none=>rw[hq] at h;dsimp only at h ⊢;rw[h];rfl
  |some w=>
   rw[hq] at h
   obtain⟨b,d,rfl,hb⟩:=h
   show AV.dL [cY.dU H 5 (.sl b w.length),bl true,i64 0]=_
   rw[df (k:=4) hb (by simp),cu _ ((cB _ _).2 fun _ _=>by simp[cI])]
 refine iE key (iB _ _ _) fun c=> ?_
 cases iM u (fU u (dX u) w) with
 |none=>exact dM.dL (.cons (dM.lT _ _ _ _) (.cons (fun _ h=>h) (.cons (fun _ h=>h) .nil)))
 |some w=>exact fun _ h=>h
theorem L3 {H:Hp} {nx:Nat} {b:Nat} (hb:∃d,br H b=some (.row 3 1 d [i64 0,i64 1])):cH Tryz.prog 21 [LZ, .sl b 2] H nx (fun r H' n=>r= .dL [.sl nx 2,bl true,i64 0]∧H'=(nx,some (.row 3 1 .any [i64 0,i64 1]))::H∧n=nx+1):=by
 have h:=ug lg xW oR [0,1] (by decide)
 have h2:=cH.args (bs:=[LZ,cQ [0,1]]) h fun c=> .cons (rv c) (.cons (fun _ h=>h) .nil)
 obtain⟨d,hb⟩:=hb
 refine cH.Q4 (es:=[i64 0,i64 1]) (cs:=[bl true,i64 0]) (args2:=[LZ,cQ [0,1]]) (by simp[ll]) (h2.mono ?_) ?_ ?_ ?_
 ·intro r H1 n1 hR
  unfold wu at hR
  rw[QU] at hR
  exact hR
 ·intro i hi
  match i,hi with
  |0,_=>trivial
  |1,_=>trivial
 ·show[cY.dU H 6 LZ,cY.dU H 6 (.sl b [i64 0,i64 1].length)]=_
  rw[du _ (show cI 0 LZ by simp[cI,cX,cB]),df (k:=5) hb rfl]
  rfl
 ·simp[cI,cX,cB]
theorem vr {H:Hp} {b:Nat} {d:AV} (hb:br H b=some (.row 3 1 d [i64 0,i64 1])):cY.dU H 6 (.sl b 2)=cQ [0,1]:=by
 show cY.dU H 6 (.sl b [i64 0,i64 1].length)=_
 rw[df (k:=5) hb rfl]
 rfl
theorem BJ {H:Hp} {x y a b:AV} (h1:cY.dU H 6 x=a) (h2:cY.dU H 6 y=b):[x,y].map (cY.dU H 6)=[a,b]:=by
 subst h1 h2
 rfl
theorem EJ {H:Hp}:cY.dU H 6 (cQ [0,1])=cQ [0,1]:=du _ (by simp[cI,cX,cB])
theorem xJ:Pure Tryz.prog 20 [] (fun r=>r=bl true):=by
 have c0:Pure Tryz.prog 47 [.sc (.string ⟨⟨[⟨⟨⟨97,by decide⟩⟩⟩]⟩⟩),i64 0,i64 1] (fun r=>r=(U8 [97] 0 1).av):=L0
 have c1:Pure Tryz.prog 47 [.sc (.string ⟨⟨[⟨⟨⟨98,by decide⟩⟩⟩]⟩⟩),i64 1,i64 0] (fun r=>r=(U8 [98] 1 0).av):=L1
 refine dK ?_ (by simp[cI])
 refine ar NR rfl ?_
 refine WL.cut ?_
 refine cU ?_
 refine⟨_,_,_,Rt.refl _ _ _,WL.cut ?_⟩
 refine cU ?_
 refine⟨[(1, .pt 6 1 0 0)],_,_,Rt.trans (Rt.wk (Wk.gk (cb:=6) (jg [3,4] _) 5 .any rfl fun b q hq=>qN hq)) (Rt.less cJ),WL.last ?_⟩
 refine af (b:=6) (q:=some (.row 25 3 .any [LZ])) rfl ?_
 intro H2 r3
 have c0:Pure Tryz.prog 13 [LZ] (fun r=>r= .dL [vu (dP lg),i64 0]):=Pure.args (sC lg xW oR) fun c=> .cons (rv c) .nil
 have c1:Pure Tryz.prog 15 [LZ] (fun r=>r= .dL [cQ [0,1],bl true,i64 0]):=Pure.args (by have:=UH lg xW oR;rw[QW] at this;exact this) fun c=> .cons (rv c) .nil
 have c2:Pure Tryz.prog 25 [LZ,i64 99] (fun r=>r= .dL [cQ [0,1],bl true,i64 0]):=Pure.args (by have:=YS lg xW 99;rw[QX,ry,EI] at this;exact this) fun c=> .cons (rv c) (.cons (fun _ h=>h) .nil)
 have c3:Pure Tryz.prog 23 [LZ,i64 99] (fun r=>r= .dL [iS [W0],i64 0]):=Pure.args (by have:=tG lg xW 99;rw[ry,EI] at this;exact this) fun c=> .cons (rv c) (.cons (fun _ h=>h) .nil)
 refine cU ?_
 refine aJ (L3 ⟨_,bw⟩) ?_
 rintro _ H3 n3 ⟨rfl,rfl,rfl⟩
 rw[xV]
 refine cU ?_
 refine aS (args2:=[cQ [0,1],cQ [0,1]]) (lu [0,1] [0,1] (by decide) (by decide)) (BJ EJ (vr bw)) (by simp[cX,cI,cB]) trivial ?_
 refine cU ?_
 refine aS (args2:=[cQ [0,1],cQ [0,1]]) (lu [0,1] [0,1] (by decide) (by decide)) (BJ (vr bw) (vr bw)) (by simp[cX,cI,cB]) trivial ?_
 refine cU ?_
 refine aS (args2:=[cQ [0,1],cQ [0,1]]) (lu [0,1] [0,1] (by decide) (by decide)) (BJ EJ (vr bw)) (by simp[cX,cI,cB]) trivial ?_
 refine cU ?_
 first|exact rfl|exact⟨rfl⟩|trivial
end Go.Proofs.YtjopoheligmmoaaGreatDoor
end
section
/- What is so of the ring that is told. -/
namespace Go.Proofs.YtjopoheligmmoaaGreatDoor
open Go Go.cY Go.Proofs
set_option linter.unusedSimpArgs false
set_option linter.unusedVariables false
end Go.Proofs.YtjopoheligmmoaaGreatDoor
end
section
/- A ring is one: the law's walk. -/
namespace Go.Proofs.YtjopoheligmmoaaGreatDoor
open Go Go.cY Go.Proofs
set_option linter.unusedSimpArgs false
set_option linter.unusedVariables false
set_option maxRecDepth 8000
theorem O8 (u:bu) (hu:u.Wf) (hr:¬cS u):Pure Tryz.prog 15 [u.av] (fun r=>r= .dL [.sc (.slice none 0 0),bl false,i64 60]):=
 dK ((PC u hu hr).mono fun r H n h=>by rw[h];rfl) (by simp[cI,cX])
end Go.Proofs.YtjopoheligmmoaaGreatDoor
end
section
/- A knot lies on a ring of edges; what is stuck is knotted. -/
namespace Go.Proofs.YtjopoheligmmoaaGreatDoor
open Go Go.cY Go.Proofs
set_option linter.unusedSimpArgs false
set_option linter.unusedVariables false
section
variable {u:bu} {m:MS}
theorem PX {l:List cT} (hf:gy u l):∀i,i<l.length→fU u (dX u) (gv l (some i))=(l.getD i default).m:=by
 intro i
 induction i using Nat.strongRecOn with
 |_ i ih=>
  intro hi
  by_cases h0:i=0
  ·subst h0
   have hw:gv l (some 0)=[]:=rfl
   rw[hw,hf.first]
   rfl
  obtain⟨k,t,h1,h2,h3,h4⟩:=hf.HQ i (by omega) hi
  have g2:=ih k h1 (by omega)
  have hw:gv l (some i)=gv l (some k)++[(t:Int)]:=by
   show(lM l i).reverse=(lM l k).reverse++[(t:Int)]
   rw[re hf hi (by rw[h4];exact Int.natCast_nonneg _),h4,List.reverse_cons]
   rfl
  rw[hw,qK,g2,h4]
  show(if _=0 then _ else _)=_
  rw[if_pos h3]
  rfl
theorem II (hu:u.Wf) (hr:cS u) {l:List cT} (hf:gy u l) {i:Nat} (hi:i<l.length):qi u (l.getD i default).m:=by
 rw[←PX hf i hi]
 exact(qi.new hu hr).C2 hu hr
def AX (u:bu) (m:MS):Prop:=(∀t,t<u.bt.length→m.k8 u (t:Nat)≠0)∧∃t,t<u.bt.length∧m.k8 u (t:Nat)≠70
theorem AX.ZS (hr:cS u) (h:qi u m) (hs:AX u m):∃l,iM u m=some l:=by
 obtain⟨h1,t,h2,h3⟩:=hs
 exact DX hr h h1 h2 h3
theorem PL (h:eI u m) (h1:m.stuck u=true) (h2:m.ended u=false):AX u m:=by
 unfold MS.stuck at h1
 unfold MS.ended at h2
 rw[h.pV] at h1 h2
 rw[List.all_eq_true] at h1
 refine⟨fun t ht=> ?_, ?_⟩
 ·have:=h1 t (List.mem_range.2 ht)
  exact of_decide_eq_true this
 ·rw[←Bool.not_eq_true,List.all_eq_true] at h2
  apply Classical.byContradiction
  intro hn
  apply h2
  intro t ht
  apply decide_eq_true
  apply Classical.byContradiction
  intro h7
  exact hn ⟨t,List.mem_range.1 ht,h7⟩
theorem eU.next {l:List Int} (hk:eU u m l) {i:Nat} (hi:i<l.length):(m.node u (l.getD i 0).toNat).kind=5∧m.hold.getD (m.node u (l.getD i 0).toNat).cM.toNat 0=l.getD ((i+1)%l.length) 0:=by
 have h1:=hk.ring.on i hi
 have h3:=hk.ring.nn _ (cP 0 (Nat.mod_lt (i+1) hk.ring.pos))
 unfold eK at h1
 split at h1
 ·rename_i h5
  exact⟨h5,h1⟩
 ·omega
theorem eU.ZL (hr:cS u) (h:qi u m) {l:List Int} (hk:eU u m l) {i:Nat} (hi:i<l.length):
 (⟨(m.node u (l.getD i 0).toNat).cM,(m.node u (l.getD ((i+1)%l.length) 0).toNat).cM,l.getD ((i+1)%l.length) 0,m.at_.getD (l.getD ((i+1)%l.length) 0).toNat 0⟩:eO)∈dP u:=by
 have hj:(i+1)%l.length<l.length:=Nat.mod_lt _ hk.ring.pos
 obtain⟨a1,a2⟩:=hk.next hi
 obtain⟨b1,_⟩:=hk.next hj
 obtain⟨s0,s1⟩:=hk.VP i hi
 obtain⟨t0,t1⟩:=hk.VP _ hj
 generalize l.getD i 0=s at *
 generalize l.getD ((i+1)%l.length) 0=t at *
 obtain⟨tn,rfl⟩:∃k:Nat,t=k:=⟨t.toNat,by omega⟩
 rw[Int.toNat_natCast] at *
 have htn:tn<u.bt.length:=by omega
 obtain⟨x0,x1⟩:=eh (h.ok.node hr (t:=s.toNat) (by omega)) (.inl a1)
 have hown:=(h.inv.own tn htn _ x0 x1).1 a2
 have hat:=h.ok.gK tn htn
 refine uK.2 ⟨tn,(m.at_.getD tn 0).toNat,htn,by omega,b1, ?_,rfl,rfl, ?_⟩
 ·exact(GU (hr.gr htn) hr.ql.2.1 _ _).2 hown
 ·show m.at_.getD tn 0=_
  omega
theorem eU.cyc (hr:cS u) (h:qi u m) {l:List Int} (hk:eU u m l):rJ (fQ u) (l.map fun t=>(m.node u t.toNat).cM)∧0≤(l.map fun t=>(m.node u t.toNat).cM).getD 0 0∧(l.map fun t=>(m.node u t.toNat).cM).getD 0 0<u.cD.length:=by
 have gd:∀i,i<l.length→(l.map fun t=>(m.node u t.toNat).cM).getD i 0=(m.node u (l.getD i 0).toNat).cM:=fun i hi=>by simp[List.getD,hi]
 have hp:=hk.ring.pos
 refine⟨⟨by simpa using hp,fun i hi=> ?_⟩, ?_⟩
 ·rw[List.length_map] at hi ⊢
  have hj:(i+1)%l.length<l.length:=Nat.mod_lt _ hp
  rw[gd i hi,gd _ hj]
  exact uj.2 ⟨_,hk.ZL hr h hi,rfl,rfl⟩
 ·rw[gd 0 hp]
  have:=hk.VP 0 hp
  exact eh (h.ok.node hr (t:=(l.getD 0 0).toNat) (by omega)) (.inl (hk.next hp).1)
theorem oz (hr:cS u) (h:qi u m) (hq:lU u=none):iM u m=none:=by
 cases hk:iM u m with
 |none=>rfl
 |some l=>
  obtain⟨c1,c2,c3⟩:=(RE hr h.ok hk).cyc hr h
  generalize l.map (fun t=>(m.node u t.toNat).cM)=c at *
  obtain⟨g,hg⟩:∃g:Nat,c.getD 0 0=g:=⟨(c.getD 0 0).toNat,by omega⟩
  have hb:=pc hq g (by omega)
  exact absurd hg ((oO (lead:=fQ u) (n:=u.cD.length) (first:=(g:Int)) (fun x=>yF hr x) (by omega)).2 hb c c1)
theorem AD (hu:u.Wf) {most:Int} (hne:fE u most≠[]):(eE u most).1=0:=by
 apply Classical.byContradiction
 intro h
 unfold fE at hne
 rw[if_neg h] at hne
 exact hne rfl
theorem ta (hu:u.Wf) {most:Int} (hq:lU u=none):fE u most=[]:=by
 apply Classical.byContradiction
 intro hne
 have h0:=AD hu hne
 obtain⟨hr,hf,hl⟩:=EA hu h0
 obtain⟨e,he⟩:=List.exists_mem_of_ne_nil _ hne
 obtain⟨i,g1,g2,g3,g4,g5⟩:=vH hu h0 he
 have hs:=II hu hr hf g1
 rw[←g4] at g5
 obtain⟨l,hk⟩:=(PL hs.ok g3 g5).ZS hr hs
 rw[oz hr hs hq] at hk
 cases hk
end
end Go.Proofs.YtjopoheligmmoaaGreatDoor
end
section
/- Knot of any unit and schedule; a machine behind a schedule. -/
namespace Go.Proofs.YtjopoheligmmoaaGreatDoor
open Go Go.cY Go.Proofs
set_option linter.unusedSimpArgs false
set_option linter.unusedVariables false
set_option maxRecDepth 8000
open Classical in
noncomputable def nI (u:bu) (w:List Int):Int:=if cS u then(if w.length≤1048576 then 0 else 3) else 60
open Classical in
noncomputable def nJ (u:bu) (w:List Int):Option (List Int):=if nI u w=0 then iM u (fU u (dX u) w) else none
theorem NL (u:bu) (hu:u.Wf) (w:List Int):Pure Tryz.prog 21 [u.av,cQ w] (fun r=>r= .dL [cQ ((nJ u w).getD []),bl (nJ u w).isSome,i64 (nI u w)]):=by
 have nilR:∀(e:Int) (c:Cx),dM c c (.dL [.sc (.slice none 0 0),bl false,i64 e]) (.dL [cQ [],bl false,i64 e]):=fun e c=>dM.dL (.cons (dM.lT _ _ _ _) (.cons (fun _ h=>h) (.cons (fun _ h=>h) .nil)))
 by_cases hr:cS u
 ·by_cases hw:w.length≤1048576
  ·have hE:nI u w=0:=by unfold nI;rw[if_pos hr,if_pos hw]
   have hQ:nJ u w=iM u (fU u (dX u) w):=by unfold nJ;rw[if_pos hE]
   rw[hE,hQ]
   exact X5 u hu hr w hw
  ·have hE:nI u w=3:=by unfold nI;rw[if_pos hr,if_neg hw]
   have hQ:nJ u w=none:=by unfold nJ;rw[hE];rfl
   rw[hE,hQ]
   refine iE (dK ((I7 u hu hr w (by omega)).mono fun r H n h=>by rw[h];rfl) (by simp[cI,cX])) (iB _ _ _) fun c=>nilR 3 c
 ·have hE:nI u w=60:=by unfold nI;rw[if_neg hr]
  have hQ:nJ u w=none:=by unfold nJ;rw[hE];rfl
  rw[hE,hQ]
  exact iE (NM u hu hr w) (iB _ _ _) fun c=>nilR 60 c
theorem B9 {u:bu} (hu:u.Wf) {w:List Int} (hq:cS u→lU u=none):nJ u w=none:=by
 unfold nJ
 split
 ·rename_i h
  have hr:cS u:=by
   apply Classical.byContradiction
   intro hr
   unfold nI at h
   rw[if_neg hr] at h
   cases h
  exact oz hr ((qi.new hu hr).C2 hu hr) (hq hr)
 ·rfl
set_option maxHeartbeats 2000000 in
theorem zf (u:bu) (hu:u.Wf) (most:Int) (w:List Int):Pure Tryz.prog 6 [u.av,i64 most,cQ w] (fun r=>r=bl true):=by
 have c0:=xJ
 by_cases hr:cS u
 ·have c1:=UH u hu hr
  have c2:=NL u hu w
  have c3:=tG u hu most
  have c4:=YS u hu most
  cases hq:lU u with
  |none=>
   rw[hq] at c1
   rw[B9 hu fun _=>hq] at c2
   rw[ta hu hq] at c3 c4
   rw[decide_eq_false fun h=>h rfl] at c4
   dsimp only[Option.getD,Option.isSome] at c1 c2
   generalize nI u w=e1 at *
   generalize (eE u most).1=e2 at *
   refine aI VX rfl ?_
   by_cases h1:e1=0
   ·have r0:decide (e1≠0)=false:=decide_eq_false fun h=>h h1
    by_cases h2:e2=0
    ·have r1:decide (e2≠0)=false:=decide_eq_false fun h=>h h2
     refine cU ?_
     first|exact rfl|trivial
    ·have r1:decide (e2≠0)=true:=decide_eq_true h2
     refine cU ?_
     first|exact rfl|trivial
   ·have r0:decide (e1≠0)=true:=decide_eq_true h1
    by_cases h2:e2=0
    ·have r1:decide (e2≠0)=false:=decide_eq_false fun h=>h h2
     refine cU ?_
     first|exact rfl|trivial
    ·have r1:decide (e2≠0)=true:=decide_eq_true h2
     refine cU ?_
     first|exact rfl|trivial
  |some l=>
   rw[hq] at c1
   dsimp only[Option.getD,Option.isSome] at c1
   refine aI VX rfl ?_
   refine cU ?_
   first|exact rfl|trivial
 ·have c1:=O8 u hu hr
  refine aI VX rfl ?_
  refine cU ?_
  first|exact rfl|trivial
end Go.Proofs.YtjopoheligmmoaaGreatDoor
end
section
/- Without a ring there is no stuck end, and never a knot: for every unit. No conditions beyond the card's own. -/
namespace Go.Proofs.YtjopoheligmmoaaGreatDoor
open Go Go.cY Go.Proofs Go.RowKit Go.ChangeShapes Go.WideShapes Go.ChangeAt
set_option linter.unusedSimpArgs false
set_option linter.unusedVariables false
set_option maxRecDepth 100000 in
theorem nw (os:Os) (started:os.Started) (H:Type) (enc:TypeId×Value→H):
 ReturnsInHanded {} Tryz.checked os 6 .any (fun w args=>(Rows.stuckNoRingSpec.pre enc Tryz.prog Tryz.f6 [] false w args∧laidMetH Tryz.prog yD w)∧sizedMet enc Tryz.prog Tryz.f6 (OpenSpec.ofChange Rows.stuckNoRingSpec) false w args) (Rows.stuckNoRingSpec.post enc Tryz.prog Tryz.f6 false true false false):=by
 refine returnsInHanded_of_change_and (C:=Tryz.checked) (X:=fun w _=>laidMetH Tryz.prog yD w) (fun _ _ _ hh h=>h.of_heap hh) own started (by kernel_rfl) Tryz.func6
  (ChangeSpec.witness_shaped (enc:=enc) (C:=Tryz.checked) (os:=os) (X:=fun w _=>laidMetH Tryz.prog yD w) false (World.doorLaid Tryz.prog 400 os) #[.agg #[.slice none 0 0, .slice none 0 0, .slice none 0 0], .int .i64 0, .slice none 0 0] 8 rfl (World.shaped_of_RefB (by kernel_rfl) (by kernel_rfl)) (by kernel_rfl) (by kernel_rfl) (by kernel_rfl) (L7 os _)) ?_
 intro W base args ds gs before hval hW _ hr hL _
 refine wH (ts:=[25,3,31]) (tb:=4) laidOut (by kernel_rfl) rfl Tryz.underlying4 (by kernel_rfl) (fun ds h=> ?_) (fun t ht=> ?_)
  (js (ag:=true) (by kernel_rfl) CZ (fun h=>by cases h) (js (ag:=false) (by kernel_rfl) (eB Tryz.underlying3) (fun _ _ _=>rfl) (js (ag:=false) (by kernel_rfl) (CX Tryz.underlying31 Tryz.underlying3 (by kernel_rfl) (by kernel_rfl)) (fun _ _ _=>rfl) wQ)))
  (fun a h=> ?_) hval hW hr (SX hL)
 ·match ds,h with
  |[d0,d1,d2],_=>rfl
 ·have:∀t∈[25,3,31],Tryz.prog.readableRec t=true∧t<Tryz.prog.types.size:=by
   simp only[List.forall_mem_cons]
   refine⟨⟨by kernel_rfl,of_decide_eq_true (by kernel_rfl)⟩,⟨by kernel_rfl,of_decide_eq_true (by kernel_rfl)⟩,⟨by kernel_rfl,of_decide_eq_true (by kernel_rfl)⟩,by simp⟩
  exact this t ht
 ·exact zf a.1 h.1 a.2.1 a.2.2.1
theorem qt:Rows.StuckNoRingSaid:=
 OpenClaim.holds_of_wide 6 Tryz.f6 rfl rfl rfl rfl rfl rfl rfl ⟨rfl,rfl,rfl,rfl,rfl⟩ rfl rfl rfl rfl rfl (by kernel_rfl) Tryz.func6 (by kernel_rfl)
  (of_decide_eq_true (by kernel_rfl)) (by unfold Func.isWrapper;first|(rw[if_pos (by decide+kernel)];kernel_rfl)|(rw[if_neg (by decide+kernel)];exact⟨rfl,rfl⟩))
  (fun os started H enc _=>nw os started H enc)
set_option maxRecDepth 100000 in
theorem stuckNoRing_holds:Rows.StuckNoRingCardSaid:=
 Claim7.holds_tied_plain_at .later [] [.data] true (true, "14b4af768aa3e6a8dd3f17bcbe4400c6eab11aaff17ef5f81a71be15f13cfe4e") false
  qt (fun _ h=>by cases h) (by kernel_rfl) (fun _ h=>by cases h) stuckNoRing_row_tie rfl ⟨rfl,rfl⟩ (by kernel_rfl) rfl
  (fun f fn hf hfn=>by
   obtain rfl:f=6:=Option.some.inj ((show Tryz.prog.funcNamed "stile/stilelaw24.StuckNoRing" =some 6 by kernel_rfl).symm.trans hf)|>.symm
   obtain rfl:fn=Tryz.f6:=(Option.some.inj (Tryz.func6.symm.trans hfn)).symm
   exact⟨by kernel_rfl,fun j t ht=>by
    rw[show Tryz.f6.params=#[25,3,31] by kernel_rfl] at ht
    have hm:t∈[25,3,31]:=by simpa using Array.mem_of_getElem? ht
    have hall:([25,3,31].all fun u=> !Tryz.prog.wantsStandIn u)=true:=by kernel_rfl
    exact(show Tryz.prog.wantsStandIn t=false by simpa using List.all_eq_true.1 hall t hm)⟩)
  (by kernel_rfl)
end Go.Proofs.YtjopoheligmmoaaGreatDoor
end
