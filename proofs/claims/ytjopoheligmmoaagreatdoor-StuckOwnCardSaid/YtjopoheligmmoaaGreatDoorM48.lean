import Derived.Test.YtjopoheligmmoaaGreatDoorM47
import Derived.Test.YtjopoheligmmoaaGreatDoorM23
import Derived.Test.YtjopoheligmmoaaGreatDoorM38
import Derived.Test.YtjopoheligmmoaaGreatDoorM41
section
/- What the laws begin with: two threads that cross. -/
namespace Go.cZ
open Go.RowKit
set_option linter.unusedSimpArgs false
set_option linter.unusedVariables false
theorem cG.V4 {P:Program} {f:FuncId} {args args2:List AV} {e:TypeId} {sz:Nat} {es cs:List AV} (db:gC cs) (h:cG P f args2 [] 0 (fun r1 H1 _=>∃b d0,r1= .dK (.sl b es.length::cs)∧bu H1 b=some (.row e sz d0 es))) (hfl:∀i,i<es.length→fc (es.getD i .any)) (d:AV) {H:Hp} {id:Nat} (ha:args.map (dV H 6)=args2) (hfa:cX 0 args2):
 kI P f args H id (fun r' H''=>r'= .dK (.sl id es.length::cs)∧H''=dC H (some (id, .row e sz d es))):=by
 refine⟨h.1,fun w0 c vs hS hH hid hv=> ?_⟩
 have hS0:dZ c.w ⟨fun _=>none,bu [],fun _=>False,c.w,c.M0⟩:=⟨Below.refl _ _,hS.kA,fun b e sz d es he=>by simp[bu] at he,fun b b' k k' blk o z o' z' hk=>by simp[bu] at hk⟩
 subst ha
 have hv':cg ⟨fun _=>none,bu [],fun _=>False,c.w,c.M0⟩ (args.map (dV H 6)) vs:=kU hS hH hfa hv
 refine(h.2 c.w _ vs hS0 rfl (fun _ h=>h.elim) hv').mono ?_
 rintro en w' ⟨v,r1,H1,nx',ρ,U,he,⟨b,d0,rfl,hb⟩,hU,hS',_,hvr⟩
 rw[VR] at hvr
 obtain⟨us,hus,hvr⟩:=hvr
 rw[cg] at hvr
 obtain⟨x,v3,hx3,hvr,hv3⟩:=hvr
 rw[VR] at hvr
 obtain⟨_,ad,cap,hvv,hrr⟩:=hvr
 obtain⟨_,hr2⟩:=hrr _ _ _ _ hb
 have hr3:=hr2 rfl
 obtain⟨_,hz,hor⟩:=hS'.j4 b _ _ _ _ hb (tN hr3)
 have hbel:=hS'.below
 obtain⟨s1,s2⟩:=hS.world hbel
 have hHeq:bu (dC H (some (id, .row e sz d es)))=ep c.H id (some (.row e sz d es)):=by rw[dU,hH]
 have fin:∀c2:Cx,VR c2 (.sl id es.length) x→VR c2 (.dK (.sl id es.length::cs)) v:=fun c2 h2=>by
  rw[VR]
  refine⟨us,hus, ?_⟩
  rw[hx3,cg]
  exact⟨x,v3,rfl,h2,mi db hv3⟩
 rcases hor with⟨h0,hes⟩|⟨blk,o,z,hρ,hlow,⟨arr,harr,hsz⟩,hlz,hrow⟩
 ·subst hes
  obtain⟨p1,p2⟩:=s1.KH (b:=id) (e:=e) (sz:=sz) d hz hid
  refine⟨v,_,_,ep c.ρ id none,he,⟨rfl,rfl⟩, ?_, ?_,fin _ ?_⟩
  ·rw[hHeq];exact p1
  ·rw[hHeq];exact s2.trans p2
  ·rw[hHeq,VR]
   refine⟨.inr rfl,ad,cap,hvv,fun e' sz' d' es' he'=> ?_⟩
   simp only[ic,dI,Option.some.injEq,eU.row.injEq] at he'
   obtain⟨rfl,rfl,rfl,rfl⟩:=he'
   refine⟨Nat.le_refl _,fun _=> .inl ⟨by simp[ic], ?_⟩⟩
   rcases hr3 with⟨_,h2,h3⟩|⟨blk,o,z,h2,_⟩
   ·exact⟨h2,h3⟩
   ·rw[h0] at h2;cases h2
 ·obtain⟨p1,p2⟩:=hS.pO (b:=id) (e:=e) (sz:=sz) d (es:=es) (w':=w') (blk:=blk) (o:=o) (z:=z) hz (.inl hid) (.inl hlow) hbel.os hbel.tape hbel.output hbel.size (fun k hk _=>hbel.block k hk) harr hsz hlz (fun hle i hi=>by
   obtain⟨y,x1,x2⟩:=dh hrow i hi
   refine⟨y,x1,mD ?_ x2⟩
   have:=hfl i hi
   simpa[List.getD,hi] using this)
  refine⟨v,_,_,ep c.ρ id (some (blk,o,z)),he,⟨rfl,rfl⟩, ?_, ?_,fin _ ?_⟩
  ·rw[hHeq];exact p1
  ·rw[hHeq];exact p2
  ·rw[hHeq,VR]
   refine⟨.inr rfl,ad,cap,hvv,fun e' sz' d' es' he'=> ?_⟩
   simp only[ic,dI,Option.some.injEq,eU.row.injEq] at he'
   obtain⟨rfl,rfl,rfl,rfl⟩:=he'
   refine⟨by omega,fun _=> .inr ⟨blk,o,z,by simp[ic], ?_⟩⟩
   rcases hr3 with⟨h2,_,_⟩|⟨blk',o',z',h2,h3,h4,h5,h6⟩
   ·rw[hρ] at h2;cases h2
   ·rw[hρ] at h2;cases h2
    exact⟨h3,h4,h5,h6⟩
theorem cG.FA {P:Program} {f:FuncId} {args args2:List AV} {e:TypeId} {sz:Nat} {es cs:List AV} (db:gC cs) (h:cG P f args2 [] 0 (fun r1 H1 _=>∃b d0,r1= .dK (.sl b es.length::cs)∧bu H1 b=some (.row e sz d0 es))) (hfl:∀i,i<es.length→fc (es.getD i .any)) {H:Hp} {nx:Nat} (ha:args.map (dV H 6)=args2) (hfa:cX 0 args2):
 cG P f args H nx (fun r H' n=>r= .dK (.sl nx es.length::cs)∧H'=(nx,some (.row e sz .any es))::H∧n=nx+1):=
 (kI.XQ (h.V4 db hfl .any ha hfa)).mono fun r H' n ⟨⟨h1,h2⟩,h3⟩=>⟨h1,h2,h3⟩
end Go.cZ
namespace Go.Proofs.YtjopoheligmmoaaGreatDoor
open Go Go.cZ Go.Proofs
set_option linter.unusedSimpArgs false
set_option linter.unusedVariables false
set_option maxRecDepth 8000
theorem DY (l m:List Int) (hl:l.length * 8≤140737488351232) (hm:m.length * 8≤140737488351232):Pure Tryz.prog 44 [fX l,fX m] (fun r=>r=bl (decide (l=m))):=by
 refine aJ OD rfl ?_
 unfold fX
 repeat' (first|((with_reducible refine aI ?_);conv=>whnf)|refine aG ?_|exact aC|with_reducible refine aD ?_ ?_|(apply aB;(·exact cS))|refine aH ?_|((with_reducible refine aA ?_ ?_)<;>intro hc<;>(try simp only[List.length_map,ne_eq,db] at hc)<;>try(exfalso;omega)))
 ·refine fA (Eq.symm ?_)
  exact decide_eq_false fun e=>hc (by rw[e])
 ·have hlm:l.length=m.length:=by omega
  refine aN (fun i:Nat=>[(0,fX l),(1,fX m),(5,i64 i)])
   (fun i H n=>i≤l.length∧∀j,j<i→l.getD j 0=m.getD j 0) (fun i=>l.length - i) 0 cK ⟨Nat.zero_le _,fun _ h=>by omega⟩ ?_
  unfold fX
  rintro i H n ⟨hi,hall⟩
  by_cases hil:i<l.length
  ·have e1:=ow (l:=l) hil
   have e2:=ow (l:=m) (i:=i) (by omega)
   repeat' (first|((with_reducible refine aI ?_);conv=>whnf)|refine aG ?_|exact aC|with_reducible refine aD ?_ ?_|(apply aB;(·(first|exact e1 _|exact e2 _|exact cS)))|refine aH ?_|((with_reducible refine aA ?_ ?_)<;>intro hc<;>(try simp only[List.length_map,ne_eq,db] at hc)<;>try(exfalso;omega)))
   ·refine fA (Eq.symm ?_)
    exact decide_eq_false fun e=>hc (by rw[e])
   ·refine⟨i+1,by omega,cK,by omega,fun j hj=> ?_⟩
    by_cases hji:j=i
    ·subst hji;exact hc
    ·exact hall j (by omega)
  ·have:i=l.length:=by omega
   subst this
   repeat' (first|((with_reducible refine aI ?_);conv=>whnf)|refine aG ?_|exact aC|with_reducible refine aD ?_ ?_|(apply aB;(·exact cS))|refine aH ?_|((with_reducible refine aA ?_ ?_)<;>intro hc<;>(try simp only[List.length_map,ne_eq,db] at hc)<;>try(exfalso;omega)))
   refine fA (Eq.symm ?_)
   refine decide_eq_true (List.ext_getElem hlm fun j h1 h2=> ?_)
   have:=hall j h1
   simpa[List.getD,h1,h2] using this
theorem gP (l m:List Int) (hl:l.length * 8≤140737488351232) (hm:m.length * 8≤140737488351232):Pure Tryz.prog 18 [cM l,cM m] (fun r=>r=bl (decide (l=m))):=by
 have c0:=DY l m hl hm
 unfold fX at c0
 refine aJ N3 rfl ?_
 refine cV ?_
 first|exact rfl|trivial
def X7 (k th nx o:Int):Node:=⟨k,0,0,th,⟨false,0,0⟩,⟨false,0,0⟩,nx,0,o⟩
def VQ (name:List UInt8) (a b:Int):cF:=⟨⟨name.toArray⟩,0,0,[X7 5 a 1 0,X7 5 b 2 1,X7 6 b 3 2,X7 6 a 4 3,X7 9 0 0 4]⟩
def ly:bx:=⟨[],[⟨⟨(List.toArray [108])⟩,0,0⟩,⟨⟨(List.toArray [109])⟩,0,0⟩],[VQ [97] 0 1,VQ [98] 1 0]⟩
theorem MG:Pure Tryz.prog 47 [.sc (.string ⟨(List.toArray [97])⟩),i64 0,i64 1] (fun r=>r=(VQ [97] 0 1).av):=
 ko (by simp[cI,cB]) (by kernel_rfl)
theorem MH:Pure Tryz.prog 47 [.sc (.string ⟨(List.toArray [98])⟩),i64 1,i64 0] (fun r=>r=(VQ [98] 1 0).av):=
 ko (by simp[cI,cB]) (by kernel_rfl)
theorem oc:cT ly:=kQ.1 (by decide+kernel)
theorem xl:ly.Wf:=by
 have hd:∀d∈ly.cE,d.Wf:=fun d h=>by
  simp only[ly,List.mem_cons,List.not_mem_nil,or_false] at h
  rcases h with rfl|rfl<;>exact⟨by decide+kernel,by decide+kernel,by decide+kernel⟩
 refine⟨fun _ h=>by simp[ly] at h,by simp[ly],hd,by simp[ly],fun g hg=> ?_,by simp[ly]⟩
 simp only[ly,List.mem_cons,List.not_mem_nil,or_false] at hg
 rcases hg with rfl|rfl<;>
 ·refine⟨by decide+kernel,by decide+kernel,by decide+kernel,fun n hn=> ?_,by decide+kernel⟩
  simp only[VQ,List.mem_cons,List.not_mem_nil,or_false] at hn
  rcases hn with rfl|rfl|rfl|rfl|rfl<;>
   exact⟨by decide+kernel,by decide+kernel,by decide+kernel,by decide+kernel,⟨by decide+kernel,by decide+kernel⟩,⟨by decide+kernel,by decide+kernel⟩,by decide+kernel,by decide+kernel,by decide+kernel⟩
theorem xk:dJ ly=[⟨0,1,0,1⟩,⟨1,0,1,1⟩]:=by decide+kernel
theorem RB:eo ly=fun h=>if h=0 then[1] else if h=1 then[0] else[]:=by
 funext h
 unfold eo
 rw[xk]
 have e:jL [⟨0,1,0,1⟩,⟨1,0,1,1⟩] h=if h=0 then[1] else if h=1 then[0] else[]:=by
  unfold jL
  simp only[List.foldl_cons,List.foldl_nil]
  by_cases h0:h=0
  ·subst h0;simp
  ·by_cases h1:h=1
   ·subst h1;simp
   ·have e0:¬(0:Int)=h:=fun e=>h0 e.symm
    have e1:¬(1:Int)=h:=fun e=>h1 e.symm
    simp[h0,h1,e0,e1]
 rw[e]
 unfold eH
 split
 ·simp
 ·split<;>simp
theorem RC:j3 ly=some [0,1]:=by
 unfold j3
 rw[RB]
 decide+kernel
theorem RA:iR ly (fO ly (dY ly) [0,1])=some [0,1]:=by decide+kernel
def QJ:List cW:=(gZ ly 99).getD []
theorem VS:gZ ly 99=some QJ:=by
 have h:(gZ ly 99).isSome=true:=by decide+kernel
 unfold QJ
 cases hs:gZ ly 99 with
 |none=>rw[hs] at h;cases h
 |some l=>rfl
def XH:cn:=⟨[],[],false⟩
theorem Q9:∀e∈dS ly QJ QJ.length,e.ended=true∨e=XH:=by decide+kernel
theorem VT:XH∈dS ly QJ QJ.length:=by decide+kernel
theorem VU:js QJ (fM ly QJ XH QJ.length)=[0,1]:=by decide+kernel
theorem EX:eI ly 99=(0,QJ):=by rw[oV oc (by decide),show(99:Int).toNat=99 from rfl,VS]
theorem O0 {u:bx} {l:List cW} {x:cn} (h:∀e∈dS u l l.length,e.ended=true∨e=x) (hx:x∈dS u l l.length) (hx2:x.ended=false):mH (gz u l)=[x]:=by
 have h1:=(wJ u l).filter fun e=> !e.ended
 change (mH (gz u l)).Pairwise _ at h1
 have h2:∀e,e∈mH (gz u l)↔e=x:=fun e=>by
  unfold mH
  rw[List.mem_filter,uZ]
  constructor
  ·rintro⟨q1,q2⟩
   rcases h e q1 with h3|h3
   ·rw[h3] at q2;cases q2
   ·exact h3
  ·rintro rfl
   exact⟨hx,by rw[hx2];rfl⟩
 cases hl:mH (gz u l) with
 |nil=>exact absurd ((h2 x).2 rfl) (by rw[hl];simp)
 |cons a t=>
  rw[hl] at h1 h2
  have ha:=(h2 a).1 (by simp)
  subst ha
  cases t with
  |nil=>rfl
  |cons b t=>
   have hb:=(h2 b).1 (by simp)
   subst hb
   have:=(List.pairwise_cons.1 h1).1 b (by simp)
   rw[(ja.zero _ _).2 rfl] at this
   omega
theorem sG:fb ly 99=[XH]:=by
 unfold fb
 rw[EX]
 rw[if_pos rfl]
 exact O0 Q9 VT rfl
theorem RD:xC ly 99=[0,1]:=by
 unfold xC vW
 rw[sG]
 show p6 ly 99 XH=[0,1]
 unfold p6
 rw[EX]
 exact VU
end Go.Proofs.YtjopoheligmmoaaGreatDoor
end
section
/- What the laws begin with: the walk. -/
namespace Go.Proofs.YtjopoheligmmoaaGreatDoor
open Go Go.cZ Go.Proofs
set_option linter.unusedSimpArgs false
set_option linter.unusedVariables false
set_option maxRecDepth 8000
abbrev MF:AV:= .agg [.sc (.slice none 0 0),ct ly.cE,di ly.bz]
theorem sF (c:Cx):dN c c MF ly.av:=cZ.dN.agg (.cons (cZ.dN.kb c c 3 .any) (.cons (fun _ h=>h) (.cons (fun _ h=>h) .nil)))
theorem UZ (u:bx) (hu:u.Wf) (hr:cT u):Pure Tryz.prog 15 [u.av] (fun r=>r= .dK [cM ((j3 u).getD []),bl (j3 u).isSome,i64 0]):=by
 have key:Pure Tryz.prog 15 [u.av] (fun r=>r=match j3 u with|none=> .dK [.sc (.slice none 0 0),bl false,i64 0]|some w=> .dK [cM w,bl true,i64 0]):=by
  refine cx ((qW u hu hr).mono ?_) (by split<;>simp[cI,cX,cB])
  intro r H n h
  unfold xM at h
  cases hq:j3 u with
  |none=>rw[hq] at h;dsimp only at h ⊢;rw[h];rfl
  |some w=>
   rw[hq] at h
   obtain⟨b,d,rfl,hb⟩:=h
   show AV.dK [cZ.dV H 5 (.sl b w.length),bl true,i64 0]=_
   rw[dc (k:=4) hb (by simp),cy _ ((cB _ _).2 fun _ _=>by simp[cI])]
 refine gS key (gO _ _ _) fun c=> ?_
 cases j3 u with
 |none=>exact dN.dK (.cons (dN.kb _ _ _ _) (.cons (fun _ h=>h) (.cons (fun _ h=>h) .nil)))
 |some w=>exact fun _ h=>h
theorem YO (u:bx) (hu:u.Wf) (hr:cT u) (w:List Int) (hw:w.length≤1048576):Pure Tryz.prog 21 [u.av,cM w] (fun r=>r= .dK [cM ((iR u (fO u (dY u) w)).getD []),bl (iR u (fO u (dY u) w)).isSome,i64 0]):=by
 have key:Pure Tryz.prog 21 [u.av,cM w] (fun r=>r=match iR u (fO u (dY u) w) with|none=> .dK [.sc (.slice none 0 0),bl false,i64 0]|some w=> .dK [cM w,bl true,i64 0]):=by
  refine cx ((mz u hu hr w hw).mono ?_) (by split<;>simp[cI,cX,cB])
  intro r H n h
  unfold rV at h
  cases hq:iR u (fO u (dY u) w) with
  |none=>rw[hq] at h;dsimp only at h ⊢;rw[h];rfl
  |some w=>
   rw[hq] at h
   obtain⟨b,d,rfl,hb⟩:=h
   show AV.dK [cZ.dV H 5 (.sl b w.length),bl true,i64 0]=_
   rw[dc (k:=4) hb (by simp),cy _ ((cB _ _).2 fun _ _=>by simp[cI])]
 refine gS key (gO _ _ _) fun c=> ?_
 cases iR u (fO u (dY u) w) with
 |none=>exact dN.dK (.cons (dN.kb _ _ _ _) (.cons (fun _ h=>h) (.cons (fun _ h=>h) .nil)))
 |some w=>exact fun _ h=>h
theorem MI {H:Hp} {nx:Nat} {b:Nat} (hb:∃d,bu H b=some (.row 3 1 d [i64 0,i64 1])):cG Tryz.prog 21 [MF, .sl b 2] H nx (fun r H' n=>r= .dK [.sl nx 2,bl true,i64 0]∧H'=(nx,some (.row 3 1 .any [i64 0,i64 1]))::H∧n=nx+1):=by
 have h:=mz ly xl oc [0,1] (by decide)
 have h2:=cG.args (bs:=[MF,cM [0,1]]) h fun c=> .cons (sF c) (.cons (fun _ h=>h) .nil)
 obtain⟨d,hb⟩:=hb
 refine cG.FA (es:=[i64 0,i64 1]) (cs:=[bl true,i64 0]) (args2:=[MF,cM [0,1]]) (by simp[gC]) (h2.mono ?_) ?_ ?_ ?_
 ·intro r H1 n1 hR
  unfold rV at hR
  rw[RA] at hR
  exact hR
 ·intro i hi
  match i,hi with
  |0,_=>trivial
  |1,_=>trivial
 ·show[cZ.dV H 6 MF,cZ.dV H 6 (.sl b [i64 0,i64 1].length)]=_
  rw[du _ (show cI 0 MF by simp[cI,cX,cB]),dc (k:=5) hb rfl]
  rfl
 ·simp[cI,cX,cB]
theorem wG {H:Hp} {b:Nat} {d:AV} (hb:bu H b=some (.row 3 1 d [i64 0,i64 1])):cZ.dV H 6 (.sl b 2)=cM [0,1]:=by
 show cZ.dV H 6 (.sl b [i64 0,i64 1].length)=_
 rw[dc (k:=5) hb rfl]
 rfl
theorem ng {H:Hp} {x y a b:AV} (h1:cZ.dV H 6 x=a) (h2:cZ.dV H 6 y=b):[x,y].map (cZ.dV H 6)=[a,b]:=by
 subst h1 h2
 rfl
theorem EY {H:Hp}:cZ.dV H 6 (cM [0,1])=cM [0,1]:=du _ (by simp[cI,cX,cB])
theorem x8:Pure Tryz.prog 20 [] (fun r=>r=bl true):=by
 have c0:Pure Tryz.prog 47 [.sc (.string ⟨⟨[⟨⟨⟨97,by decide⟩⟩⟩]⟩⟩),i64 0,i64 1] (fun r=>r=(VQ [97] 0 1).av):=MG
 have c1:Pure Tryz.prog 47 [.sc (.string ⟨⟨[⟨⟨⟨98,by decide⟩⟩⟩]⟩⟩),i64 1,i64 0] (fun r=>r=(VQ [98] 1 0).av):=MH
 refine cx ?_ (by simp[cI])
 refine au N4 rfl ?_
 refine WL.cut ?_
 refine cV ?_
 refine⟨_,_,_,Rt.refl _ _ _,WL.cut ?_⟩
 refine cV ?_
 refine⟨[(1, .pt 6 1 0 0)],_,_,Rt.trans (Rt.wk (Wk.gw (cb:=6) (jr [3,4] _) 5 .any rfl fun b q hq=>qY hq)) (Rt.less cK),WL.last ?_⟩
 refine ah (b:=6) (q:=some (.row 25 3 .any [MF])) rfl ?_
 intro H2 r3
 have c0:Pure Tryz.prog 13 [MF] (fun r=>r= .dK [wI (dJ ly),i64 0]):=Pure.args (sM ly xl oc) fun c=> .cons (sF c) .nil
 have c1:Pure Tryz.prog 15 [MF] (fun r=>r= .dK [cM [0,1],bl true,i64 0]):=Pure.args (by have:=UZ ly xl oc;rw[RC] at this;exact this) fun c=> .cons (sF c) .nil
 have c2:Pure Tryz.prog 25 [MF,i64 99] (fun r=>r= .dK [cM [0,1],bl true,i64 0]):=Pure.args (by have:=aAL ly xl 99;rw[RD,sG,EX] at this;exact this) fun c=> .cons (sF c) (.cons (fun _ h=>h) .nil)
 have c3:Pure Tryz.prog 23 [MF,i64 99] (fun r=>r= .dK [iY [XH],i64 0]):=Pure.args (by have:=xA ly xl 99;rw[sG,EX] at this;exact this) fun c=> .cons (sF c) (.cons (fun _ h=>h) .nil)
 refine cV ?_
 refine aL (MI ⟨_,bw⟩) ?_
 rintro _ H3 n3 ⟨rfl,rfl,rfl⟩
 rw[xk]
 refine cV ?_
 refine aT (args2:=[cM [0,1],cM [0,1]]) (gP [0,1] [0,1] (by decide) (by decide)) (ng EY (wG bw)) (by simp[cX,cI,cB]) trivial ?_
 refine cV ?_
 refine aT (args2:=[cM [0,1],cM [0,1]]) (gP [0,1] [0,1] (by decide) (by decide)) (ng (wG bw) (wG bw)) (by simp[cX,cI,cB]) trivial ?_
 refine cV ?_
 refine aT (args2:=[cM [0,1],cM [0,1]]) (gP [0,1] [0,1] (by decide) (by decide)) (ng EY (wG bw)) (by simp[cX,cI,cB]) trivial ?_
 refine cV ?_
 first|exact rfl|exact⟨rfl⟩|trivial
end Go.Proofs.YtjopoheligmmoaaGreatDoor
end
section
/- What is so of the ring that is told. -/
namespace Go.Proofs.YtjopoheligmmoaaGreatDoor
open Go Go.cZ Go.Proofs
set_option linter.unusedSimpArgs false
set_option linter.unusedVariables false
structure VB (u:bx) (w:List Int):Prop where
 pos:0<w.length
 on:∀i,i<w.length→∃e∈dJ u,e.held=w.getD i 0∧e.taken=w.getD ((i+1)%w.length) 0
 self:1<w.length→∀e∈dJ u,e.held≠e.taken
 nd:w.Nodup
 least:∀i,i<w.length→w.getD 0 0≤w.getD i 0
 inn:∀x∈w,0≤x∧x<u.cE.length
theorem HK {u:bx} (hr:cT u) {w:List Int} (h:j3 u=some w):VB u w:=by
 unfold j3 at h
 obtain⟨f,h1,h2,h3⟩:=kP h
 have hin:∀x,∀y∈eo u x,0≤y∧y<(u.cE.length:Int):=fun x=>y6 hr x
 obtain⟨p1,p2,p3,p4,p5⟩:=(lq (lead:=eo u) (n:=u.cE.length) (first:=(f:Int)) hin (by omega)).1 w h2
 have key:∀c,qu (eo u) c→0≤c.getD 0 0→c.getD 0 0<u.cE.length→w.length≤c.length∧(c.length≤w.length→(f:Int)≤c.getD 0 0):=fun c hc c0 c1=>by
  obtain⟨g,hg⟩:∃g:Nat,c.getD 0 0=g:=⟨(c.getD 0 0).toNat,by omega⟩
  have hs:=lq (lead:=eo u) (n:=u.cE.length) (first:=(g:Int)) hin (by omega)
  cases hb:pn (eo u) u.cE.length (g:Int) with
  |none=>exact absurd hg (hs.2 hb c hc)
  |some l=>
   have q1:=(hs.1 l hb).2.2.2.2 c hc hg
   have q2:=h3 g (by omega) l hb
   exact⟨by omega,fun hle=>by have:=q2.2 (by omega);omega⟩
 refine⟨p2.pos,fun i hi=> ?_,fun hlt e he hself=> ?_,p3,fun i hi=> ?_,p4⟩
 ·obtain⟨e,e1,e2,e3⟩:=qI.1 (p2.on i hi)
  exact⟨e,e1,e2,e3⟩
 ·have hin:=(sL hr he).1
  have hc:qu (eo u) [e.held]:=⟨by simp,fun i hi=>by
   have:i=0:=by simp at hi;omega
   subst this
   exact qI.2 ⟨e,he,rfl,by simpa using hself.symm⟩⟩
  have:=(key _ hc (by simpa using hin.1) (by simpa using hin.2)).1
  simp at this
  omega
 ·obtain⟨d,d1,d2,d3⟩:=p2.gv hi
  have hm:=p4 _ (cR 0 hi)
  have:=(key d d1 (by rw[d2];exact hm.1) (by rw[d2];exact hm.2)).2 (by omega)
  rw[d2] at this
  rw[p1];exact this
end Go.Proofs.YtjopoheligmmoaaGreatDoor
end
section
/- A ring is one: the law's walk. -/
namespace Go.Proofs.YtjopoheligmmoaaGreatDoor
open Go Go.cZ Go.Proofs
set_option linter.unusedSimpArgs false
set_option linter.unusedVariables false
set_option maxRecDepth 8000
theorem AK (u:bx) (hu:u.Wf) (hr:¬cT u):Pure Tryz.prog 15 [u.av] (fun r=>r= .dK [.sc (.slice none 0 0),bl false,i64 60]):=
 cx ((PS u hu hr).mono fun r H n h=>by rw[h];rfl) (by simp[cI,cX])
end Go.Proofs.YtjopoheligmmoaaGreatDoor
end
section
/- A knot lies on a ring of edges; what is stuck is knotted. -/
namespace Go.Proofs.YtjopoheligmmoaaGreatDoor
open Go Go.cZ Go.Proofs
set_option linter.unusedSimpArgs false
set_option linter.unusedVariables false
section
variable {u:bx} {m:MS}
def LM (u:bx) (m:MS):Prop:=(∀t,t<u.bz.length→m.kx u (t:Nat)≠0)∧∃t,t<u.bz.length∧m.kx u (t:Nat)≠70
theorem LM.aA2 (hr:cT u) (h:uJ u m) (hs:LM u m):∃l,iR u m=some l:=by
 obtain⟨h1,t,h2,h3⟩:=hs
 exact EC hr h h1 h2 h3
theorem eu.next {l:List Int} (hk:eu u m l) {i:Nat} (hi:i<l.length):(m.node u (l.getD i 0).toNat).kind=5∧m.hold.getD (m.node u (l.getD i 0).toNat).cQ.toNat 0=l.getD ((i+1)%l.length) 0:=by
 have h1:=hk.ring.on i hi
 have h3:=hk.ring.nn _ (cR 0 (Nat.mod_lt (i+1) hk.ring.pos))
 unfold eM at h1
 split at h1
 ·rename_i h5
  exact⟨h5,h1⟩
 ·omega
end
end Go.Proofs.YtjopoheligmmoaaGreatDoor
end
section
/- Knot of any unit and schedule; a machine behind a schedule. -/
namespace Go.Proofs.YtjopoheligmmoaaGreatDoor
open Go Go.cZ Go.Proofs
set_option linter.unusedSimpArgs false
set_option linter.unusedVariables false
set_option maxRecDepth 8000
open Classical in
noncomputable def hC (u:bx) (w:List Int):Int:=if cT u then(if w.length≤1048576 then 0 else 3) else 60
open Classical in
noncomputable def gQ (u:bx) (w:List Int):Option (List Int):=if hC u w=0 then iR u (fO u (dY u) w) else none
theorem NY (u:bx) (hu:u.Wf) (w:List Int):Pure Tryz.prog 21 [u.av,cM w] (fun r=>r= .dK [cM ((gQ u w).getD []),bl (gQ u w).isSome,i64 (hC u w)]):=by
 have nilR:∀(e:Int) (c:Cx),dN c c (.dK [.sc (.slice none 0 0),bl false,i64 e]) (.dK [cM [],bl false,i64 e]):=fun e c=>dN.dK (.cons (dN.kb _ _ _ _) (.cons (fun _ h=>h) (.cons (fun _ h=>h) .nil)))
 by_cases hr:cT u
 ·by_cases hw:w.length≤1048576
  ·have hE:hC u w=0:=by unfold hC;rw[if_pos hr,if_pos hw]
   have hQ:gQ u w=iR u (fO u (dY u) w):=by unfold gQ;rw[if_pos hE]
   rw[hE,hQ]
   exact YO u hu hr w hw
  ·have hE:hC u w=3:=by unfold hC;rw[if_pos hr,if_neg hw]
   have hQ:gQ u w=none:=by unfold gQ;rw[hE];rfl
   rw[hE,hQ]
   refine gS (cx ((vA u hu hr w (by omega)).mono fun r H n h=>by rw[h];rfl) (by simp[cI,cX])) (gO _ _ _) fun c=>nilR 3 c
 ·have hE:hC u w=60:=by unfold hC;rw[if_neg hr]
  have hQ:gQ u w=none:=by unfold gQ;rw[hE];rfl
  rw[hE,hQ]
  exact gS (yX u hu hr w) (gO _ _ _) fun c=>nilR 60 c
end Go.Proofs.YtjopoheligmmoaaGreatDoor
end
section
/- What is stuck is knotted: the law's walk. -/
namespace Go.Proofs.YtjopoheligmmoaaGreatDoor
open Go Go.cZ Go.Proofs
set_option linter.unusedSimpArgs false
set_option linter.unusedVariables false
set_option maxRecDepth 8000
end Go.Proofs.YtjopoheligmmoaaGreatDoor
end
section
/- In a knot each waits for what the next one holds: the law's walk. -/
namespace Go.Proofs.YtjopoheligmmoaaGreatDoor
open Go Go.cZ Go.Proofs
set_option linter.unusedSimpArgs false
set_option linter.unusedVariables false
set_option maxRecDepth 8000
theorem yV {u:bx} (hu:u.Wf) {w k:List Int} (h:gQ u w=some k):cT u∧hC u w=0∧eu u (fO u (dY u) w) k:=by
 unfold gQ at h
 split at h
 ·rename_i h0
  have hr:cT u:=by
   apply Classical.byContradiction
   intro hr
   unfold hC at h0
   rw[if_neg hr] at h0
   cases h0
  exact⟨hr,h0,RU hr ((uJ.new hu hr).KD hu hr).ok h⟩
 ·cases h
end Go.Proofs.YtjopoheligmmoaaGreatDoor
end
section
/- A knot's threads never step again: the law's walk. -/
namespace Go.cZ
open Go.RowKit
set_option linter.unusedSimpArgs false
set_option linter.unusedVariables false
end Go.cZ
namespace Go.Proofs.YtjopoheligmmoaaGreatDoor
open Go Go.cZ Go.Proofs
set_option linter.unusedSimpArgs false
set_option linter.unusedVariables false
set_option maxRecDepth 8000
theorem K3 {H:Hp} {b:Nat} {e:TypeId} {d:AV} {l:List Int} (h:bu H b=some (.row e 1 d (l.map i64))):cZ.dV H 6 (.sl b (l.map i64).length)=cM l:=by
 rw[dc (k:=5) h rfl,cy _ ((cB _ _).2 fun _ _=>by simp[cI])]
theorem wN {H:Hp} (l:List Int):cZ.dV H 6 (cM l)=cM l:=du _ (by simp[cI,cX,cB])
def mC (f:Nat→AV) (n i:Nat):List AV:=(List.range n).map fun j=>if j<i then f j else i64 0
@[simp] theorem XJ (f:Nat→AV) (n i:Nat):(mC f n i).length=n:=by simp[mC]
end Go.Proofs.YtjopoheligmmoaaGreatDoor
end
section
/- What Ring, Knot and Edges hand back is the asker's own: rows for nil, too. -/
namespace Go.cZ
open Go.RowKit
set_option linter.unusedSimpArgs false
set_option linter.unusedVariables false
theorem Wk.T8 {r r2:AV} {cs:List AV} {H H2:Hp} {nx nx2:Nat} (h:Wk r H nx r2 H2 nx2):Wk (.dK (r::cs)) H nx (.dK (r2::cs)) H2 nx2:=by
 intro w0 ρ U w M0 hU hS
 obtain⟨ρ2,U2,k1,k2,k3,k4⟩:=h w0 ρ U w M0 hU hS
 refine⟨ρ2,U2,k1,k2,k3,fun v hv=> ?_⟩
 rw[VR] at hv ⊢
 obtain⟨us,hus,hv⟩:=hv
 refine⟨us,hus, ?_⟩
 rw[cg] at hv ⊢
 obtain⟨x,v3,hx3,h1,h2⟩:=hv
 exact⟨x,v3,hx3,k4 x h1,cg.cU k3 h2⟩
def QP (e:TypeId) (sz:Nat) (es cs:List AV) (H:Hp) (nx:Nat) (r:AV) (H':Hp) (n:Nat):Prop:=r= .dK (.sl nx es.length::cs)∧H'=(nx,some (.row e sz .any es))::H∧n=nx+1
theorem xx:∀{cs:List AV},gC cs→∀a∈cs,∃u,a=AV.sc u
 |[],_,a,h=>by cases h
 |b::cs,hf,a,h=>by
  cases b<;>simp only[gC] at hf
  rcases List.mem_cons.1 h with rfl|h
  ·exact⟨_,rfl⟩
  ·exact xx hf a h
theorem cG.HD {P:Program} {f:FuncId} {args args2:List AV} (e:TypeId) (sz:Nat) {cs:List AV} (hsz:0<sz) (db:gC cs) (h:Pure P f args2 (fun r=>r= .dK (.sc (.slice none 0 0)::cs))) {H:Hp} {nx:Nat} (ha:args.map (dV H 6)=args2) (hfa:cX 0 args2):cG P f args H nx (QP e sz [] cs H nx):=
 cG.wk (h.view (K:=fun r H' n=>r= .dK (.sc (.slice none 0 0)::cs)∧H'=H∧n=nx) ha hfa (by simp[fc,gC];exact fun a h=> .inl (xx db a h)) ⟨rfl,rfl,rfl⟩) fun r H' n ⟨h1,h2,h3⟩=>by
  subst h1 h2 h3
  exact⟨_,_,_,Wk.T8 (Wk.nil e sz .any hsz),rfl,rfl,rfl⟩
end Go.cZ
namespace Go.Proofs.YtjopoheligmmoaaGreatDoor
open Go Go.cZ Go.Proofs
set_option linter.unusedSimpArgs false
set_option linter.unusedVariables false
set_option maxRecDepth 8000
open Classical in
noncomputable def j1 (u:bx):Option (List Int):=if cT u then j3 u else none
open Classical in
noncomputable def j0 (u:bx):Int:=if cT u then 0 else 60
open Classical in
noncomputable def mB (u:bx):List dX:=if cT u then dJ u else[]
theorem xw (u:bx):cX 0 [u.av]:=by simp[cI,cX,cB]
theorem RK {H:Hp} (u:bx):cZ.dV H 6 u.av=u.av:=du _ (by simp[cI,cX,cB])
theorem YY (u:bx) (hu:u.Wf) (H:Hp) (nx:Nat):cG Tryz.prog 15 [u.av] H nx (QP 3 1 (((j1 u).getD []).map i64) [bl (j1 u).isSome,i64 (j0 u)] H nx):=by
 by_cases hr:cT u
 ·have hQ:j1 u=j3 u:=by unfold j1;rw[if_pos hr]
  have hE:j0 u=0:=by unfold j0;rw[if_pos hr]
  rw[hQ,hE]
  cases hq:j3 u with
  |none=>
   refine cG.HD (args2:=[u.av]) 3 1 (by omega) (by simp[gC]) ?_ (by rw[List.map_cons,RK];rfl) (xw u)
   refine cx ((qW u hu hr).mono fun r H n h=> ?_) (by simp[cI,cX])
   unfold xM at h
   rw[hq] at h
   rw[h];rfl
  |some w=>
   refine cG.sW (by simp[gC]) ((qW u hu hr).mono fun r H n h=> ?_) ((cB _ _).2 fun _ _=>by simp[cI]) (xw u)
   unfold xM at h
   rw[hq] at h
   simpa using h
 ·have hQ:j1 u=none:=by unfold j1;rw[if_neg hr]
  have hE:j0 u=60:=by unfold j0;rw[if_neg hr]
  rw[hQ,hE]
  exact cG.HD (args2:=[u.av]) 3 1 (by omega) (by simp[gC]) (AK u hu hr) (by rw[List.map_cons,RK];rfl) (xw u)
theorem VW (u:bx) (hu:u.Wf) (H:Hp) (nx:Nat):cG Tryz.prog 13 [u.av] H nx (QP 69 4 ((mB u).map dX.av) [i64 (j0 u)] H nx):=by
 by_cases hr:cT u
 ·have hQ:mB u=dJ u:=by unfold mB;rw[if_pos hr]
  have hE:j0 u=0:=by unfold j0;rw[if_pos hr]
  rw[hQ,hE]
  refine cG.sW (by simp[gC]) ((sK u hu hr).mono fun r H n h=> ?_) (ug _) (xw u)
  obtain⟨b,d,h1,h2⟩:=h
  exact⟨b,d,by rw[h1,List.length_map],h2⟩
 ·have hQ:mB u=[]:=by unfold mB;rw[if_neg hr]
  have hE:j0 u=60:=by unfold j0;rw[if_neg hr]
  rw[hQ,hE]
  exact cG.HD (args2:=[u.av]) 69 4 (by omega) (by simp[gC]) (uX u hu hr) (by rw[List.map_cons,RK];rfl) (xw u)
theorem YN (u:bx) (hu:u.Wf) (w:List Int) {b:Nat} {H:Hp} {nx:Nat} (hb:cZ.dV H 6 (.sl b w.length)=cM w):cG Tryz.prog 21 [u.av, .sl b w.length] H nx (QP 3 1 (((gQ u w).getD []).map i64) [bl (gQ u w).isSome,i64 (hC u w)] H nx):=by
 have ha:[u.av, .sl b w.length].map (cZ.dV H 6)=[u.av,cM w]:=ng (RK u) hb
 have hfa:cX 0 [u.av,cM w]:=by simp[cI,cX,cB]
 cases hq:gQ u w with
 |none=>
  refine cG.HD (args2:=[u.av,cM w]) 3 1 (by omega) (by simp[gC]) ?_ ha hfa
  by_cases hr:cT u
  ·by_cases hw:w.length≤1048576
   ·have hE:hC u w=0:=by unfold hC;rw[if_pos hr,if_pos hw]
    have hQ:gQ u w=iR u (fO u (dY u) w):=by unfold gQ;rw[if_pos hE]
    rw[hE]
    refine cx ((mz u hu hr w hw).mono fun r H n h=> ?_) (by simp[cI,cX])
    unfold rV at h
    rw[←hQ,hq] at h
    rw[h];rfl
   ·have hE:hC u w=3:=by unfold hC;rw[if_pos hr,if_neg hw]
    rw[hE]
    exact cx ((vA u hu hr w (by omega)).mono fun r H n h=>by rw[h];rfl) (by simp[cI,cX])
  ·have hE:hC u w=60:=by unfold hC;rw[if_neg hr]
   rw[hE]
   exact yX u hu hr w
 |some k=>
  obtain⟨hr,hE,hK⟩:=yV hu hq
  have hw:w.length≤1048576:=by
   apply Classical.byContradiction
   intro hw
   unfold hC at hE
   rw[if_pos hr,if_neg hw] at hE
   cases hE
  have hQ:gQ u w=iR u (fO u (dY u) w):=by unfold gQ;rw[if_pos hE]
  rw[hE]
  refine cG.FA (args2:=[u.av,cM w]) (by simp[gC]) ((mz u hu hr w hw).mono fun r H n h=> ?_) (fun i hi=> ?_) ha hfa
  ·unfold rV at h
   rw[←hQ,hq] at h
   simpa using h
  ·rw[List.length_map] at hi
   have hi:i<k.length:=hi
   simp[List.getD,hi,fc]
def iJ (g f:Nat→AV) (n i:Nat):List AV:=(List.range n).map fun j=>if j<i then f j else g j
@[simp] theorem tB (g f:Nat→AV) (n i:Nat):(iJ g f n i).length=n:=by simp[iJ]
theorem qR {α:Type} [Inhabited α] (av:α→AV) (l:List α) (f:Nat→AV):iJ (fun j=>av (l.getD j default)) f l.length 0=l.map av:=by
 apply List.ext_getElem (by simp)
 intro j h1 h2
 simp at h1
 simp[iJ,List.getD,h1]
theorem tC (g f:Nat→AV) {n i:Nat} (h:i<n):(iJ g f n i).set i (f i)=iJ g f n (i+1):=by
 apply List.ext_getElem (by simp)
 intro j h1 h2
 simp only[iJ,List.getElem_set,List.getElem_map,List.getElem_range]
 by_cases e:i=j
 ·subst e;simp
 ·rw[if_neg e]
  by_cases h3:j<i
  ·rw[if_pos h3,if_pos (by omega)]
  ·rw[if_neg h3,if_neg (by omega)]
theorem qQ (g f:Nat→AV) {n i:Nat} (h:i<n) (d:AV):(iJ g f n i).getD i d=g i:=by
 simp[iJ,List.getD,h]
end Go.Proofs.YtjopoheligmmoaaGreatDoor
end
section
/- Lists are their asker's own: the law's walk. -/
namespace Go.Proofs.YtjopoheligmmoaaGreatDoor
open Go Go.cZ Go.Proofs
set_option linter.unusedSimpArgs false
set_option linter.unusedVariables false
set_option maxRecDepth 8000
theorem QA {H:Hp} {b:Nat} {e:TypeId} {d:AV} {l:List Int} (h:bu H b=some (.row e 1 d ([]++l.map i64))):cZ.dV H 6 (.sl b l.length)=cM l:=by
 have:=K3 (l:=l) h
 rw[List.length_map] at this
 exact this
theorem PQ (u:bx) (hu:u.Wf):Pure Tryz.prog 15 [u.av] (fun r=>r= .dK [cM ((j1 u).getD []),bl (j1 u).isSome,i64 (j0 u)]):=by
 by_cases hr:cT u
 ·have hQ:j1 u=j3 u:=by unfold j1;rw[if_pos hr]
  have hE:j0 u=0:=by unfold j0;rw[if_pos hr]
  rw[hQ,hE]
  exact UZ u hu hr
 ·have hQ:j1 u=none:=by unfold j1;rw[if_neg hr]
  have hE:j0 u=60:=by unfold j0;rw[if_neg hr]
  rw[hQ,hE]
  exact gS (AK u hu hr) (gO _ _ _) fun c=>dN.dK (.cons (dN.kb _ _ _ _) (.cons (fun _ h=>h) (.cons (fun _ h=>h) .nil)))
structure vh (u:bx) (w a k:List Int) (ra rk rE:List AV) (H:Hp):Prop where
 unit:∃d,bu H 0=some (.row 25 3 d [u.av])
 given:∃d,bu H 3=some (.row 3 1 d (w.map i64))
 ra:∃d,bu H 8=some (.row 3 1 d ra)
 kept:∃d,bu H 16=some (.row 3 1 d (a.map i64))
 rk:∃d,bu H 22=some (.row 3 1 d rk)
 held:∃d,bu H 30=some (.row 3 1 d (k.map i64))
 rE:∃d,bu H 35=some (.row 69 4 d rE)
set_option maxHeartbeats 8000000 in
theorem PF (u:bx) (hu:u.Wf) (w:List Int) (hwl:w.length * 8≤140737488351232):Pure Tryz.prog 11 [u.av,cM w] (fun r=>r=bl true):=by
 have c0:=x8
 have a0:(w.map i64).length=w.length:=List.length_map _
 refine cx ?_ (by simp[cI])
 refine aM N2 rfl ?_
 refine cV ?_
 refine aL (YY u hu _ _) ?_
 rintro _ H1 n1 ⟨rfl,rfl,rfl⟩
 have hal:((j1 u).getD []).length≤16:=by
  unfold j1
  split
  ·rename_i hr
   cases hq:j3 u with
   |none=>exact Nat.zero_le _
   |some a=>exact Nat.le_trans (ft _ _ (HK hr hq).nd (HK hr hq).inn) hr.pz.2.1
  ·exact Nat.zero_le _
 generalize ha:(j1 u).getD []=a at *
 have a1:(a.map i64).length=a.length:=List.length_map _
 refine cV ?_
 simp only[List.length_map,Nat.zero_add]
 refine aL (YN u hu w (QA bw)) ?_
 rintro _ H1 n1 ⟨rfl,rfl,rfl⟩
 have hkl:((gQ u w).getD []).length≤8:=by
  cases hq:gQ u w with
  |none=>exact Nat.zero_le _
  |some k=>
   obtain⟨hr,hE,hK⟩:=yV hu hq
   exact Nat.le_trans hK.len hr.pz.2.2
 generalize hk:(gQ u w).getD []=k at *
 have a2:(k.map i64).length=k.length:=List.length_map _
 refine cV ?_
 refine aL (VW u hu _ _) ?_
 rintro _ H1 n1 ⟨rfl,rfl,rfl⟩
 have hel:(mB u).length≤65536 * 8:=by
  unfold mB
  split
  ·rename_i hr
   have h1:=mf hr (m:=u.bz.length) (Nat.le_refl _)
   have h2:=hr.pz.2.2
   unfold dJ
   omega
  ·exact Nat.zero_le _
 generalize mB u=E at *
 have a3:(E.map dX.av).length=E.length:=List.length_map _
 refine cV ?_
 simp only[List.length_map]
 have z1:=qR i64 a (fun _=>i64 (-1))
 have z2:=qR i64 k (fun _=>i64 (-1))
 have z3:=qR dX.av E (fun _=>dX.av ⟨0,0,0,0⟩)
 refine aN (fun i:Nat=>[(1,cM w),(2, .pt 0 1 0 0),(5, .sl 3 w.length),(6, .sl 8 a.length),(9, .sl 16 a.length),(10, .sl 22 k.length),(13, .sl 30 k.length),(14, .sl 35 E.length),(16,i64 i)])
  (fun i H n=>i≤a.length∧36≤n∧vh u w a k (iJ (fun j=>i64 (a.getD j default)) (fun _=>i64 (-1)) a.length i) (k.map i64) (E.map dX.av) H) (fun i=>a.length - i) 0
  cK ⟨Nat.zero_le _,ca,by rw[z1];exact⟨⟨_,bw⟩,⟨_,bw⟩,⟨_,bw⟩,⟨_,bw⟩,⟨_,bw⟩,⟨_,bw⟩,⟨_,bw⟩⟩⟩ ?_
 rintro i H n ⟨hi,hn,⟨⟨d0,q0⟩,⟨d1,q1⟩,⟨d2,q2⟩,⟨d3,q3⟩,⟨d4,q4⟩,⟨d5,q5⟩,⟨d6,q6⟩⟩⟩
 by_cases hil:i<a.length
 ·have aF:(iJ (fun j=>i64 (a.getD j default)) (fun _=>i64 (-1)) a.length i).length=a.length:=tB ..
  have e1:∀d,(iJ (fun j=>i64 (a.getD j default)) (fun _=>i64 (-1)) a.length i).getD ((i:Int)).toNat d=i64 (a.getD i default):=fun d=>by rw[Int.toNat_natCast];exact qQ _ _ hil d
  have hset:(iJ (fun j=>i64 (a.getD j default)) (fun _=>i64 (-1)) a.length i).set i (i64 (-1))=iJ (fun j=>i64 (a.getD j default)) (fun _=>i64 (-1)) a.length (i+1):=tC _ _ hil
  refine cV ?_
  exact⟨i+1,by omega,cK,by omega,ca,by rw[←hset];exact⟨⟨_,bw⟩,⟨_,bw⟩,⟨_,bw⟩,⟨_,bw⟩,⟨_,bw⟩,⟨_,bw⟩,⟨_,bw⟩⟩⟩
 obtain rfl:i=a.length:=by omega
 refine cV ?_
 refine aN (fun i:Nat=>[(1,cM w),(2, .pt 0 1 0 0),(5, .sl 3 w.length),(6, .sl 8 a.length),(9, .sl 16 a.length),(10, .sl 22 k.length),(13, .sl 30 k.length),(14, .sl 35 E.length),(17,i64 i)])
  (fun i H n=>i≤k.length∧36≤n∧vh u w a k (iJ (fun j=>i64 (a.getD j default)) (fun _=>i64 (-1)) a.length a.length) (iJ (fun j=>i64 (k.getD j default)) (fun _=>i64 (-1)) k.length i) (E.map dX.av) H) (fun i=>k.length - i) 0
  cK ⟨Nat.zero_le _,ca,by rw[z2];exact⟨⟨_,bw⟩,⟨_,bw⟩,⟨_,bw⟩,⟨_,bw⟩,⟨_,bw⟩,⟨_,bw⟩,⟨_,bw⟩⟩⟩ ?_
 clear q0 q1 q2 q3 q4 q5 q6
 rintro i H n ⟨hi,hn,⟨⟨d0,q0⟩,⟨d1,q1⟩,⟨d2,q2⟩,⟨d3,q3⟩,⟨d4,q4⟩,⟨d5,q5⟩,⟨d6,q6⟩⟩⟩
 by_cases hil:i<k.length
 ·have aF:(iJ (fun j=>i64 (k.getD j default)) (fun _=>i64 (-1)) k.length i).length=k.length:=tB ..
  have e1:∀d,(iJ (fun j=>i64 (k.getD j default)) (fun _=>i64 (-1)) k.length i).getD ((i:Int)).toNat d=i64 (k.getD i default):=fun d=>by rw[Int.toNat_natCast];exact qQ _ _ hil d
  have hset:(iJ (fun j=>i64 (k.getD j default)) (fun _=>i64 (-1)) k.length i).set i (i64 (-1))=iJ (fun j=>i64 (k.getD j default)) (fun _=>i64 (-1)) k.length (i+1):=tC _ _ hil
  refine cV ?_
  exact⟨i+1,by omega,cK,by omega,ca,by rw[←hset];exact⟨⟨_,bw⟩,⟨_,bw⟩,⟨_,bw⟩,⟨_,bw⟩,⟨_,bw⟩,⟨_,bw⟩,⟨_,bw⟩⟩⟩
 obtain rfl:i=k.length:=by omega
 refine cV ?_
 refine aN (fun i:Nat=>[(1,cM w),(2, .pt 0 1 0 0),(5, .sl 3 w.length),(6, .sl 8 a.length),(9, .sl 16 a.length),(10, .sl 22 k.length),(13, .sl 30 k.length),(14, .sl 35 E.length),(18,i64 i)])
  (fun i H n=>i≤E.length∧36≤n∧vh u w a k (iJ (fun j=>i64 (a.getD j default)) (fun _=>i64 (-1)) a.length a.length) (iJ (fun j=>i64 (k.getD j default)) (fun _=>i64 (-1)) k.length k.length) (iJ (fun j=>dX.av (E.getD j default)) (fun _=>dX.av ⟨0,0,0,0⟩) E.length i) H) (fun i=>E.length - i) 0
  cK ⟨Nat.zero_le _,ca,by rw[z3];exact⟨⟨_,bw⟩,⟨_,bw⟩,⟨_,bw⟩,⟨_,bw⟩,⟨_,bw⟩,⟨_,bw⟩,⟨_,bw⟩⟩⟩ ?_
 clear q0 q1 q2 q3 q4 q5 q6
 rintro i H n ⟨hi,hn,⟨⟨d0,q0⟩,⟨d1,q1⟩,⟨d2,q2⟩,⟨d3,q3⟩,⟨d4,q4⟩,⟨d5,q5⟩,⟨d6,q6⟩⟩⟩
 by_cases hil:i<E.length
 ·have aF:(iJ (fun j=>dX.av (E.getD j default)) (fun _=>dX.av ⟨0,0,0,0⟩) E.length i).length=E.length:=tB ..
  have e1:∀d,(iJ (fun j=>dX.av (E.getD j default)) (fun _=>dX.av ⟨0,0,0,0⟩) E.length i).getD ((i:Int)).toNat d=dX.av (E.getD i default):=fun d=>by rw[Int.toNat_natCast];exact qQ _ _ hil d
  have hset:(iJ (fun j=>dX.av (E.getD j default)) (fun _=>dX.av ⟨0,0,0,0⟩) E.length i).set i (dX.av ⟨0,0,0,0⟩)=iJ (fun j=>dX.av (E.getD j default)) (fun _=>dX.av ⟨0,0,0,0⟩) E.length (i+1):=tC _ _ hil
  refine cV ?_
  exact⟨i+1,by omega,cK,by omega,ca,by rw[←hset];exact⟨⟨_,bw⟩,⟨_,bw⟩,⟨_,bw⟩,⟨_,bw⟩,⟨_,bw⟩,⟨_,bw⟩,⟨_,bw⟩⟩⟩
 obtain rfl:i=E.length:=by omega
 refine cV ?_
 have c0:=PQ u hu
 have c1:=NY u hu w
 rw[ha] at c0
 rw[hk] at c1
 have vw:∀{H:Hp} {b:Nat} {d:AV} {l:List Int},bu H b=some (.row 3 1 d (l.map i64))→cZ.dV H 6 (.sl b l.length)=cM l:=fun h=>QA h
 have same:∀l:List Int,decide (l=l)=true:=fun l=>decide_eq_true rfl
 refine cV ?_
 refine aT (args2:=[cM a,cM a]) (gP a a (by omega) (by omega)) (ng (vw bw) (wN a)) (by simp[cX,cI,cB]) trivial ?_
 rw[same]
 refine cV ?_
 refine aT (args2:=[cM k,cM k]) (gP k k (by omega) (by omega)) (ng (vw bw) (wN k)) (by simp[cX,cI,cB]) trivial ?_
 rw[same]
 refine cV ?_
 refine aT (args2:=[cM w,cM w]) (gP w w (by omega) (by omega)) (ng (vw bw) (wN w)) (by simp[cX,cI,cB]) trivial ?_
 rw[same]
 refine cV ?_
 first|exact⟨rfl⟩|trivial
end Go.Proofs.YtjopoheligmmoaaGreatDoor
end
section
/- Lists are their asker's own: for every unit and schedule. No conditions beyond the card's own. -/
namespace Go.Proofs.YtjopoheligmmoaaGreatDoor
open Go Go.cZ Go.Proofs Go.RowKit Go.ChangeShapes Go.WideShapes Go.ChangeAt
set_option linter.unusedSimpArgs false
set_option linter.unusedVariables false
set_option maxRecDepth 100000 in
theorem rC (os:Os) (started:os.Started) (H:Type) (enc:TypeId×Value→H):
 ReturnsInHanded {} Tryz.checked os 11 .any (fun w args=>(Rows.stuckOwnSpec.pre enc Tryz.prog Tryz.f11 [] false w args∧laidMetH Tryz.prog yY w)∧sizedMet enc Tryz.prog Tryz.f11 (OpenSpec.ofChange Rows.stuckOwnSpec) false w args) (Rows.stuckOwnSpec.post enc Tryz.prog Tryz.f11 false true false false):=by
 refine returnsInHanded_of_change_and (C:=Tryz.checked) (X:=fun w _=>laidMetH Tryz.prog yY w) (fun _ _ _ hh h=>h.of_heap hh) own started (by kernel_rfl) Tryz.func11
  (ChangeSpec.witness_shaped (enc:=enc) (C:=Tryz.checked) (os:=os) (X:=fun w _=>laidMetH Tryz.prog yY w) false (World.doorLaid Tryz.prog 400 os) #[.agg #[.slice none 0 0, .slice none 0 0, .slice none 0 0], .slice none 0 0] 8 rfl (World.shaped_of_RefB (by kernel_rfl) (by kernel_rfl)) (by kernel_rfl) (by kernel_rfl) (by kernel_rfl) (MN os _)) ?_
 intro W base args ds gs before hval hW _ hr hL _
 refine wW (ts:=[25,31]) (tb:=4) laidOut (by kernel_rfl) rfl Tryz.underlying4 (by kernel_rfl) (fun ds h=> ?_) (fun t ht=> ?_)
  (nU (ag:=true) (by kernel_rfl) DF (fun h=>by cases h) (nU (ag:=false) (by kernel_rfl) (DD Tryz.underlying31 Tryz.underlying3 (by kernel_rfl) (by kernel_rfl)) (fun _ _ _=>rfl) w8))
  (fun a h=> ?_) hval hW hr (TE hL)
 ·match ds,h with
  |[d0,d1],_=>rfl
 ·have:∀t∈[25,31],Tryz.prog.readableRec t=true∧t<Tryz.prog.types.size:=by
   simp only[List.forall_mem_cons]
   refine⟨⟨by kernel_rfl,of_decide_eq_true (by kernel_rfl)⟩,⟨by kernel_rfl,of_decide_eq_true (by kernel_rfl)⟩,by simp⟩
  exact this t ht
 ·exact PF a.1 h.1 a.2.1 h.2.1.2
theorem wz:Rows.StuckOwnSaid:=
 OpenClaim.holds_of_wide 11 Tryz.f11 rfl rfl rfl rfl rfl rfl rfl ⟨rfl,rfl,rfl,rfl,rfl⟩ rfl rfl rfl rfl rfl (by kernel_rfl) Tryz.func11 (by kernel_rfl)
  (of_decide_eq_true (by kernel_rfl)) (by unfold Func.isWrapper;first|(rw[if_pos (by decide+kernel)];kernel_rfl)|(rw[if_neg (by decide+kernel)];exact⟨rfl,rfl⟩))
  (fun os started H enc _=>rC os started H enc)
set_option maxRecDepth 100000 in
theorem stuckOwn_holds:Rows.StuckOwnCardSaid:=
 Claim7.holds_tied_plain_at .later [] [.data] true (true, "14b4af768aa3e6a8dd3f17bcbe4400c6eab11aaff17ef5f81a71be15f13cfe4e") false
  wz (fun _ h=>by cases h) (by kernel_rfl) (fun _ h=>by cases h) stuckOwn_row_tie rfl ⟨rfl,rfl⟩ (by kernel_rfl) rfl
  (fun f fn hf hfn=>by
   obtain rfl:f=11:=Option.some.inj ((show Tryz.prog.funcNamed "stile/stilelaw24.StuckOwn" =some 11 by kernel_rfl).symm.trans hf)|>.symm
   obtain rfl:fn=Tryz.f11:=(Option.some.inj (Tryz.func11.symm.trans hfn)).symm
   exact⟨by kernel_rfl,fun j t ht=>by
    rw[show Tryz.f11.params=#[25,31] by kernel_rfl] at ht
    have hm:t∈[25,31]:=by simpa using Array.mem_of_getElem? ht
    have hall:([25,31].all fun u=> !Tryz.prog.wantsStandIn u)=true:=by kernel_rfl
    exact(show Tryz.prog.wantsStandIn t=false by simpa using List.all_eq_true.1 hall t hm)⟩)
  (by kernel_rfl)
end Go.Proofs.YtjopoheligmmoaaGreatDoor
end
