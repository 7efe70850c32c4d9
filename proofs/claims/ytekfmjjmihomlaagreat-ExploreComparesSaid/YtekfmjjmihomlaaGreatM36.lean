import Derived.Test.YtekfmjjmihomlaaGreatM35
section
/- Way: what it does to its list; the way back. -/
namespace Go.Proofs.YtekfmjjmihomlaaGreat
open Go Go.cO Go.Proofs
set_option linter.unusedSimpArgs false
set_option linter.unusedVariables false
set_option maxRecDepth 8000
def iu (l:List Int) (i:Nat):List Int:=(List.range l.length).map fun q=>if q<i∨l.length≤q+i then l.getD (l.length - 1 - q) 0 else l.getD q 0
theorem fQ (l:List Int) (i:Nat):(iu l i).length=l.length:=by simp[iu]
theorem kO {l:List Int} {i q:Nat} (h:q<l.length):(iu l i).getD q 0=if q<i∨l.length≤q+i then l.getD (l.length - 1 - q) 0 else l.getD q 0:=by simp[iu,List.getD,h]
theorem zK (l:List Int):iu l 0=l:=by
 apply List.ext_getElem (fQ l 0)
 intro q h1 h2
 have:=kO (l:=l) (i:=0) h2
 rw[if_neg (by omega)] at this
 simpa[List.getD,h1,h2] using this
theorem C3 {l:List Int} {i:Nat} (h:l.length≤2 * i+1):iu l i=l.reverse:=by
 apply List.ext_getElem (by simp[fQ])
 intro q h1 h2
 have hq:q<l.length:=by simpa using h2
 have:=kO (l:=l) (i:=i) hq
 rw[show(iu l i).getD q 0=(iu l i)[q] by simp[List.getD,h1]] at this
 rw[this,List.getElem_reverse]
 split
 ·simp[List.getD,show l.length - 1 - q<l.length by omega]
 ·have:q=l.length - 1 - q:=by omega
  conv=>lhs;rw[this]
  simp[List.getD,show l.length - 1 - q<l.length by omega]
theorem zJ {l:List Int} {i:Nat} (h:2 * i+1<l.length):((iu l i).set i (l.getD (l.length - 1 - i) 0)).set (l.length - 1 - i) (l.getD i 0)=iu l (i+1):=by
 apply List.ext_getElem (by simp[fQ])
 intro q h1 h2
 have hq:q<l.length:=by simpa[fQ] using h2
 have e1:=kO (l:=l) (i:=i) hq
 have e2:=kO (l:=l) (i:=i+1) hq
 rw[show(iu l (i+1)).getD q 0=(iu l (i+1))[q] by simp[List.getD,h2]] at e2
 rw[show(iu l i).getD q 0=(iu l i)[q]'(by rw[fQ];exact hq) by simp[List.getD,fQ,hq]] at e1
 rw[e2,List.getElem_set,List.getElem_set,e1]
 by_cases c1:l.length - 1 - i=q
 ·subst c1
  rw[if_pos rfl,if_pos (by omega),show l.length - 1 - (l.length - 1 - i)=i by omega]
 ·rw[if_neg c1]
  by_cases c2:i=q
  ·subst c2
   rw[if_pos rfl,if_pos (by omega)]
  ·rw[if_neg c2]
   by_cases c3:q<i∨l.length≤q+i
   ·rw[if_pos c3,if_pos (by omega)]
   ·rw[if_neg c3,if_neg (by omega)]
set_option maxHeartbeats 1000000 in
theorem rf {b:Nat} {l:List Int} {H:Hp} {nx:Nat} (hb:b<nx) (hl:l.length≤1048576) (r:∃d,bd H b=some (.row 3 1 d (l.map i64))):
 cC Tryz.prog 59 [.sl b l.length] H nx (fun _ H' n=>(∃d,bd H' b=some (.row 3 1 d (l.reverse.map i64)))∧nx≤n∧∀y,y<nx→y≠b→bd H' y=bd H y):=by
 obtain⟨d0,r0'⟩:=r
 refine aQ B4 rfl ?_
 have a0:(l.map i64).length=l.length:=by simp
 refine cW ?_
 refine aR (fun σ:Nat×Int=>[(0, .sl b l.length),(2,i64 σ.1),(3,i64 σ.2)]) (fun σ H2 n=>σ.2=(l.length:Int) - 1 - σ.1∧2 * σ.1≤l.length+1∧nx≤n∧(∃d,bd H2 b=some (.row 3 1 d ((iu l σ.1).map i64)))∧∀y,y<nx→y≠b→bd H2 y=bd H y) (fun σ=>l.length - σ.1) (0,(l.length:Int) - 1) cM ⟨by simp,by dsimp only;omega,cX,⟨d0,by rw[zK];exact bf⟩,fun y h1 h2=>br⟩ ?_
 clear r0' a0
 rintro⟨i,j⟩ H2 n ⟨hj,hi,hn,⟨d,r1⟩,hk⟩
 dsimp only at hj hi r1 ⊢
 have a0:((iu l i).map i64).length=l.length:=by simp[fQ]
 by_cases hc:2 * i+1<l.length
 ·obtain⟨jn,rfl⟩:∃jn:Nat,j=jn:=⟨j.toNat,by omega⟩
  have hjn:jn=l.length - 1 - i:=by omega
  have e0:=fun d=>ee (l:=iu l i) (k:=i) (by rw[fQ];omega) d
  have e1:=fun d=>ee (l:=iu l i) (k:=jn) (by rw[fQ];omega) d
  have e2:∀x d,(((iu l i).map i64).set ((i:Int)).toNat x).getD ((jn:Int)).toNat d=i64 ((iu l i).getD jn 0):=fun x d=>by
   rw[getD_set_ne (by omega)];exact e1 d
  have v0:=kO (l:=l) (i:=i) (q:=i) (by omega)
  rw[if_neg (by omega)] at v0
  have v1:=kO (l:=l) (i:=i) (q:=jn) (by omega)
  rw[if_neg (by omega)] at v1
  rw[v0] at e0
  rw[v1] at e1 e2
  have e3:=e2 (i64 (l.getD jn 0))
  clear e2
  have hnx:=zJ hc
  rw[←hjn] at hnx
  refine cW ?_
  refine⟨(i+1,(jn:Int) - 1),by dsimp only;omega,cM,by dsimp only;omega,by dsimp only;omega,cX,⟨_,by dsimp only;rw[←hnx,List.map_set,List.map_set];exact bf⟩,fun y h1 h2=>Eq.trans br (hk y h1 h2)⟩
 ·refine cW ?_
  rw[C3 (by omega)] at r1
  exact⟨⟨d,bf⟩,cX,fun y h1 h2=>Eq.trans br (hk y h1 h2)⟩
def gC (l:List cI):Nat→Nat→List Int
 |0,_=>[]
 |f+1,k=>if 0≤(l.getD k default).from_ then(l.getD k default).cP::gC l f (l.getD k default).from_.toNat else[]
theorem gV.rB {u:bh} {l:List cI} (h:gV u l) {k:Nat} (hk:k<l.length) (h0:0≤(l.getD k default).from_):(l.getD k default).from_.toNat<k∧0<k:=by
 rcases Nat.eq_zero_or_pos k with e|e
 ·subst e;rw[h.first] at h0;exact absurd h0 (by simp)
 ·obtain⟨k',t,h1,_,_,h2⟩:=h.D1 k e hk
  rw[h2]
  exact⟨by dsimp only;omega,e⟩
theorem ny {u:bh} {l:List cI} (h:gV u l):∀{f g k:Nat},k<l.length→k≤f→k≤g→gC l f k=gC l g k
 |0,0,k,hk,hf,hg=>rfl
 |0,g+1,k,hk,hf,hg=>by
  obtain rfl:k=0:=by omega
  rw[gC,gC,h.first];rfl
 |f+1,0,k,hk,hf,hg=>by
  obtain rfl:k=0:=by omega
  rw[gC,gC,h.first];rfl
 |f+1,g+1,k,hk,hf,hg=>by
  rw[gC,gC]
  split
  ·rename_i h0
   obtain⟨h1,h2⟩:=h.rB hk h0
   rw[ny h (f:=f) (g:=g) (by omega) (by omega) (by omega)]
  ·rfl
abbrev mn (l:List cI) (k:Nat):List Int:=gC l k k
theorem zx {u:bh} {l:List cI} (h:gV u l) {k:Nat} (hk:k<l.length) (h0:0≤(l.getD k default).from_):mn l k=(l.getD k default).cP::mn l (l.getD k default).from_.toNat:=by
 obtain⟨h1,h2⟩:=h.rB hk h0
 obtain⟨f,rfl⟩:∃f,k=f+1:=⟨k - 1,by omega⟩
 show gC l (f+1) (f+1)=_
 rw[gC,if_pos h0]
 congr 1
 exact ny h (by omega) (by omega) (Nat.le_refl _)
theorem yG {l:List cI} {k:Nat} (h0:¬0≤(l.getD k default).from_):mn l k=[]:=by
 show gC l k k=[]
 cases k with
 |zero=>rfl
 |succ f=>rw[gC,if_neg h0]
theorem pa (l:List cI):∀f k,(gC l f k).length≤f
 |0,k=>Nat.le_refl _
 |f+1,k=>by
  rw[gC]
  split
  ·rw[List.length_cons];have:=pa l f (l.getD k default).from_.toNat;omega
  ·simp
def fD (u:bh) (l:List cI) (e:dI) (k:Nat):Option Nat:=(List.range k).find? fun i=>(l.getD i default).m.stuck u&&decide (eF ((l.getD i default).m.end_ u) e=0)
theorem v7 (u:bh) (l:List cI) (e:dI) (k:Nat):fD u l e (k+1)=match fD u l e k with
 |some i=>some i
 |none=>if(l.getD k default).m.stuck u&&decide (eF ((l.getD k default).m.end_ u) e=0) then some k else none:=by
 unfold fD
 rw[List.range_succ,List.find?_append]
 cases(List.range k).find? fun i=>(l.getD i default).m.stuck u&&decide (eF ((l.getD i default).m.end_ u) e=0) with
 |some i=>rfl
 |none=>
  simp only[Option.none_or,List.find?_cons,List.find?_nil]
  split<;>simp_all
def iy (l:List cI):Option Nat→List Int
 |none=>[]
 |some i=>(mn l i).reverse
set_option maxHeartbeats 2000000 in
theorem JB {u:bh} (hr:cr u) {l:List cI} (hf:gV u l) (hl:l.length≤65536) {e:dI} (he1:e.bn.length * 16≤140737488355328) (he2:e.mem.length * 8≤140737488355328) {k:Nat} (hk:k<l.length) {ub ib eb wb W:Nat} {H:Hp} {nx:Nat} (hn:ub<nx∧ib<nx∧eb<nx∧wb<nx∧W<nx) (hne:ub≠ib∧ub≠wb∧ub≠W∧ib≠eb∧ib≠wb∧ib≠W∧eb≠wb∧eb≠W∧wb≠W)
 (r0:∃d,bd H ub=some (.row 25 3 d [u.av])) (r1:∃d,bd H ib=some (.row 4 1 d [bl (fD u l e k).isSome])) (r2:∃d,bd H eb=some (.row 40 3 d [e.av])) (r3:∃d,bd H wb=some (.row 53 1 d [.sl W (iy l (fD u l e k)).length])) (r4:∃d,bd H W=some (.row 3 1 d ((iy l (fD u l e k)).map i64))):
 cC Tryz.prog 58 [iW u l,i64 k, .pt ub 1 0 0, .pt ib 1 0 0, .pt eb 1 0 0, .pt wb 1 0 0] H nx (fun _ H' n=>(∃d,bd H' ib=some (.row 4 1 d [bl (fD u l e (k+1)).isSome]))∧(∃d,bd H' wb=some (.row 53 1 d [.sl W (iy l (fD u l e (k+1))).length]))∧(∃d,bd H' W=some (.row 3 1 d ((iy l (fD u l e (k+1))).map i64)))∧nx≤n∧∀y,y<nx→y≠ib→y≠wb→y≠W→bd H' y=bd H y):=by
 obtain⟨d0,r0'⟩:=r0
 obtain⟨d1,r1'⟩:=r1
 obtain⟨d2,r2'⟩:=r2
 obtain⟨d3,r3'⟩:=r3
 obtain⟨d4,r4'⟩:=r4
 obtain⟨n0,n1,n2,n3,n4⟩:=hn
 obtain⟨m0,m1,m2,m3,m4,m5,m6,m7,m8⟩:=hne
 obtain⟨hm,hp⟩:=hf.ok k hk
 have e0:∀d,(l.map (cI.av u)).getD ((k:Int)).toNat d= .agg [(l.getD k default).m.fz u,i64 (l.getD k default).from_,i64 (l.getD k default).cP]:=fun d=>by rw[Int.toNat_natCast];exact dN (cI.av u) l k d hk
 have a0:(l.map (cI.av u)).length=l.length:=by simp
 have hgl:=hr.AR
 have hml:=hm.ml
 have c0:=qP u hr (l.getD k default).m hm (by omega) (by omega)
 have c1:=jR ((l.getD k default).m.end_ u) e (by show(l.getD k default).m.bn.length<_;omega) (by show(l.getD k default).m.mem.length<_;omega)
 rw[v7]
 cases hh:fD u l e k with
 |some i=>
  rw[hh] at r1' r3' r4'
  dsimp only
  generalize (l.getD k default).m=m at *
  cases hs:m.stuck u with
  |true=>
   rw[jQ,hs] at c0
   refine aQ rR rfl ?_
   refine cW ?_
   exact⟨⟨_,bf⟩,⟨_,bf⟩,⟨_,bf⟩,cX,fun y y1 y2 y3 y4=>br⟩
  |false=>
   rw[jQ,hs] at c0
   refine aQ rR rfl ?_
   refine cW ?_
   exact⟨⟨_,bf⟩,⟨_,bf⟩,⟨_,bf⟩,cX,fun y y1 y2 y3 y4=>br⟩
 |none=>
  rw[hh] at r1' r3' r4'
  dsimp only
  by_cases hs:(l.getD k default).m.stuck u=true
  ·rw[jQ,hs] at c0
   by_cases hc:eF ((l.getD k default).m.end_ u) e=0
   ·rw[hs,decide_eq_true hc,if_pos (by rfl)]
    rw[decide_eq_true hc] at c1
    refine aQ rR rfl ?_
    refine cW ?_
    clear c0 c1 e0 r0' r2'
    have hway:iy l none=[]:=rfl
    rw[hway] at r3' r4'
    refine aR (fun σ:Nat×List Int=>[(0,iW u l),(5, .pt wb 1 0 0),(10,i64 σ.1)])
     (fun σ H2 n=>σ.1<l.length∧σ.2++mn l σ.1=mn l k∧nx≤n∧(∃d,bd H2 ib=some (.row 4 1 d [bl true]))∧(∃d,bd H2 wb=some (.row 53 1 d [.sl W σ.2.length]))∧(∃d,bd H2 W=some (.row 3 1 d (σ.2.map i64)))∧∀y,y<nx→y≠ib→y≠wb→y≠W→bd H2 y=bd H y) (fun σ=>σ.1) (k,[]) cM
     ⟨hk,rfl,cX,⟨_,bf⟩,⟨_,bf⟩,⟨_,bf⟩,fun y y1 y2 y3 y4=>br⟩ ?_
    clear r1' r3' r4'
    rintro⟨at_,acc⟩ H2 n ⟨hat,hacc,hn2,⟨d1,r1'⟩,⟨d3,r3'⟩,⟨d4,r4'⟩,hkp⟩
    dsimp only at hat hacc r3' r4' ⊢
    have hbl:=pa l k k
    have hal:acc.length≤65536:=by
     have:=congrArg List.length hacc
     rw[List.length_append] at this
     have:(mn l k).length≤k:=hbl
     omega
    have a1:(acc.map i64).length=acc.length:=by simp
    have e0:∀d,(l.map (cI.av u)).getD ((at_:Int)).toNat d= .agg [(l.getD at_ default).m.fz u,i64 (l.getD at_ default).from_,i64 (l.getD at_ default).cP]:=fun d=>by rw[Int.toNat_natCast];exact dN (cI.av u) l at_ d hat
    by_cases h0:0≤(l.getD at_ default).from_
    ·obtain⟨hlt,hpos⟩:=hf.rB hat h0
     have hon:=zx hf hat h0
     obtain⟨q,hq⟩:∃q:Nat,(l.getD at_ default).from_=q:=⟨_,(Int.toNat_of_nonneg h0).symm⟩
     rw[hq] at e0 hlt hon
     rw[Int.toNat_natCast] at hlt hon
     have hge:¬(q:Int)<0:=by omega
     refine cW ?_
     refine⟨(q,acc++[(l.getD at_ default).cP]),hlt,cM,by dsimp only;omega,by dsimp only;rw[List.append_assoc,List.singleton_append,←hon];exact hacc,cX,⟨_,bf⟩,⟨_,by dsimp only;rw[List.length_append];exact bf⟩,⟨_,by dsimp only;rw[List.map_append];exact bf⟩,fun y y1 y2 y3 y4=>Eq.trans br (hkp y y1 y2 y3 y4)⟩
    ·have hon:=yG h0
     rw[hon,List.append_nil] at hacc
     subst hacc
     refine cW ?_
     refine aJ (rf (b:=W) (l:=mn l k) ?_ (by omega) ?_) ?_
     ·exact cX
     ·exact⟨_,bf⟩
     rintro _ H3 n3 ⟨⟨d5,r5⟩,hn3,hk3⟩
     have q1:=hk3 ib cX (by omega)
     have q2:=hk3 wb cX (by omega)
     refine cW ?_
     exact⟨⟨d1,q1.trans bf⟩,⟨d3,by simp only[iy,List.length_reverse];exact q2.trans bf⟩,⟨d5,bf⟩,cX,fun y y1 y2 y3 y4=>(hk3 y cX y4).trans (Eq.trans br (hkp y y1 y2 y3 y4))⟩
   ·rw[hs,decide_eq_false hc,if_neg (by decide)]
    rw[decide_eq_false hc] at c1
    refine aQ rR rfl ?_
    refine cW ?_
    exact⟨⟨_,bf⟩,⟨_,bf⟩,⟨_,bf⟩,cX,fun y y1 y2 y3 y4=>br⟩
  ·have hs2:(l.getD k default).m.stuck u=false:=by simpa using hs
   rw[jQ,hs2] at c0
   rw[hs2,Bool.false_and,if_neg (by decide)]
   refine aQ rR rfl ?_
   refine cW ?_
   exact⟨⟨_,bf⟩,⟨_,bf⟩,⟨_,bf⟩,cX,fun y y1 y2 y3 y4=>br⟩
end Go.Proofs.YtekfmjjmihomlaaGreat
end
section
/- Way: the walk. -/
namespace Go.Proofs.YtekfmjjmihomlaaGreat
open Go Go.cO Go.Proofs
set_option linter.unusedSimpArgs false
set_option linter.unusedVariables false
set_option maxRecDepth 8000
theorem JW {te e:TypeId} {sz b nx:Nat} {H:Hp} {d:AV} (hb:b<nx) (hsz:0<sz) (h:bd H b=some (.row te 1 d [.sc (.slice none 0 0)])):∃H2,Wk .any H nx .any H2 (nx+1)∧bd H2 b=some (.row te 1 .any [.sl nx 0])∧bd H2 nx=some (.row e sz .any [])∧∀y,y<nx→y≠b→bd H2 y=bd H y:=by
 refine⟨j6 te e sz b 1 nx H,Wk.born hb hsz h, ?_, ?_,fun y y1 y2=>zy y1 y2⟩
 ·rw[j6,cS,qQ];rfl
 ·rw[j6,cE (by omega),iY,if_pos (by omega)]
noncomputable def qX (u:bh) (most:Int) (e:dI):AV:=
 if(iG u most).1=0 then .dY [ct (iy (iG u most).2 (fD u (iG u most).2 e (iG u most).2.length)),bl (fD u (iG u most).2 e (iG u most).2.length).isSome,i64 0] else .dY [.sc (.slice none 0 0),bl false,i64 (iG u most).1]
theorem G7 {P:Program} {f:FuncId} {args:List AV} {te:TypeId} (e:TypeId) (sz:Nat) {b nx:Nat} {H:Hp} {d:AV} {R:AV→Hp→Nat→Prop} (hb:b<nx) (hsz:0<sz) (h:bd H b=some (.row te 1 d [.sc (.slice none 0 0)]))
 (k:∀H2,bd H2 b=some (.row te 1 .any [.sl nx 0])→bd H2 nx=some (.row e sz .any [])→(∀y,y<nx→y≠b→bd H2 y=bd H y)→cC P f args H2 (nx+1) R):cC P f args H nx R:=by
 obtain⟨H2,hw,q1,q2,q3⟩:=JW hb hsz h
 exact cC.DD (k H2 q1 q2 q3) (hw.same _)
def xz (u:bh) (most:Int) (I:Nat→Hp→Prop) (r:AV) (H:Hp):Prop:=
 match gX u most.toNat with
 |none=>r= .dY [i64 0,i64 3]
 |some l=>r= .dY [i64 l.length,i64 0]∧I l.length H
theorem DQ.short {u:bh} {most:Int} {I:Nat→Hp→Prop} {nx:Nat} {H0:Hp} {r:AV} {H:Hp} {n:Nat} (h:DQ u most I nx H0 r H n):xz u most I r H:=by
 obtain⟨_,h⟩:=h
 unfold xz
 revert h
 cases gX u most.toNat with
 |none=>exact fun h=>h.1
 |some l=>exact id
set_option maxHeartbeats 2000000 in
theorem DI (u:bh) (hu:u.Wf) (most:Int) (e:dI) (he1:e.bn.length * 16≤140737488355328) (he2:e.mem.length * 8≤140737488355328):Pure Tryz.prog 25 [u.av,i64 most,e.av] (fun r=>r=qX u most e):=by
 refine ef ?_ (by unfold qX;split<;>simp[bz,cK,cA])
 refine aQ BP rfl ?_
 have hnil:ct []= .im 1 .any []:=rfl
 by_cases hr:cr u
 ·by_cases hm:1≤most∧most≤65536
  ·unfold qX
   rw[jy hr hm]
   refine cW ?_
   let l:=(gX u most.toNat).getD []
   let I:Nat→Hp→Prop:=fun k H=>(∃d,bd H 0=some (.row 25 3 d [u.av]))∧(∃d,bd H 6=some (.row 4 1 d [bl (fD u l e k).isSome]))∧(∃d,bd H 1=some (.row 40 3 d [e.av]))∧(∃d,bd H 5=some (.row 53 1 d [.sl 11 (iy l (fD u l e k)).length]))∧(∃d,bd H 11=some (.row 3 1 d ((iy l (fD u l e k)).map i64)))
   refine aJ (R:=fun r H n=>12≤n∧xz u most I r H) (G7 (b:=5) 3 1 (by omega) (by omega) (d:=fI false [.slice none 0 0]) (te:=53) ?_ fun H2 q1 q2 q3=> ?_) ?_
   ·exact bf
   ·refine(np u hu hr most hm _ [.pt 0 1 0 0, .pt 6 1 0 0, .pt 1 1 0 0, .pt 5 1 0 0] H2 12 I ?_ ?_ ?_).mono fun r H n h=>⟨h.1,h.short⟩
    ·exact⟨⟨_,(q3 0 (by omega) (by omega)).trans bf⟩,⟨_,(q3 6 (by omega) (by omega)).trans bf⟩,⟨_,(q3 1 (by omega) (by omega)).trans bf⟩,⟨_,q1⟩,⟨_,q2⟩⟩
    ·rintro k H H' ⟨⟨d0,p0⟩,⟨d1,p1⟩,⟨d2,p2⟩,⟨d3,p3⟩,⟨d4,p4⟩⟩ hk
     exact⟨⟨d0,(hk 0 (by omega)).trans p0⟩,⟨d1,(hk 6 (by omega)).trans p1⟩,⟨d2,(hk 1 (by omega)).trans p2⟩,⟨d3,(hk 5 (by omega)).trans p3⟩,⟨d4,(hk 11 (by omega)).trans p4⟩⟩
    ·intro l' hl' k H n hk hn ⟨p0,p1,p2,p3,p4⟩
     have hll:l=l':=by show(gX u most.toNat).getD []=l';rw[hl'];rfl
     rw[hll] at p1 p3 p4
     obtain⟨hf,hlm,_⟩:=qh hu hr (by omega) hl'
     refine(JB hr hf (by omega) he1 he2 hk (ub:=0) (ib:=6) (eb:=1) (wb:=5) (W:=11) ⟨by omega,by omega,by omega,by omega,by omega⟩ ⟨by omega,by omega,by omega,by omega,by omega,by omega,by omega,by omega,by omega⟩ p0 p1 p2 p3 p4).mono ?_
     rintro _ H' n' ⟨s1,s2,s3,s4,s5⟩
     obtain⟨d0,p0⟩:=p0
     obtain⟨d2,p2⟩:=p2
     refine⟨⟨⟨d0,(s5 0 (by omega) (by omega) (by omega) (by omega)).trans p0⟩, ?_,⟨d2,(s5 1 (by omega) (by omega) (by omega) (by omega)).trans p2⟩, ?_, ?_⟩,s4,fun y y1 y2=>s5 y y2 (by omega) (by omega) (by omega)⟩
     ·rw[hll];exact s1
     ·rw[hll];exact s2
     ·rw[hll];exact s3
   rintro r H' n' ⟨hn,hA⟩
   revert hA
   unfold xz
   cases hs:gX u most.toNat with
   |none=>
    rintro rfl
    refine cW ?_
    exact⟨rfl⟩
   |some l'=>
    rintro⟨rfl,⟨d0,p0⟩,⟨d1,p1⟩,⟨d2,p2⟩,⟨d3,p3⟩,⟨d4,p4⟩⟩
    have hll:l=l':=by show(gX u most.toNat).getD []=l';rw[hs];rfl
    rw[hll] at p1 p3 p4
    refine cW ?_
    refine⟨?_⟩
    dsimp only
    rw[if_pos rfl]
    have hf1:cO.dK H' 5 (.sl 11 (iy l' (fD u l' e l'.length)).length)=ct (iy l' (fD u l' e l'.length)):=by
     rw[dt (k:=4) p4 (by simp),dD _ ((cA _ _).2 fun _ _=>by simp[bz])]
    show AV.dY [cO.dK H' 5 (.sl 11 (iy l' (fD u l' e l'.length)).length),bl (fD u l' e l'.length).isSome,i64 0]=_
    rw[hf1]
  ·unfold qX
   rw[kg hr hm]
   refine cW ?_
   refine aJ (mN u hu hr most hm _ _ _ _) ?_
   rintro r H' n' ⟨rfl,hn,hk⟩
   refine cW ?_
   exact⟨rfl⟩
 ·unfold qX
  rw[nn hr]
  refine cW ?_
  refine aJ (qi u hu hr most _ _ _ _) ?_
  rintro r H' n' ⟨rfl,hn,hk⟩
  refine cW ?_
  exact⟨rfl⟩
end Go.Proofs.YtekfmjjmihomlaaGreat
end
section
/- The order of ends: what sorts them. -/
namespace Go.Proofs.YtekfmjjmihomlaaGreat
open Go Go.cO Go.Proofs
set_option linter.unusedSimpArgs false
set_option linter.unusedVariables false
theorem qu {x y z:Int} (h1:dy x y<0) (h2:dy y z<0):dy x z<0:=by
 unfold dy at *
 repeat' split at *
 all_goals omega
theorem L3 (a b c:Int):iN [a,b,c]<0↔a<0∨a=0∧(b<0∨b=0∧c<0):=by
 simp only[iN]
 repeat' split
 all_goals omega
theorem L1 (a b:Int):iN [a,b]<0↔a<0∨a=0∧b<0:=by
 simp only[iN]
 repeat' split
 all_goals omega
theorem EA {p q r:cU} (h1:eY p q<0) (h2:eY q r<0):eY p r<0:=by
 unfold eY at *
 rw[L1] at *
 simp only[iT] at *
 rcases h1 with h1|⟨e1,h1⟩<;>rcases h2 with h2|⟨e2,h2⟩
 ·exact .inl (qu h1 h2)
 ·rw[←e2];exact .inl h1
 ·rw[e1];exact .inl h2
 ·exact .inr ⟨e1.trans e2,qu h1 h2⟩
theorem qw {α:Type} {f:α→α→Int} (hz:∀x y,f x y=0↔x=y) (hf:∀x y z,f x y<0→f y z<0→f x z<0):∀a b c:List α,dh f a b<0→dh f b c<0→dh f a c<0
 |[],[],_,h1,_=>by simp[dh] at h1
 |[],_::_,[],_,h2=>by simp[dh] at h2
 |[],_::_,_::_,_,_=>by simp[dh]
 |_::_,[],_,h1,_=>by simp[dh] at h1
 |_::_,_::_,[],_,h2=>by simp[dh] at h2
 |x::a,y::b,z::c,h1,h2=>by
  rw[dh] at h1 h2 ⊢
  by_cases e1:f x y=0
  ·have:=(hz _ _).1 e1
   subst this
   rw[if_pos e1] at h1
   by_cases e2:f x z=0
   ·rw[if_pos e2] at h2 ⊢
    exact qw hz hf a b c h1 h2
   ·rw[if_neg e2] at h2 ⊢
    exact h2
  ·rw[if_neg e1] at h1
   by_cases e2:f y z=0
   ·have:=(hz _ _).1 e2
    subst this
    rw[if_neg e1]
    exact h1
   ·rw[if_neg e2] at h2
    have h3:=hf _ _ _ h1 h2
    rw[if_neg (by omega)]
    exact h3
theorem D4 {a b c:dI} (h1:eF a b<0) (h2:eF b c<0):eF a c<0:=by
 unfold eF at *
 rw[L3] at *
 simp only[iU (fun x y=>mR),iU (fun x y=>iT)] at *
 have tp:=qw (f:=eY) (fun x y=>mR) (fun x y z=>EA) a.bn b.bn c.bn
 have ti:=qw (f:=dy) (fun x y=>iT) (fun x y z=>qu) a.mem b.mem c.mem
 have tb:oE a.ended b.ended<0→oE b.ended c.ended<0→oE a.ended c.ended<0:=by
  cases a.ended<;>cases b.ended<;>cases c.ended<;>simp[oE]
 rcases h1 with h1|⟨e1,h1⟩<;>rcases h2 with h2|⟨e2,h2⟩
 ·exact .inl (tp h1 h2)
 ·rw[←e2];exact .inl h1
 ·rw[e1];exact .inl h2
 ·refine .inr ⟨e1.trans e2, ?_⟩
  rcases h1 with h1|⟨e1',h1⟩<;>rcases h2 with h2|⟨e2',h2⟩
  ·exact .inl (ti h1 h2)
  ·rw[←e2'];exact .inl h1
  ·rw[e1'];exact .inl h2
  ·exact .inr ⟨e1'.trans e2',tb h1 h2⟩
structure iO {α:Type} (f:α→α→Int):Prop where
 neg:∀x y,f y x=-f x y
 zero:∀x y,f x y=0↔x=y
 tr:∀x y z,f x y<0→f y z<0→f x z<0
theorem wa:iO eF:=⟨sR,fun _ _=>pc,fun _ _ _=>D4⟩
def uj {α:Type} (f:α→α→Int) (x y:α):Bool:=decide (f x y≤0)
theorem iO.KE {α:Type} {f:α→α→Int} (h:iO f) {x y z:α} (h1:uj f x y=true) (h2:uj f y z=true):uj f x z=true:=by
 simp only[uj,decide_eq_true_eq] at *
 by_cases e1:f x y=0
 ·rw[(h.zero _ _).1 e1];exact h2
 ·by_cases e2:f y z=0
  ·rw[←(h.zero _ _).1 e2];exact h1
  ·have:=h.tr x y z (by omega) (by omega);omega
theorem iO.le_total {α:Type} {f:α→α→Int} (h:iO f) (x y:α):(uj f x y||uj f y x)=true:=by
 have:=h.neg x y
 simp only[uj,Bool.or_eq_true,decide_eq_true_eq]
 omega
theorem iO.EO {α:Type} {f:α→α→Int} (h:iO f) {x y:α} (h1:uj f x y=true) (h2:uj f y x=true):x=y:=by
 have:=h.neg x y
 simp only[uj,decide_eq_true_eq] at *
 exact(h.zero _ _).1 (by omega)
def fV {α:Type} (f:α→α→Int) (l:List α):List α:=l.mergeSort (uj f)
theorem qU {α:Type} (f:α→α→Int) (l:List α):(fV f l).length=l.length:=by simp[fV]
theorem pB {α:Type} (f:α→α→Int) (l:List α):(fV f l).Perm l:=List.mergeSort_perm _ _
theorem iO.sorted {α:Type} {f:α→α→Int} (h:iO f) (l:List α):(fV f l).Pairwise fun x y=>uj f x y=true:=
 List.pairwise_mergeSort (le:=uj f) (fun a b c h1 h2=>h.KE h1 h2) (fun a b=>h.le_total a b) l
theorem iO.GH {α:Type} {f:α→α→Int} (h:iO f) {l l':List α} (hp:l'.Perm l) (hs:l'.Pairwise fun x y=>uj f x y=true):l'=fV f l:=
 List.Perm.eq_of_pairwise (fun a b _ _ h1 h2=>h.EO h1 h2) hs (h.sorted l) (hp.trans (pB f l).symm)
end Go.Proofs.YtekfmjjmihomlaaGreat
end
