import Derived.Test.YtekfmjjmihomlaaGreatM35
section
/- Way: what it does to its list; the way back. -/
namespace Go.Proofs.YtekfmjjmihomlaaGreat
open Go Go.cV Go.Proofs
set_option linter.unusedSimpArgs false
set_option linter.unusedVariables false
set_option maxRecDepth 8000
def kB (l:List Int) (i:Nat):List Int:=(List.range l.length).map fun q=>if q<i∨l.length≤q+i then l.getD (l.length - 1 - q) 0 else l.getD q 0
theorem gk (l:List Int) (i:Nat):(kB l i).length=l.length:=by simp[kB]
theorem ly {l:List Int} {i q:Nat} (h:q<l.length):(kB l i).getD q 0=if q<i∨l.length≤q+i then l.getD (l.length - 1 - q) 0 else l.getD q 0:=by simp[kB,List.getD,h]
theorem DD (l:List Int):kB l 0=l:=by
 apply List.ext_getElem (gk l 0)
 intro q h1 h2
 have:=ly (l:=l) (i:=0) h2
 rw[if_neg (by omega)] at this
 simpa[List.getD,h1,h2] using this
theorem IC {l:List Int} {i:Nat} (h:l.length≤2 * i+1):kB l i=l.reverse:=by
 apply List.ext_getElem (by simp[gk])
 intro q h1 h2
 have hq:q<l.length:=by simpa using h2
 have:=ly (l:=l) (i:=i) hq
 rw[show(kB l i).getD q 0=(kB l i)[q] by simp[List.getD,h1]] at this
 rw[this,List.getElem_reverse]
 split
 ·simp[List.getD,show l.length - 1 - q<l.length by omega]
 ·have:q=l.length - 1 - q:=by omega
  conv=>lhs;rw[this]
  simp[List.getD,show l.length - 1 - q<l.length by omega]
theorem DC {l:List Int} {i:Nat} (h:2 * i+1<l.length):((kB l i).set i (l.getD (l.length - 1 - i) 0)).set (l.length - 1 - i) (l.getD i 0)=kB l (i+1):=by
 apply List.ext_getElem (by simp[gk])
 intro q h1 h2
 have hq:q<l.length:=by simpa[gk] using h2
 have e1:=ly (l:=l) (i:=i) hq
 have e2:=ly (l:=l) (i:=i+1) hq
 rw[show(kB l (i+1)).getD q 0=(kB l (i+1))[q] by simp[List.getD,h2]] at e2
 rw[show(kB l i).getD q 0=(kB l i)[q]'(by rw[gk];exact hq) by simp[List.getD,gk,hq]] at e1
 rw[e2,List.getElem_set,List.getElem_set,e1]
 by_cases c1:l.length - 1 - i=q
 ·subst c1
  rw[if_pos rfl,if_pos (by omega),show l.length - 1 - (l.length - 1 - i)=i by omega]
 ·rw[if_neg c1]
  by_cases c2:i=q
  ·subst c2
   rw[if_pos rfl,if_pos (by omega)]
  ·rw[if_neg c2]
   by_cases c3:q<i∨l.length≤q+i
   ·rw[if_pos c3,if_pos (by omega)]
   ·rw[if_neg c3,if_neg (by omega)]
set_option maxHeartbeats 1000000 in
theorem uQ {b:Nat} {l:List Int} {H:Hp} {nx:Nat} (hb:b<nx) (hl:l.length≤1048576) (r:∃d,bd H b=some (.row 3 1 d (l.map i64))):
 cJ Tryz.prog 59 [.sl b l.length] H nx (fun _ H' n=>(∃d,bd H' b=some (.row 3 1 d (l.reverse.map i64)))∧nx≤n∧∀y,y<nx→y≠b→bd H' y=bd H y):=by
 obtain⟨d0,r0'⟩:=r
 refine aQ GO rfl ?_
 have a0:(l.map i64).length=l.length:=by simp
 refine cN ?_
 refine aP (fun σ:Nat×Int=>[(0, .sl b l.length),(2,i64 σ.1),(3,i64 σ.2)]) (fun σ H2 n=>σ.2=(l.length:Int) - 1 - σ.1∧2 * σ.1≤l.length+1∧nx≤n∧(∃d,bd H2 b=some (.row 3 1 d ((kB l σ.1).map i64)))∧∀y,y<nx→y≠b→bd H2 y=bd H y) (fun σ=>l.length - σ.1) (0,(l.length:Int) - 1) cC ⟨by simp,by dsimp only;omega,cU,⟨d0,by rw[DD];exact bf⟩,fun y h1 h2=>br⟩ ?_
 clear r0' a0
 rintro⟨i,j⟩ H2 n ⟨hj,hi,hn,⟨d,r1⟩,hk⟩
 dsimp only at hj hi r1 ⊢
 have a0:((kB l i).map i64).length=l.length:=by simp[gk]
 by_cases hc:2 * i+1<l.length
 ·obtain⟨jn,rfl⟩:∃jn:Nat,j=jn:=⟨j.toNat,by omega⟩
  have hjn:jn=l.length - 1 - i:=by omega
  have e0:=fun d=>eG (l:=kB l i) (k:=i) (by rw[gk];omega) d
  have e1:=fun d=>eG (l:=kB l i) (k:=jn) (by rw[gk];omega) d
  have e2:∀x d,(((kB l i).map i64).set ((i:Int)).toNat x).getD ((jn:Int)).toNat d=i64 ((kB l i).getD jn 0):=fun x d=>by
   rw[getD_set_ne (by omega)];exact e1 d
  have v0:=ly (l:=l) (i:=i) (q:=i) (by omega)
  rw[if_neg (by omega)] at v0
  have v1:=ly (l:=l) (i:=i) (q:=jn) (by omega)
  rw[if_neg (by omega)] at v1
  rw[v0] at e0
  rw[v1] at e1 e2
  have e3:=e2 (i64 (l.getD jn 0))
  clear e2
  have hnx:=DC hc
  rw[←hjn] at hnx
  refine cN ?_
  refine⟨(i+1,(jn:Int) - 1),by dsimp only;omega,cC,by dsimp only;omega,by dsimp only;omega,cU,⟨_,by dsimp only;rw[←hnx,List.map_set,List.map_set];exact bf⟩,fun y h1 h2=>Eq.trans br (hk y h1 h2)⟩
 ·refine cN ?_
  rw[IC (by omega)] at r1
  exact⟨⟨d,bf⟩,cU,fun y h1 h2=>Eq.trans br (hk y h1 h2)⟩
def iU (l:List cH):Nat→Nat→List Int
 |0,_=>[]
 |f+1,k=>if 0≤(l.getD k default).from_ then(l.getD k default).cS::iU l f (l.getD k default).from_.toNat else[]
theorem gR.pZ {u:bj} {l:List cH} (h:gR u l) {k:Nat} (hk:k<l.length) (h0:0≤(l.getD k default).from_):(l.getD k default).from_.toNat<k∧0<k:=by
 rcases Nat.eq_zero_or_pos k with e|e
 ·subst e;rw[h.first] at h0;exact absurd h0 (by simp)
 ·obtain⟨k',t,h1,_,_,h2⟩:=h.JH k e hk
  rw[h2]
  exact⟨by dsimp only;omega,e⟩
theorem qE {u:bj} {l:List cH} (h:gR u l):∀{f g k:Nat},k<l.length→k≤f→k≤g→iU l f k=iU l g k
 |0,0,k,hk,hf,hg=>rfl
 |0,g+1,k,hk,hf,hg=>by
  obtain rfl:k=0:=by omega
  rw[iU,iU,h.first];rfl
 |f+1,0,k,hk,hf,hg=>by
  obtain rfl:k=0:=by omega
  rw[iU,iU,h.first];rfl
 |f+1,g+1,k,hk,hf,hg=>by
  rw[iU,iU]
  split
  ·rename_i h0
   obtain⟨h1,h2⟩:=h.pZ hk h0
   rw[qE h (f:=f) (g:=g) (by omega) (by omega) (by omega)]
  ·rfl
abbrev kz (l:List cH) (k:Nat):List Int:=iU l k k
theorem ur {u:bj} {l:List cH} (h:gR u l) {k:Nat} (hk:k<l.length) (h0:0≤(l.getD k default).from_):kz l k=(l.getD k default).cS::kz l (l.getD k default).from_.toNat:=by
 obtain⟨h1,h2⟩:=h.pZ hk h0
 obtain⟨f,rfl⟩:∃f,k=f+1:=⟨k - 1,by omega⟩
 show iU l (f+1) (f+1)=_
 rw[iU,if_pos h0]
 congr 1
 exact qE h (by omega) (by omega) (Nat.le_refl _)
theorem sH {l:List cH} {k:Nat} (h0:¬0≤(l.getD k default).from_):kz l k=[]:=by
 show iU l k k=[]
 cases k with
 |zero=>rfl
 |succ f=>rw[iU,if_neg h0]
theorem oT (l:List cH):∀f k,(iU l f k).length≤f
 |0,k=>Nat.le_refl _
 |f+1,k=>by
  rw[iU]
  split
  ·rw[List.length_cons];have:=oT l f (l.getD k default).from_.toNat;omega
  ·simp
def fK (u:bj) (l:List cH) (e:dc) (k:Nat):Option Nat:=(List.range k).find? fun i=>(l.getD i default).m.stuck u&&decide (ep ((l.getD i default).m.end_ u) e=0)
theorem mb (u:bj) (l:List cH) (e:dc) (k:Nat):fK u l e (k+1)=match fK u l e k with
 |some i=>some i
 |none=>if(l.getD k default).m.stuck u&&decide (ep ((l.getD k default).m.end_ u) e=0) then some k else none:=by
 unfold fK
 rw[List.range_succ,List.find?_append]
 cases(List.range k).find? fun i=>(l.getD i default).m.stuck u&&decide (ep ((l.getD i default).m.end_ u) e=0) with
 |some i=>rfl
 |none=>
  simp only[Option.none_or,List.find?_cons,List.find?_nil]
  split<;>simp_all
theorem FP {u:bj} {l:List cH} {e:dc} {k i:Nat} (h:fK u l e k=some i):i<k:=by
 have:=List.mem_of_find?_eq_some h
 exact List.mem_range.1 this
def gB (l:List cH):Option Nat→List Int
 |none=>[]
 |some i=>(kz l i).reverse
set_option maxHeartbeats 2000000 in
theorem OB {u:bj} (hr:ct u) {l:List cH} (hf:gR u l) (hl:l.length≤65536) {e:dc} (he1:e.bk.length * 16≤140737488355328) (he2:e.mem.length * 8≤140737488355328) {k:Nat} (hk:k<l.length) {ub ib eb wb W:Nat} {H:Hp} {nx:Nat} (hn:ub<nx∧ib<nx∧eb<nx∧wb<nx∧W<nx) (hne:ub≠ib∧ub≠wb∧ub≠W∧ib≠eb∧ib≠wb∧ib≠W∧eb≠wb∧eb≠W∧wb≠W)
 (r0:∃d,bd H ub=some (.row 25 3 d [u.av])) (r1:∃d,bd H ib=some (.row 4 1 d [bl (fK u l e k).isSome])) (r2:∃d,bd H eb=some (.row 40 3 d [e.av])) (r3:∃d,bd H wb=some (.row 53 1 d [.sl W (gB l (fK u l e k)).length])) (r4:∃d,bd H W=some (.row 3 1 d ((gB l (fK u l e k)).map i64))):
 cJ Tryz.prog 58 [jJ u l,i64 k, .pt ub 1 0 0, .pt ib 1 0 0, .pt eb 1 0 0, .pt wb 1 0 0] H nx (fun _ H' n=>(∃d,bd H' ib=some (.row 4 1 d [bl (fK u l e (k+1)).isSome]))∧(∃d,bd H' wb=some (.row 53 1 d [.sl W (gB l (fK u l e (k+1))).length]))∧(∃d,bd H' W=some (.row 3 1 d ((gB l (fK u l e (k+1))).map i64)))∧nx≤n∧∀y,y<nx→y≠ib→y≠wb→y≠W→bd H' y=bd H y):=by
 obtain⟨d0,r0'⟩:=r0
 obtain⟨d1,r1'⟩:=r1
 obtain⟨d2,r2'⟩:=r2
 obtain⟨d3,r3'⟩:=r3
 obtain⟨d4,r4'⟩:=r4
 obtain⟨n0,n1,n2,n3,n4⟩:=hn
 obtain⟨m0,m1,m2,m3,m4,m5,m6,m7,m8⟩:=hne
 obtain⟨hm,hp⟩:=hf.ok k hk
 have e0:∀d,(l.map (cH.av u)).getD ((k:Int)).toNat d= .agg [(l.getD k default).m.fz u,i64 (l.getD k default).from_,i64 (l.getD k default).cS]:=fun d=>by rw[Int.toNat_natCast];exact cu (cH.av u) l k d hk
 have a0:(l.map (cH.av u)).length=l.length:=by simp
 have hgl:=hr.tv
 have hml:=hm.ml
 have c0:=tD u hr (l.getD k default).m hm (by omega) (by omega)
 have c1:=qz ((l.getD k default).m.end_ u) e (by show(l.getD k default).m.bk.length<_;omega) (by show(l.getD k default).m.mem.length<_;omega)
 rw[mb]
 cases hh:fK u l e k with
 |some i=>
  rw[hh] at r1' r3' r4'
  dsimp only
  generalize (l.getD k default).m=m at *
  cases hs:m.stuck u with
  |true=>
   rw[kX,hs] at c0
   refine aQ uF rfl ?_
   refine cN ?_
   exact⟨⟨_,bf⟩,⟨_,bf⟩,⟨_,bf⟩,cU,fun y y1 y2 y3 y4=>br⟩
  |false=>
   rw[kX,hs] at c0
   refine aQ uF rfl ?_
   refine cN ?_
   exact⟨⟨_,bf⟩,⟨_,bf⟩,⟨_,bf⟩,cU,fun y y1 y2 y3 y4=>br⟩
 |none=>
  rw[hh] at r1' r3' r4'
  dsimp only
  by_cases hs:(l.getD k default).m.stuck u=true
  ·rw[kX,hs] at c0
   by_cases hc:ep ((l.getD k default).m.end_ u) e=0
   ·rw[hs,decide_eq_true hc,if_pos (by rfl)]
    rw[decide_eq_true hc] at c1
    refine aQ uF rfl ?_
    refine cN ?_
    clear c0 c1 e0 r0' r2'
    have hway:gB l none=[]:=rfl
    rw[hway] at r3' r4'
    refine aP (fun σ:Nat×List Int=>[(0,jJ u l),(5, .pt wb 1 0 0),(10,i64 σ.1)])
     (fun σ H2 n=>σ.1<l.length∧σ.2++kz l σ.1=kz l k∧nx≤n∧(∃d,bd H2 ib=some (.row 4 1 d [bl true]))∧(∃d,bd H2 wb=some (.row 53 1 d [.sl W σ.2.length]))∧(∃d,bd H2 W=some (.row 3 1 d (σ.2.map i64)))∧∀y,y<nx→y≠ib→y≠wb→y≠W→bd H2 y=bd H y) (fun σ=>σ.1) (k,[]) cC
     ⟨hk,rfl,cU,⟨_,bf⟩,⟨_,bf⟩,⟨_,bf⟩,fun y y1 y2 y3 y4=>br⟩ ?_
    clear r1' r3' r4'
    rintro⟨at_,acc⟩ H2 n ⟨hat,hacc,hn2,⟨d1,r1'⟩,⟨d3,r3'⟩,⟨d4,r4'⟩,hkp⟩
    dsimp only at hat hacc r3' r4' ⊢
    have hbl:=oT l k k
    have hal:acc.length≤65536:=by
     have:=congrArg List.length hacc
     rw[List.length_append] at this
     have:(kz l k).length≤k:=hbl
     omega
    have a1:(acc.map i64).length=acc.length:=by simp
    have e0:∀d,(l.map (cH.av u)).getD ((at_:Int)).toNat d= .agg [(l.getD at_ default).m.fz u,i64 (l.getD at_ default).from_,i64 (l.getD at_ default).cS]:=fun d=>by rw[Int.toNat_natCast];exact cu (cH.av u) l at_ d hat
    by_cases h0:0≤(l.getD at_ default).from_
    ·obtain⟨hlt,hpos⟩:=hf.pZ hat h0
     have hon:=ur hf hat h0
     obtain⟨q,hq⟩:∃q:Nat,(l.getD at_ default).from_=q:=⟨_,(Int.toNat_of_nonneg h0).symm⟩
     rw[hq] at e0 hlt hon
     rw[Int.toNat_natCast] at hlt hon
     have hge:¬(q:Int)<0:=by omega
     refine cN ?_
     refine⟨(q,acc++[(l.getD at_ default).cS]),hlt,cC,by dsimp only;omega,by dsimp only;rw[List.append_assoc,List.singleton_append,←hon];exact hacc,cU,⟨_,bf⟩,⟨_,by dsimp only;rw[List.length_append];exact bf⟩,⟨_,by dsimp only;rw[List.map_append];exact bf⟩,fun y y1 y2 y3 y4=>Eq.trans br (hkp y y1 y2 y3 y4)⟩
    ·have hon:=sH h0
     rw[hon,List.append_nil] at hacc
     subst hacc
     refine cN ?_
     refine aL (uQ (b:=W) (l:=kz l k) ?_ (by omega) ?_) ?_
     ·exact cU
     ·exact⟨_,bf⟩
     rintro _ H3 n3 ⟨⟨d5,r5⟩,hn3,hk3⟩
     have q1:=hk3 ib cU (by omega)
     have q2:=hk3 wb cU (by omega)
     refine cN ?_
     exact⟨⟨d1,q1.trans bf⟩,⟨d3,by simp only[gB,List.length_reverse];exact q2.trans bf⟩,⟨d5,bf⟩,cU,fun y y1 y2 y3 y4=>(hk3 y cU y4).trans (Eq.trans br (hkp y y1 y2 y3 y4))⟩
   ·rw[hs,decide_eq_false hc,if_neg (by decide)]
    rw[decide_eq_false hc] at c1
    refine aQ uF rfl ?_
    refine cN ?_
    exact⟨⟨_,bf⟩,⟨_,bf⟩,⟨_,bf⟩,cU,fun y y1 y2 y3 y4=>br⟩
  ·have hs2:(l.getD k default).m.stuck u=false:=by simpa using hs
   rw[kX,hs2] at c0
   rw[hs2,Bool.false_and,if_neg (by decide)]
   refine aQ uF rfl ?_
   refine cN ?_
   exact⟨⟨_,bf⟩,⟨_,bf⟩,⟨_,bf⟩,cU,fun y y1 y2 y3 y4=>br⟩
end Go.Proofs.YtekfmjjmihomlaaGreat
end
section
/- Way: the walk. -/
namespace Go.Proofs.YtekfmjjmihomlaaGreat
open Go Go.cV Go.Proofs
set_option linter.unusedSimpArgs false
set_option linter.unusedVariables false
set_option maxRecDepth 8000
theorem OW {te e:TypeId} {sz b nx:Nat} {H:Hp} {d:AV} (hb:b<nx) (hsz:0<sz) (h:bd H b=some (.row te 1 d [.sc (.slice none 0 0)])):∃H2,Wk .any H nx .any H2 (nx+1)∧bd H2 b=some (.row te 1 .any [.sl nx 0])∧bd H2 nx=some (.row e sz .any [])∧∀y,y<nx→y≠b→bd H2 y=bd H y:=by
 refine⟨lC te e sz b 1 nx H,Wk.born hb hsz h, ?_, ?_,fun y y1 y2=>EL y1 y2⟩
 ·rw[lC,cI,tG];rfl
 ·rw[lC,bz (by omega),jt,if_pos (by omega)]
noncomputable def rQ (u:bj) (most:Int) (e:dc):AV:=
 if(eo u most).1=0 then .dH [cW (gB (eo u most).2 (fK u (eo u most).2 e (eo u most).2.length)),bl (fK u (eo u most).2 e (eo u most).2.length).isSome,i64 0] else .dH [.sc (.slice none 0 0),bl false,i64 (eo u most).1]
theorem MA {P:Program} {f:FuncId} {args:List AV} {te:TypeId} (e:TypeId) (sz:Nat) {b nx:Nat} {H:Hp} {d:AV} {R:AV→Hp→Nat→Prop} (hb:b<nx) (hsz:0<sz) (h:bd H b=some (.row te 1 d [.sc (.slice none 0 0)]))
 (k:∀H2,bd H2 b=some (.row te 1 .any [.sl nx 0])→bd H2 nx=some (.row e sz .any [])→(∀y,y<nx→y≠b→bd H2 y=bd H y)→cJ P f args H2 (nx+1) R):cJ P f args H nx R:=by
 obtain⟨H2,hw,q1,q2,q3⟩:=OW hb hsz h
 exact cJ.IU (k H2 q1 q2 q3) (hw.same _)
def BG (u:bj) (most:Int) (I:Nat→Hp→Prop) (r:AV) (H:Hp):Prop:=
 match fp u most.toNat with
 |none=>r= .dH [i64 0,i64 3]
 |some l=>r= .dH [i64 l.length,i64 0]∧I l.length H
theorem I5.short {u:bj} {most:Int} {I:Nat→Hp→Prop} {nx:Nat} {H0:Hp} {r:AV} {H:Hp} {n:Nat} (h:I5 u most I nx H0 r H n):BG u most I r H:=by
 obtain⟨_,h⟩:=h
 unfold BG
 revert h
 cases fp u most.toNat with
 |none=>exact fun h=>h.1
 |some l=>exact id
set_option maxHeartbeats 2000000 in
theorem x9 (u:bj) (hu:u.Wf) (most:Int) (e:dc) (he1:e.bk.length * 16≤140737488355328) (he2:e.mem.length * 8≤140737488355328):Pure Tryz.prog 25 [u.av,i64 most,e.av] (fun r=>r=rQ u most e):=by
 refine dP ?_ (by unfold rQ;split<;>simp[bw,cP,bu])
 refine aQ F3 rfl ?_
 have hnil:cW []= .im 1 .any []:=rfl
 by_cases hr:ct u
 ·by_cases hm:1≤most∧most≤65536
  ·unfold rQ
   rw[iX hr hm]
   refine cN ?_
   let l:=(fp u most.toNat).getD []
   let I:Nat→Hp→Prop:=fun k H=>(∃d,bd H 0=some (.row 25 3 d [u.av]))∧(∃d,bd H 6=some (.row 4 1 d [bl (fK u l e k).isSome]))∧(∃d,bd H 1=some (.row 40 3 d [e.av]))∧(∃d,bd H 5=some (.row 53 1 d [.sl 11 (gB l (fK u l e k)).length]))∧(∃d,bd H 11=some (.row 3 1 d ((gB l (fK u l e k)).map i64)))
   refine aL (R:=fun r H n=>12≤n∧BG u most I r H) (MA (b:=5) 3 1 (by omega) (by omega) (d:=fU false [.slice none 0 0]) (te:=53) ?_ fun H2 q1 q2 q3=> ?_) ?_
   ·exact bf
   ·refine(nN u hu hr most hm _ [.pt 0 1 0 0, .pt 6 1 0 0, .pt 1 1 0 0, .pt 5 1 0 0] H2 12 I ?_ ?_ ?_).mono fun r H n h=>⟨h.1,h.short⟩
    ·exact⟨⟨_,(q3 0 (by omega) (by omega)).trans bf⟩,⟨_,(q3 6 (by omega) (by omega)).trans bf⟩,⟨_,(q3 1 (by omega) (by omega)).trans bf⟩,⟨_,q1⟩,⟨_,q2⟩⟩
    ·rintro k H H' ⟨⟨d0,p0⟩,⟨d1,p1⟩,⟨d2,p2⟩,⟨d3,p3⟩,⟨d4,p4⟩⟩ hk
     exact⟨⟨d0,(hk 0 (by omega)).trans p0⟩,⟨d1,(hk 6 (by omega)).trans p1⟩,⟨d2,(hk 1 (by omega)).trans p2⟩,⟨d3,(hk 5 (by omega)).trans p3⟩,⟨d4,(hk 11 (by omega)).trans p4⟩⟩
    ·intro l' hl' k H n hk hn ⟨p0,p1,p2,p3,p4⟩
     have hll:l=l':=by show(fp u most.toNat).getD []=l';rw[hl'];rfl
     rw[hll] at p1 p3 p4
     obtain⟨hf,hlm,_⟩:=nM hu hr (by omega) hl'
     refine(OB hr hf (by omega) he1 he2 hk (ub:=0) (ib:=6) (eb:=1) (wb:=5) (W:=11) ⟨by omega,by omega,by omega,by omega,by omega⟩ ⟨by omega,by omega,by omega,by omega,by omega,by omega,by omega,by omega,by omega⟩ p0 p1 p2 p3 p4).mono ?_
     rintro _ H' n' ⟨s1,s2,s3,s4,s5⟩
     obtain⟨d0,p0⟩:=p0
     obtain⟨d2,p2⟩:=p2
     refine⟨⟨⟨d0,(s5 0 (by omega) (by omega) (by omega) (by omega)).trans p0⟩, ?_,⟨d2,(s5 1 (by omega) (by omega) (by omega) (by omega)).trans p2⟩, ?_, ?_⟩,s4,fun y y1 y2=>s5 y y2 (by omega) (by omega) (by omega)⟩
     ·rw[hll];exact s1
     ·rw[hll];exact s2
     ·rw[hll];exact s3
   rintro r H' n' ⟨hn,hA⟩
   revert hA
   unfold BG
   cases hs:fp u most.toNat with
   |none=>
    rintro rfl
    refine cN ?_
    exact⟨rfl⟩
   |some l'=>
    rintro⟨rfl,⟨d0,p0⟩,⟨d1,p1⟩,⟨d2,p2⟩,⟨d3,p3⟩,⟨d4,p4⟩⟩
    have hll:l=l':=by show(fp u most.toNat).getD []=l';rw[hs];rfl
    rw[hll] at p1 p3 p4
    refine cN ?_
    refine⟨?_⟩
    dsimp only
    rw[if_pos rfl]
    have hf1:cV.dR H' 5 (.sl 11 (gB l' (fK u l' e l'.length)).length)=cW (gB l' (fK u l' e l'.length)):=by
     rw[dG (k:=4) p4 (by simp),cc _ ((bu _ _).2 fun _ _=>by simp[bw])]
    show AV.dH [cV.dR H' 5 (.sl 11 (gB l' (fK u l' e l'.length)).length),bl (fK u l' e l'.length).isSome,i64 0]=_
    rw[hf1]
  ·unfold rQ
   rw[iA hr hm]
   refine cN ?_
   refine aL (l3 u hu hr most hm _ _ _ _) ?_
   rintro r H' n' ⟨rfl,hn,hk⟩
   refine cN ?_
   exact⟨rfl⟩
 ·unfold rQ
  rw[jm hr]
  refine cN ?_
  refine aL (pS u hu hr most _ _ _ _) ?_
  rintro r H' n' ⟨rfl,hn,hk⟩
  refine cN ?_
  exact⟨rfl⟩
end Go.Proofs.YtekfmjjmihomlaaGreat
end
section
/- The order of ends: what sorts them. -/
namespace Go.Proofs.YtekfmjjmihomlaaGreat
open Go Go.cV Go.Proofs
set_option linter.unusedSimpArgs false
set_option linter.unusedVariables false
theorem tk {x y z:Int} (h1:er x y<0) (h2:er y z<0):er x z<0:=by
 unfold er at *
 repeat' split at *
 all_goals omega
theorem Q1 (a b c:Int):kW [a,b,c]<0↔a<0∨a=0∧(b<0∨b=0∧c<0):=by
 simp only[kW]
 repeat' split
 all_goals omega
theorem Q0 (a b:Int):kW [a,b]<0↔a<0∨a=0∧b<0:=by
 simp only[kW]
 repeat' split
 all_goals omega
theorem JP {p q r:cM} (h1:fi p q<0) (h2:fi q r<0):fi p r<0:=by
 unfold fi at *
 rw[Q0] at *
 simp only[jo] at *
 rcases h1 with h1|⟨e1,h1⟩<;>rcases h2 with h2|⟨e2,h2⟩
 ·exact .inl (tk h1 h2)
 ·rw[←e2];exact .inl h1
 ·rw[e1];exact .inl h2
 ·exact .inr ⟨e1.trans e2,tk h1 h2⟩
theorem tm {α:Type} {f:α→α→Int} (hz:∀x y,f x y=0↔x=y) (hf:∀x y z,f x y<0→f y z<0→f x z<0):∀a b c:List α,e8 f a b<0→e8 f b c<0→e8 f a c<0
 |[],[],_,h1,_=>by simp[e8] at h1
 |[],_::_,[],_,h2=>by simp[e8] at h2
 |[],_::_,_::_,_,_=>by simp[e8]
 |_::_,[],_,h1,_=>by simp[e8] at h1
 |_::_,_::_,[],_,h2=>by simp[e8] at h2
 |x::a,y::b,z::c,h1,h2=>by
  rw[e8] at h1 h2 ⊢
  by_cases e1:f x y=0
  ·have:=(hz _ _).1 e1
   subst this
   rw[if_pos e1] at h1
   by_cases e2:f x z=0
   ·rw[if_pos e2] at h2 ⊢
    exact tm hz hf a b c h1 h2
   ·rw[if_neg e2] at h2 ⊢
    exact h2
  ·rw[if_neg e1] at h1
   by_cases e2:f y z=0
   ·have:=(hz _ _).1 e2
    subst this
    rw[if_neg e1]
    exact h1
   ·rw[if_neg e2] at h2
    have h3:=hf _ _ _ h1 h2
    rw[if_neg (by omega)]
    exact h3
theorem JK {a b c:dc} (h1:ep a b<0) (h2:ep b c<0):ep a c<0:=by
 unfold ep at *
 rw[Q1] at *
 simp only[jq (fun x y=>oU),jq (fun x y=>jo)] at *
 have tp:=tm (f:=fi) (fun x y=>oU) (fun x y z=>JP) a.bk b.bk c.bk
 have ti:=tm (f:=er) (fun x y=>jo) (fun x y z=>tk) a.mem b.mem c.mem
 have tb:rb a.ended b.ended<0→rb b.ended c.ended<0→rb a.ended c.ended<0:=by
  cases a.ended<;>cases b.ended<;>cases c.ended<;>simp[rb]
 rcases h1 with h1|⟨e1,h1⟩<;>rcases h2 with h2|⟨e2,h2⟩
 ·exact .inl (tp h1 h2)
 ·rw[←e2];exact .inl h1
 ·rw[e1];exact .inl h2
 ·refine .inr ⟨e1.trans e2, ?_⟩
  rcases h1 with h1|⟨e1',h1⟩<;>rcases h2 with h2|⟨e2',h2⟩
  ·exact .inl (ti h1 h2)
  ·rw[←e2'];exact .inl h1
  ·rw[e1'];exact .inl h2
  ·exact .inr ⟨e1'.trans e2',tb h1 h2⟩
structure jg {α:Type} (f:α→α→Int):Prop where
 neg:∀x y,f y x=-f x y
 zero:∀x y,f x y=0↔x=y
 tr:∀x y z,f x y<0→f y z<0→f x z<0
theorem JJ:jg ep:=⟨EO,fun _ _=>sM,fun _ _ _=>JK⟩
def xh {α:Type} (f:α→α→Int) (x y:α):Bool:=decide (f x y≤0)
theorem jg.PI {α:Type} {f:α→α→Int} (h:jg f) {x y z:α} (h1:xh f x y=true) (h2:xh f y z=true):xh f x z=true:=by
 simp only[xh,decide_eq_true_eq] at *
 by_cases e1:f x y=0
 ·rw[(h.zero _ _).1 e1];exact h2
 ·by_cases e2:f y z=0
  ·rw[←(h.zero _ _).1 e2];exact h1
  ·have:=h.tr x y z (by omega) (by omega);omega
theorem jg.le_total {α:Type} {f:α→α→Int} (h:jg f) (x y:α):(xh f x y||xh f y x)=true:=by
 have:=h.neg x y
 simp only[xh,Bool.or_eq_true,decide_eq_true_eq]
 omega
theorem jg.KA {α:Type} {f:α→α→Int} (h:jg f) {x y:α} (h1:xh f x y=true) (h2:xh f y x=true):x=y:=by
 have:=h.neg x y
 simp only[xh,decide_eq_true_eq] at *
 exact(h.zero _ _).1 (by omega)
def gx {α:Type} (f:α→α→Int) (l:List α):List α:=l.mergeSort (xh f)
theorem tI {α:Type} (f:α→α→Int) (l:List α):(gx f l).length=l.length:=by simp[gx]
theorem rD {α:Type} (f:α→α→Int) (l:List α):(gx f l).Perm l:=List.mergeSort_perm _ _
theorem jg.sorted {α:Type} {f:α→α→Int} (h:jg f) (l:List α):(gx f l).Pairwise fun x y=>xh f x y=true:=
 List.pairwise_mergeSort (le:=xh f) (fun a b c h1 h2=>h.PI h1 h2) (fun a b=>h.le_total a b) l
theorem jg.LD {α:Type} {f:α→α→Int} (h:jg f) {l l':List α} (hp:l'.Perm l) (hs:l'.Pairwise fun x y=>xh f x y=true):l'=gx f l:=
 List.Perm.eq_of_pairwise (fun a b _ _ h1 h2=>h.KA h1 h2) hs (h.sorted l) (hp.trans (rD f l).symm)
end Go.Proofs.YtekfmjjmihomlaaGreat
end
