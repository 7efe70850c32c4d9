import Derived.Test.YtekfmjjmihomlaaGreatM35
section
/- Way: what it does to its list; the way back. -/
namespace Go.Proofs.YtekfmjjmihomlaaGreat
open Go Go.cQ Go.Proofs
set_option linter.unusedSimpArgs false
set_option linter.unusedVariables false
set_option maxRecDepth 8000
def jG (l:List Int) (i:Nat):List Int:=(List.range l.length).map fun q=>if q<i∨l.length≤q+i then l.getD (l.length - 1 - q) 0 else l.getD q 0
theorem fY (l:List Int) (i:Nat):(jG l i).length=l.length:=by simp[jG]
theorem kZ {l:List Int} {i q:Nat} (h:q<l.length):(jG l i).getD q 0=if q<i∨l.length≤q+i then l.getD (l.length - 1 - q) 0 else l.getD q 0:=by simp[jG,List.getD,h]
theorem AL (l:List Int):jG l 0=l:=by
 apply List.ext_getElem (fY l 0)
 intro q h1 h2
 have:=kZ (l:=l) (i:=0) h2
 rw[if_neg (by omega)] at this
 simpa[List.getD,h1,h2] using this
theorem EH {l:List Int} {i:Nat} (h:l.length≤2 * i+1):jG l i=l.reverse:=by
 apply List.ext_getElem (by simp[fY])
 intro q h1 h2
 have hq:q<l.length:=by simpa using h2
 have:=kZ (l:=l) (i:=i) hq
 rw[show(jG l i).getD q 0=(jG l i)[q] by simp[List.getD,h1]] at this
 rw[this,List.getElem_reverse]
 split
 ·simp[List.getD,show l.length - 1 - q<l.length by omega]
 ·have:q=l.length - 1 - q:=by omega
  conv=>lhs;rw[this]
  simp[List.getD,show l.length - 1 - q<l.length by omega]
theorem AK {l:List Int} {i:Nat} (h:2 * i+1<l.length):((jG l i).set i (l.getD (l.length - 1 - i) 0)).set (l.length - 1 - i) (l.getD i 0)=jG l (i+1):=by
 apply List.ext_getElem (by simp[fY])
 intro q h1 h2
 have hq:q<l.length:=by simpa[fY] using h2
 have e1:=kZ (l:=l) (i:=i) hq
 have e2:=kZ (l:=l) (i:=i+1) hq
 rw[show(jG l (i+1)).getD q 0=(jG l (i+1))[q] by simp[List.getD,h2]] at e2
 rw[show(jG l i).getD q 0=(jG l i)[q]'(by rw[fY];exact hq) by simp[List.getD,fY,hq]] at e1
 rw[e2,List.getElem_set,List.getElem_set,e1]
 by_cases c1:l.length - 1 - i=q
 ·subst c1
  rw[if_pos rfl,if_pos (by omega),show l.length - 1 - (l.length - 1 - i)=i by omega]
 ·rw[if_neg c1]
  by_cases c2:i=q
  ·subst c2
   rw[if_pos rfl,if_pos (by omega)]
  ·rw[if_neg c2]
   by_cases c3:q<i∨l.length≤q+i
   ·rw[if_pos c3,if_pos (by omega)]
   ·rw[if_neg c3,if_neg (by omega)]
set_option maxHeartbeats 1000000 in
theorem sQ {b:Nat} {l:List Int} {H:Hp} {nx:Nat} (hb:b<nx) (hl:l.length≤1048576) (r:∃d,bd H b=some (.row 3 1 d (l.map i64))):
 cD Tryz.prog 59 [.sl b l.length] H nx (fun _ H' n=>(∃d,bd H' b=some (.row 3 1 d (l.reverse.map i64)))∧nx≤n∧∀y,y<nx→y≠b→bd H' y=bd H y):=by
 obtain⟨d0,r0'⟩:=r
 refine aP DI rfl ?_
 have a0:(l.map i64).length=l.length:=by simp
 refine cM ?_
 refine aR (fun σ:Nat×Int=>[(0, .sl b l.length),(2,i64 σ.1),(3,i64 σ.2)]) (fun σ H2 n=>σ.2=(l.length:Int) - 1 - σ.1∧2 * σ.1≤l.length+1∧nx≤n∧(∃d,bd H2 b=some (.row 3 1 d ((jG l σ.1).map i64)))∧∀y,y<nx→y≠b→bd H2 y=bd H y) (fun σ=>l.length - σ.1) (0,(l.length:Int) - 1) cK ⟨by simp,by dsimp only;omega,cY,⟨d0,by rw[AL];exact bg⟩,fun y h1 h2=>bq⟩ ?_
 clear r0' a0
 rintro⟨i,j⟩ H2 n ⟨hj,hi,hn,⟨d,r1⟩,hk⟩
 dsimp only at hj hi r1 ⊢
 have a0:((jG l i).map i64).length=l.length:=by simp[fY]
 by_cases hc:2 * i+1<l.length
 ·obtain⟨jn,rfl⟩:∃jn:Nat,j=jn:=⟨j.toNat,by omega⟩
  have hjn:jn=l.length - 1 - i:=by omega
  have e0:=fun d=>ed (l:=jG l i) (k:=i) (by rw[fY];omega) d
  have e1:=fun d=>ed (l:=jG l i) (k:=jn) (by rw[fY];omega) d
  have e2:∀x d,(((jG l i).map i64).set ((i:Int)).toNat x).getD ((jn:Int)).toNat d=i64 ((jG l i).getD jn 0):=fun x d=>by
   rw[getD_set_ne (by omega)];exact e1 d
  have v0:=kZ (l:=l) (i:=i) (q:=i) (by omega)
  rw[if_neg (by omega)] at v0
  have v1:=kZ (l:=l) (i:=i) (q:=jn) (by omega)
  rw[if_neg (by omega)] at v1
  rw[v0] at e0
  rw[v1] at e1 e2
  have e3:=e2 (i64 (l.getD jn 0))
  clear e2
  have hnx:=AK hc
  rw[←hjn] at hnx
  refine cM ?_
  refine⟨(i+1,(jn:Int) - 1),by dsimp only;omega,cK,by dsimp only;omega,by dsimp only;omega,cY,⟨_,by dsimp only;rw[←hnx,List.map_set,List.map_set];exact bg⟩,fun y h1 h2=>Eq.trans bq (hk y h1 h2)⟩
 ·refine cM ?_
  rw[EH (by omega)] at r1
  exact⟨⟨d,bg⟩,cY,fun y h1 h2=>Eq.trans bq (hk y h1 h2)⟩
def gI (l:List bx):Nat→Nat→List Int
 |0,_=>[]
 |f+1,k=>if 0≤(l.getD k default).from_ then(l.getD k default).cL::gI l f (l.getD k default).from_.toNat else[]
theorem fj.rn {u:bf} {l:List bx} (h:fj u l) {k:Nat} (hk:k<l.length) (h0:0≤(l.getD k default).from_):(l.getD k default).from_.toNat<k∧0<k:=by
 rcases Nat.eq_zero_or_pos k with e|e
 ·subst e;rw[h.first] at h0;exact absurd h0 (by simp)
 ·obtain⟨k',t,h1,_,_,h2⟩:=h.FK k e hk
  rw[h2]
  exact⟨by dsimp only;omega,e⟩
theorem oT {u:bf} {l:List bx} (h:fj u l):∀{f g k:Nat},k<l.length→k≤f→k≤g→gI l f k=gI l g k
 |0,0,k,hk,hf,hg=>rfl
 |0,g+1,k,hk,hf,hg=>by
  obtain rfl:k=0:=by omega
  rw[gI,gI,h.first];rfl
 |f+1,0,k,hk,hf,hg=>by
  obtain rfl:k=0:=by omega
  rw[gI,gI,h.first];rfl
 |f+1,g+1,k,hk,hf,hg=>by
  rw[gI,gI]
  split
  ·rename_i h0
   obtain⟨h1,h2⟩:=h.rn hk h0
   rw[oT h (f:=f) (g:=g) (by omega) (by omega) (by omega)]
  ·rfl
abbrev nP (l:List bx) (k:Nat):List Int:=gI l k k
theorem BL {u:bf} {l:List bx} (h:fj u l) {k:Nat} (hk:k<l.length) (h0:0≤(l.getD k default).from_):nP l k=(l.getD k default).cL::nP l (l.getD k default).from_.toNat:=by
 obtain⟨h1,h2⟩:=h.rn hk h0
 obtain⟨f,rfl⟩:∃f,k=f+1:=⟨k - 1,by omega⟩
 show gI l (f+1) (f+1)=_
 rw[gI,if_pos h0]
 congr 1
 exact oT h (by omega) (by omega) (Nat.le_refl _)
theorem zB {l:List bx} {k:Nat} (h0:¬0≤(l.getD k default).from_):nP l k=[]:=by
 show gI l k k=[]
 cases k with
 |zero=>rfl
 |succ f=>rw[gI,if_neg h0]
theorem qI (l:List bx):∀f k,(gI l f k).length≤f
 |0,k=>Nat.le_refl _
 |f+1,k=>by
  rw[gI]
  split
  ·rw[List.length_cons];have:=qI l f (l.getD k default).from_.toNat;omega
  ·simp
def fK (u:bf) (l:List bx) (e:dG) (k:Nat):Option Nat:=(List.range k).find? fun i=>(l.getD i default).m.stuck u&&decide (eC ((l.getD i default).m.end_ u) e=0)
theorem wT (u:bf) (l:List bx) (e:dG) (k:Nat):fK u l e (k+1)=match fK u l e k with
 |some i=>some i
 |none=>if(l.getD k default).m.stuck u&&decide (eC ((l.getD k default).m.end_ u) e=0) then some k else none:=by
 unfold fK
 rw[List.range_succ,List.find?_append]
 cases(List.range k).find? fun i=>(l.getD i default).m.stuck u&&decide (eC ((l.getD i default).m.end_ u) e=0) with
 |some i=>rfl
 |none=>
  simp only[Option.none_or,List.find?_cons,List.find?_nil]
  split<;>simp_all
def jJ (l:List bx):Option Nat→List Int
 |none=>[]
 |some i=>(nP l i).reverse
set_option maxHeartbeats 2000000 in
theorem KO {u:bf} (hr:ca u) {l:List bx} (hf:fj u l) (hl:l.length≤65536) {e:dG} (he1:e.bn.length * 16≤140737488355328) (he2:e.mem.length * 8≤140737488355328) {k:Nat} (hk:k<l.length) {ub ib eb wb W:Nat} {H:Hp} {nx:Nat} (hn:ub<nx∧ib<nx∧eb<nx∧wb<nx∧W<nx) (hne:ub≠ib∧ub≠wb∧ub≠W∧ib≠eb∧ib≠wb∧ib≠W∧eb≠wb∧eb≠W∧wb≠W)
 (r0:∃d,bd H ub=some (.row 25 3 d [u.av])) (r1:∃d,bd H ib=some (.row 4 1 d [bl (fK u l e k).isSome])) (r2:∃d,bd H eb=some (.row 40 3 d [e.av])) (r3:∃d,bd H wb=some (.row 53 1 d [.sl W (jJ l (fK u l e k)).length])) (r4:∃d,bd H W=some (.row 3 1 d ((jJ l (fK u l e k)).map i64))):
 cD Tryz.prog 58 [gq u l,i64 k, .pt ub 1 0 0, .pt ib 1 0 0, .pt eb 1 0 0, .pt wb 1 0 0] H nx (fun _ H' n=>(∃d,bd H' ib=some (.row 4 1 d [bl (fK u l e (k+1)).isSome]))∧(∃d,bd H' wb=some (.row 53 1 d [.sl W (jJ l (fK u l e (k+1))).length]))∧(∃d,bd H' W=some (.row 3 1 d ((jJ l (fK u l e (k+1))).map i64)))∧nx≤n∧∀y,y<nx→y≠ib→y≠wb→y≠W→bd H' y=bd H y):=by
 obtain⟨d0,r0'⟩:=r0
 obtain⟨d1,r1'⟩:=r1
 obtain⟨d2,r2'⟩:=r2
 obtain⟨d3,r3'⟩:=r3
 obtain⟨d4,r4'⟩:=r4
 obtain⟨n0,n1,n2,n3,n4⟩:=hn
 obtain⟨m0,m1,m2,m3,m4,m5,m6,m7,m8⟩:=hne
 obtain⟨hm,hp⟩:=hf.ok k hk
 have e0:∀d,(l.map (bx.av u)).getD ((k:Int)).toNat d= .agg [(l.getD k default).m.fz u,i64 (l.getD k default).from_,i64 (l.getD k default).cL]:=fun d=>by rw[Int.toNat_natCast];exact dJ (bx.av u) l k d hk
 have a0:(l.map (bx.av u)).length=l.length:=by simp
 have hgl:=hr.A2
 have hml:=hm.ml
 have c0:=qm u hr (l.getD k default).m hm (by omega) (by omega)
 have c1:=pR ((l.getD k default).m.end_ u) e (by show(l.getD k default).m.bn.length<_;omega) (by show(l.getD k default).m.mem.length<_;omega)
 rw[wT]
 cases hh:fK u l e k with
 |some i=>
  rw[hh] at r1' r3' r4'
  dsimp only
  generalize (l.getD k default).m=m at *
  cases hs:m.stuck u with
  |true=>
   rw[j1,hs] at c0
   refine aP sF rfl ?_
   refine cM ?_
   exact⟨⟨_,bg⟩,⟨_,bg⟩,⟨_,bg⟩,cY,fun y y1 y2 y3 y4=>bq⟩
  |false=>
   rw[j1,hs] at c0
   refine aP sF rfl ?_
   refine cM ?_
   exact⟨⟨_,bg⟩,⟨_,bg⟩,⟨_,bg⟩,cY,fun y y1 y2 y3 y4=>bq⟩
 |none=>
  rw[hh] at r1' r3' r4'
  dsimp only
  by_cases hs:(l.getD k default).m.stuck u=true
  ·rw[j1,hs] at c0
   by_cases hc:eC ((l.getD k default).m.end_ u) e=0
   ·rw[hs,decide_eq_true hc,if_pos (by rfl)]
    rw[decide_eq_true hc] at c1
    refine aP sF rfl ?_
    refine cM ?_
    clear c0 c1 e0 r0' r2'
    have hway:jJ l none=[]:=rfl
    rw[hway] at r3' r4'
    refine aR (fun σ:Nat×List Int=>[(0,gq u l),(5, .pt wb 1 0 0),(10,i64 σ.1)])
     (fun σ H2 n=>σ.1<l.length∧σ.2++nP l σ.1=nP l k∧nx≤n∧(∃d,bd H2 ib=some (.row 4 1 d [bl true]))∧(∃d,bd H2 wb=some (.row 53 1 d [.sl W σ.2.length]))∧(∃d,bd H2 W=some (.row 3 1 d (σ.2.map i64)))∧∀y,y<nx→y≠ib→y≠wb→y≠W→bd H2 y=bd H y) (fun σ=>σ.1) (k,[]) cK
     ⟨hk,rfl,cY,⟨_,bg⟩,⟨_,bg⟩,⟨_,bg⟩,fun y y1 y2 y3 y4=>bq⟩ ?_
    clear r1' r3' r4'
    rintro⟨at_,acc⟩ H2 n ⟨hat,hacc,hn2,⟨d1,r1'⟩,⟨d3,r3'⟩,⟨d4,r4'⟩,hkp⟩
    dsimp only at hat hacc r3' r4' ⊢
    have hbl:=qI l k k
    have hal:acc.length≤65536:=by
     have:=congrArg List.length hacc
     rw[List.length_append] at this
     have:(nP l k).length≤k:=hbl
     omega
    have a1:(acc.map i64).length=acc.length:=by simp
    have e0:∀d,(l.map (bx.av u)).getD ((at_:Int)).toNat d= .agg [(l.getD at_ default).m.fz u,i64 (l.getD at_ default).from_,i64 (l.getD at_ default).cL]:=fun d=>by rw[Int.toNat_natCast];exact dJ (bx.av u) l at_ d hat
    by_cases h0:0≤(l.getD at_ default).from_
    ·obtain⟨hlt,hpos⟩:=hf.rn hat h0
     have hon:=BL hf hat h0
     obtain⟨q,hq⟩:∃q:Nat,(l.getD at_ default).from_=q:=⟨_,(Int.toNat_of_nonneg h0).symm⟩
     rw[hq] at e0 hlt hon
     rw[Int.toNat_natCast] at hlt hon
     have hge:¬(q:Int)<0:=by omega
     refine cM ?_
     refine⟨(q,acc++[(l.getD at_ default).cL]),hlt,cK,by dsimp only;omega,by dsimp only;rw[List.append_assoc,List.singleton_append,←hon];exact hacc,cY,⟨_,bg⟩,⟨_,by dsimp only;rw[List.length_append];exact bg⟩,⟨_,by dsimp only;rw[List.map_append];exact bg⟩,fun y y1 y2 y3 y4=>Eq.trans bq (hkp y y1 y2 y3 y4)⟩
    ·have hon:=zB h0
     rw[hon,List.append_nil] at hacc
     subst hacc
     refine cM ?_
     refine aJ (sQ (b:=W) (l:=nP l k) ?_ (by omega) ?_) ?_
     ·exact cY
     ·exact⟨_,bg⟩
     rintro _ H3 n3 ⟨⟨d5,r5⟩,hn3,hk3⟩
     have q1:=hk3 ib cY (by omega)
     have q2:=hk3 wb cY (by omega)
     refine cM ?_
     exact⟨⟨d1,q1.trans bg⟩,⟨d3,by simp only[jJ,List.length_reverse];exact q2.trans bg⟩,⟨d5,bg⟩,cY,fun y y1 y2 y3 y4=>(hk3 y cY y4).trans (Eq.trans bq (hkp y y1 y2 y3 y4))⟩
   ·rw[hs,decide_eq_false hc,if_neg (by decide)]
    rw[decide_eq_false hc] at c1
    refine aP sF rfl ?_
    refine cM ?_
    exact⟨⟨_,bg⟩,⟨_,bg⟩,⟨_,bg⟩,cY,fun y y1 y2 y3 y4=>bq⟩
  ·have hs2:(l.getD k default).m.stuck u=false:=by simpa using hs
   rw[j1,hs2] at c0
   rw[hs2,Bool.false_and,if_neg (by decide)]
   refine aP sF rfl ?_
   refine cM ?_
   exact⟨⟨_,bg⟩,⟨_,bg⟩,⟨_,bg⟩,cY,fun y y1 y2 y3 y4=>bq⟩
end Go.Proofs.YtekfmjjmihomlaaGreat
end
section
/- Way: the walk. -/
namespace Go.Proofs.YtekfmjjmihomlaaGreat
open Go Go.cQ Go.Proofs
set_option linter.unusedSimpArgs false
set_option linter.unusedVariables false
set_option maxRecDepth 8000
theorem K8 {te e:TypeId} {sz b nx:Nat} {H:Hp} {d:AV} (hb:b<nx) (hsz:0<sz) (h:bd H b=some (.row te 1 d [.sc (.slice none 0 0)])):∃H2,Wk .any H nx .any H2 (nx+1)∧bd H2 b=some (.row te 1 .any [.sl nx 0])∧bd H2 nx=some (.row e sz .any [])∧∀y,y<nx→y≠b→bd H2 y=bd H y:=by
 refine⟨jk te e sz b 1 nx H,Wk.born hb hsz h, ?_, ?_,fun y y1 y2=>BM y1 y2⟩
 ·rw[jk,cU,qn];rfl
 ·rw[jk,cF (by omega),iz,if_pos (by omega)]
noncomputable def qy (u:bf) (most:Int) (e:dG):AV:=
 if(fb u most).1=0 then .de [cq (jJ (fb u most).2 (fK u (fb u most).2 e (fb u most).2.length)),bl (fK u (fb u most).2 e (fb u most).2.length).isSome,i64 0] else .de [.sc (.slice none 0 0),bl false,i64 (fb u most).1]
theorem IS {P:Program} {f:FuncId} {args:List AV} {te:TypeId} (e:TypeId) (sz:Nat) {b nx:Nat} {H:Hp} {d:AV} {R:AV→Hp→Nat→Prop} (hb:b<nx) (hsz:0<sz) (h:bd H b=some (.row te 1 d [.sc (.slice none 0 0)]))
 (k:∀H2,bd H2 b=some (.row te 1 .any [.sl nx 0])→bd H2 nx=some (.row e sz .any [])→(∀y,y<nx→y≠b→bd H2 y=bd H y)→cD P f args H2 (nx+1) R):cD P f args H nx R:=by
 obtain⟨H2,hw,q1,q2,q3⟩:=K8 hb hsz h
 exact cD.EU (k H2 q1 q2 q3) (hw.same _)
def yr (u:bf) (most:Int) (I:Nat→Hp→Prop) (r:AV) (H:Hp):Prop:=
 match fS u most.toNat with
 |none=>r= .de [i64 0,i64 3]
 |some l=>r= .de [i64 l.length,i64 0]∧I l.length H
theorem FA.short {u:bf} {most:Int} {I:Nat→Hp→Prop} {nx:Nat} {H0:Hp} {r:AV} {H:Hp} {n:Nat} (h:FA u most I nx H0 r H n):yr u most I r H:=by
 obtain⟨_,h⟩:=h
 unfold yr
 revert h
 cases fS u most.toNat with
 |none=>exact fun h=>h.1
 |some l=>exact id
set_option maxHeartbeats 2000000 in
theorem E1 (u:bf) (hu:u.Wf) (most:Int) (e:dG) (he1:e.bn.length * 16≤140737488355328) (he2:e.mem.length * 8≤140737488355328):Pure Tryz.prog 25 [u.av,i64 most,e.av] (fun r=>r=qy u most e):=by
 refine eY ?_ (by unfold qy;split<;>simp[cA,cN,cC])
 refine aP C2 rfl ?_
 have hnil:cq []= .im 1 .any []:=rfl
 by_cases hr:ca u
 ·by_cases hm:1≤most∧most≤65536
  ·unfold qy
   rw[iG hr hm]
   refine cM ?_
   let l:=(fS u most.toNat).getD []
   let I:Nat→Hp→Prop:=fun k H=>(∃d,bd H 0=some (.row 25 3 d [u.av]))∧(∃d,bd H 6=some (.row 4 1 d [bl (fK u l e k).isSome]))∧(∃d,bd H 1=some (.row 40 3 d [e.av]))∧(∃d,bd H 5=some (.row 53 1 d [.sl 11 (jJ l (fK u l e k)).length]))∧(∃d,bd H 11=some (.row 3 1 d ((jJ l (fK u l e k)).map i64)))
   refine aJ (R:=fun r H n=>12≤n∧yr u most I r H) (IS (b:=5) 3 1 (by omega) (by omega) (d:=fH false [.slice none 0 0]) (te:=53) ?_ fun H2 q1 q2 q3=> ?_) ?_
   ·exact bg
   ·refine(l9 u hu hr most hm _ [.pt 0 1 0 0, .pt 6 1 0 0, .pt 1 1 0 0, .pt 5 1 0 0] H2 12 I ?_ ?_ ?_).mono fun r H n h=>⟨h.1,h.short⟩
    ·exact⟨⟨_,(q3 0 (by omega) (by omega)).trans bg⟩,⟨_,(q3 6 (by omega) (by omega)).trans bg⟩,⟨_,(q3 1 (by omega) (by omega)).trans bg⟩,⟨_,q1⟩,⟨_,q2⟩⟩
    ·rintro k H H' ⟨⟨d0,p0⟩,⟨d1,p1⟩,⟨d2,p2⟩,⟨d3,p3⟩,⟨d4,p4⟩⟩ hk
     exact⟨⟨d0,(hk 0 (by omega)).trans p0⟩,⟨d1,(hk 6 (by omega)).trans p1⟩,⟨d2,(hk 1 (by omega)).trans p2⟩,⟨d3,(hk 5 (by omega)).trans p3⟩,⟨d4,(hk 11 (by omega)).trans p4⟩⟩
    ·intro l' hl' k H n hk hn ⟨p0,p1,p2,p3,p4⟩
     have hll:l=l':=by show(fS u most.toNat).getD []=l';rw[hl'];rfl
     rw[hll] at p1 p3 p4
     obtain⟨hf,hlm,_⟩:=l8 hu hr (by omega) hl'
     refine(KO hr hf (by omega) he1 he2 hk (ub:=0) (ib:=6) (eb:=1) (wb:=5) (W:=11) ⟨by omega,by omega,by omega,by omega,by omega⟩ ⟨by omega,by omega,by omega,by omega,by omega,by omega,by omega,by omega,by omega⟩ p0 p1 p2 p3 p4).mono ?_
     rintro _ H' n' ⟨s1,s2,s3,s4,s5⟩
     obtain⟨d0,p0⟩:=p0
     obtain⟨d2,p2⟩:=p2
     refine⟨⟨⟨d0,(s5 0 (by omega) (by omega) (by omega) (by omega)).trans p0⟩, ?_,⟨d2,(s5 1 (by omega) (by omega) (by omega) (by omega)).trans p2⟩, ?_, ?_⟩,s4,fun y y1 y2=>s5 y y2 (by omega) (by omega) (by omega)⟩
     ·rw[hll];exact s1
     ·rw[hll];exact s2
     ·rw[hll];exact s3
   rintro r H' n' ⟨hn,hA⟩
   revert hA
   unfold yr
   cases hs:fS u most.toNat with
   |none=>
    rintro rfl
    refine cM ?_
    exact⟨rfl⟩
   |some l'=>
    rintro⟨rfl,⟨d0,p0⟩,⟨d1,p1⟩,⟨d2,p2⟩,⟨d3,p3⟩,⟨d4,p4⟩⟩
    have hll:l=l':=by show(fS u most.toNat).getD []=l';rw[hs];rfl
    rw[hll] at p1 p3 p4
    refine cM ?_
    refine⟨?_⟩
    dsimp only
    rw[if_pos rfl]
    have hf1:cQ.dN H' 5 (.sl 11 (jJ l' (fK u l' e l'.length)).length)=cq (jJ l' (fK u l' e l'.length)):=by
     rw[eA (k:=4) p4 (by simp),dE _ ((cC _ _).2 fun _ _=>by simp[cA])]
    show AV.de [cQ.dN H' 5 (.sl 11 (jJ l' (fK u l' e l'.length)).length),bl (fK u l' e l'.length).isSome,i64 0]=_
    rw[hf1]
  ·unfold qy
   rw[gn hr hm]
   refine cM ?_
   refine aJ (kJ u hu hr most hm _ _ _ _) ?_
   rintro r H' n' ⟨rfl,hn,hk⟩
   refine cM ?_
   exact⟨rfl⟩
 ·unfold qy
  rw[ji hr]
  refine cM ?_
  refine aJ (nq u hu hr most _ _ _ _) ?_
  rintro r H' n' ⟨rfl,hn,hk⟩
  refine cM ?_
  exact⟨rfl⟩
end Go.Proofs.YtekfmjjmihomlaaGreat
end
section
/- The order of ends: what sorts them. -/
namespace Go.Proofs.YtekfmjjmihomlaaGreat
open Go Go.cQ Go.Proofs
set_option linter.unusedSimpArgs false
set_option linter.unusedVariables false
theorem rf {x y z:Int} (h1:eH x y<0) (h2:eH y z<0):eH x z<0:=by
 unfold eH at *
 repeat' split at *
 all_goals omega
theorem NP (a b c:Int):j0 [a,b,c]<0↔a<0∨a=0∧(b<0∨b=0∧c<0):=by
 simp only[j0]
 repeat' split
 all_goals omega
theorem NO (a b:Int):j0 [a,b]<0↔a<0∨a=0∧b<0:=by
 simp only[j0]
 repeat' split
 all_goals omega
theorem FT {p q r:cO} (h1:er p q<0) (h2:er q r<0):er p r<0:=by
 unfold er at *
 rw[NO] at *
 simp only[ir] at *
 rcases h1 with h1|⟨e1,h1⟩<;>rcases h2 with h2|⟨e2,h2⟩
 ·exact .inl (rf h1 h2)
 ·rw[←e2];exact .inl h1
 ·rw[e1];exact .inl h2
 ·exact .inr ⟨e1.trans e2,rf h1 h2⟩
theorem rh {α:Type} {f:α→α→Int} (hz:∀x y,f x y=0↔x=y) (hf:∀x y z,f x y<0→f y z<0→f x z<0):∀a b c:List α,eE f a b<0→eE f b c<0→eE f a c<0
 |[],[],_,h1,_=>by simp[eE] at h1
 |[],_::_,[],_,h2=>by simp[eE] at h2
 |[],_::_,_::_,_,_=>by simp[eE]
 |_::_,[],_,h1,_=>by simp[eE] at h1
 |_::_,_::_,[],_,h2=>by simp[eE] at h2
 |x::a,y::b,z::c,h1,h2=>by
  rw[eE] at h1 h2 ⊢
  by_cases e1:f x y=0
  ·have:=(hz _ _).1 e1
   subst this
   rw[if_pos e1] at h1
   by_cases e2:f x z=0
   ·rw[if_pos e2] at h2 ⊢
    exact rh hz hf a b c h1 h2
   ·rw[if_neg e2] at h2 ⊢
    exact h2
  ·rw[if_neg e1] at h1
   by_cases e2:f y z=0
   ·have:=(hz _ _).1 e2
    subst this
    rw[if_neg e1]
    exact h1
   ·rw[if_neg e2] at h2
    have h3:=hf _ _ _ h1 h2
    rw[if_neg (by omega)]
    exact h3
theorem FM {a b c:dG} (h1:eC a b<0) (h2:eC b c<0):eC a c<0:=by
 unfold eC at *
 rw[NP] at *
 simp only[iu (fun x y=>mq),iu (fun x y=>ir)] at *
 have tp:=rh (f:=er) (fun x y=>mq) (fun x y z=>FT) a.bn b.bn c.bn
 have ti:=rh (f:=eH) (fun x y=>ir) (fun x y z=>rf) a.mem b.mem c.mem
 have tb:pf a.ended b.ended<0→pf b.ended c.ended<0→pf a.ended c.ended<0:=by
  cases a.ended<;>cases b.ended<;>cases c.ended<;>simp[pf]
 rcases h1 with h1|⟨e1,h1⟩<;>rcases h2 with h2|⟨e2,h2⟩
 ·exact .inl (tp h1 h2)
 ·rw[←e2];exact .inl h1
 ·rw[e1];exact .inl h2
 ·refine .inr ⟨e1.trans e2, ?_⟩
  rcases h1 with h1|⟨e1',h1⟩<;>rcases h2 with h2|⟨e2',h2⟩
  ·exact .inl (ti h1 h2)
  ·rw[←e2'];exact .inl h1
  ·rw[e1'];exact .inl h2
  ·exact .inr ⟨e1'.trans e2',tb h1 h2⟩
structure iZ {α:Type} (f:α→α→Int):Prop where
 neg:∀x y,f y x=-f x y
 zero:∀x y,f x y=0↔x=y
 tr:∀x y z,f x y<0→f y z<0→f x z<0
theorem xd:iZ eC:=⟨BO,fun _ _=>qL,fun _ _ _=>FM⟩
def v7 {α:Type} (f:α→α→Int) (x y:α):Bool:=decide (f x y≤0)
theorem iZ.LY {α:Type} {f:α→α→Int} (h:iZ f) {x y z:α} (h1:v7 f x y=true) (h2:v7 f y z=true):v7 f x z=true:=by
 simp only[v7,decide_eq_true_eq] at *
 by_cases e1:f x y=0
 ·rw[(h.zero _ _).1 e1];exact h2
 ·by_cases e2:f y z=0
  ·rw[←(h.zero _ _).1 e2];exact h1
  ·have:=h.tr x y z (by omega) (by omega);omega
theorem iZ.le_total {α:Type} {f:α→α→Int} (h:iZ f) (x y:α):(v7 f x y||v7 f y x)=true:=by
 have:=h.neg x y
 simp only[v7,Bool.or_eq_true,decide_eq_true_eq]
 omega
theorem iZ.F7 {α:Type} {f:α→α→Int} (h:iZ f) {x y:α} (h1:v7 f x y=true) (h2:v7 f y x=true):x=y:=by
 have:=h.neg x y
 simp only[v7,decide_eq_true_eq] at *
 exact(h.zero _ _).1 (by omega)
def fC {α:Type} (f:α→α→Int) (l:List α):List α:=l.mergeSort (v7 f)
theorem qt {α:Type} (f:α→α→Int) (l:List α):(fC f l).length=l.length:=by simp[fC]
theorem lO {α:Type} (f:α→α→Int) (l:List α):(fC f l).Perm l:=List.mergeSort_perm _ _
theorem iZ.sorted {α:Type} {f:α→α→Int} (h:iZ f) (l:List α):(fC f l).Pairwise fun x y=>v7 f x y=true:=
 List.pairwise_mergeSort (le:=v7 f) (fun a b c h1 h2=>h.LY h1 h2) (fun a b=>h.le_total a b) l
theorem iZ.HW {α:Type} {f:α→α→Int} (h:iZ f) {l l':List α} (hp:l'.Perm l) (hs:l'.Pairwise fun x y=>v7 f x y=true):l'=fC f l:=
 List.Perm.eq_of_pairwise (fun a b _ _ h1 h2=>h.F7 h1 h2) hs (h.sorted l) (hp.trans (lO f l).symm)
end Go.Proofs.YtekfmjjmihomlaaGreat
end
