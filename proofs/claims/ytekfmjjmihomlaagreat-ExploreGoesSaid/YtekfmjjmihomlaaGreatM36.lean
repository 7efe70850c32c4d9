import Derived.Test.YtekfmjjmihomlaaGreatM35
section
/- Way: what it does to its list; the way back. -/
namespace Go.Proofs.YtekfmjjmihomlaaGreat
open Go Go.cO Go.Proofs
set_option linter.unusedSimpArgs false
set_option linter.unusedVariables false
set_option maxRecDepth 8000
def jG (l:List Int) (i:Nat):List Int:=(List.range l.length).map fun q=>if q<i∨l.length≤q+i then l.getD (l.length - 1 - q) 0 else l.getD q 0
theorem fW (l:List Int) (i:Nat):(jG l i).length=l.length:=by simp[jG]
theorem k7 {l:List Int} {i q:Nat} (h:q<l.length):(jG l i).getD q 0=if q<i∨l.length≤q+i then l.getD (l.length - 1 - q) 0 else l.getD q 0:=by simp[jG,List.getD,h]
theorem zy (l:List Int):jG l 0=l:=by
 apply List.ext_getElem (fW l 0)
 intro q h1 h2
 have:=k7 (l:=l) (i:=0) h2
 rw[if_neg (by omega)] at this
 simpa[List.getD,h1,h2] using this
theorem D4 {l:List Int} {i:Nat} (h:l.length≤2 * i+1):jG l i=l.reverse:=by
 apply List.ext_getElem (by simp[fW])
 intro q h1 h2
 have hq:q<l.length:=by simpa using h2
 have:=k7 (l:=l) (i:=i) hq
 rw[show(jG l i).getD q 0=(jG l i)[q] by simp[List.getD,h1]] at this
 rw[this,List.getElem_reverse]
 split
 ·simp[List.getD,show l.length - 1 - q<l.length by omega]
 ·have:q=l.length - 1 - q:=by omega
  conv=>lhs;rw[this]
  simp[List.getD,show l.length - 1 - q<l.length by omega]
theorem zx {l:List Int} {i:Nat} (h:2 * i+1<l.length):((jG l i).set i (l.getD (l.length - 1 - i) 0)).set (l.length - 1 - i) (l.getD i 0)=jG l (i+1):=by
 apply List.ext_getElem (by simp[fW])
 intro q h1 h2
 have hq:q<l.length:=by simpa[fW] using h2
 have e1:=k7 (l:=l) (i:=i) hq
 have e2:=k7 (l:=l) (i:=i+1) hq
 rw[show(jG l (i+1)).getD q 0=(jG l (i+1))[q] by simp[List.getD,h2]] at e2
 rw[show(jG l i).getD q 0=(jG l i)[q]'(by rw[fW];exact hq) by simp[List.getD,fW,hq]] at e1
 rw[e2,List.getElem_set,List.getElem_set,e1]
 by_cases c1:l.length - 1 - i=q
 ·subst c1
  rw[if_pos rfl,if_pos (by omega),show l.length - 1 - (l.length - 1 - i)=i by omega]
 ·rw[if_neg c1]
  by_cases c2:i=q
  ·subst c2
   rw[if_pos rfl,if_pos (by omega)]
  ·rw[if_neg c2]
   by_cases c3:q<i∨l.length≤q+i
   ·rw[if_pos c3,if_pos (by omega)]
   ·rw[if_neg c3,if_neg (by omega)]
set_option maxHeartbeats 1000000 in
theorem sQ {b:Nat} {l:List Int} {H:Hp} {nx:Nat} (hb:b<nx) (hl:l.length≤1048576) (r:∃d,bd H b=some (.row 3 1 d (l.map i64))):
 cD Tryz.prog 59 [.sl b l.length] H nx (fun _ H' n=>(∃d,bd H' b=some (.row 3 1 d (l.reverse.map i64)))∧nx≤n∧∀y,y<nx→y≠b→bd H' y=bd H y):=by
 obtain⟨d0,r0'⟩:=r
 refine aQ C5 rfl ?_
 have a0:(l.map i64).length=l.length:=by simp
 refine cM ?_
 refine aR (fun σ:Nat×Int=>[(0, .sl b l.length),(2,i64 σ.1),(3,i64 σ.2)]) (fun σ H2 n=>σ.2=(l.length:Int) - 1 - σ.1∧2 * σ.1≤l.length+1∧nx≤n∧(∃d,bd H2 b=some (.row 3 1 d ((jG l σ.1).map i64)))∧∀y,y<nx→y≠b→bd H2 y=bd H y) (fun σ=>l.length - σ.1) (0,(l.length:Int) - 1) cJ ⟨by simp,by dsimp only;omega,cW,⟨d0,by rw[zy];exact bg⟩,fun y h1 h2=>bq⟩ ?_
 clear r0' a0
 rintro⟨i,j⟩ H2 n ⟨hj,hi,hn,⟨d,r1⟩,hk⟩
 dsimp only at hj hi r1 ⊢
 have a0:((jG l i).map i64).length=l.length:=by simp[fW]
 by_cases hc:2 * i+1<l.length
 ·obtain⟨jn,rfl⟩:∃jn:Nat,j=jn:=⟨j.toNat,by omega⟩
  have hjn:jn=l.length - 1 - i:=by omega
  have e0:=fun d=>eV (l:=jG l i) (k:=i) (by rw[fW];omega) d
  have e1:=fun d=>eV (l:=jG l i) (k:=jn) (by rw[fW];omega) d
  have e2:∀x d,(((jG l i).map i64).set ((i:Int)).toNat x).getD ((jn:Int)).toNat d=i64 ((jG l i).getD jn 0):=fun x d=>by
   rw[getD_set_ne (by omega)];exact e1 d
  have v0:=k7 (l:=l) (i:=i) (q:=i) (by omega)
  rw[if_neg (by omega)] at v0
  have v1:=k7 (l:=l) (i:=i) (q:=jn) (by omega)
  rw[if_neg (by omega)] at v1
  rw[v0] at e0
  rw[v1] at e1 e2
  have e3:=e2 (i64 (l.getD jn 0))
  clear e2
  have hnx:=zx hc
  rw[←hjn] at hnx
  refine cM ?_
  refine⟨(i+1,(jn:Int) - 1),by dsimp only;omega,cJ,by dsimp only;omega,by dsimp only;omega,cW,⟨_,by dsimp only;rw[←hnx,List.map_set,List.map_set];exact bg⟩,fun y h1 h2=>Eq.trans bq (hk y h1 h2)⟩
 ·refine cM ?_
  rw[D4 (by omega)] at r1
  exact⟨⟨d,bg⟩,cW,fun y h1 h2=>Eq.trans bq (hk y h1 h2)⟩
def gL (l:List cA):Nat→Nat→List Int
 |0,_=>[]
 |f+1,k=>if 0≤(l.getD k default).from_ then(l.getD k default).cR::gL l f (l.getD k default).from_.toNat else[]
theorem fm.rp {u:bf} {l:List cA} (h:fm u l) {k:Nat} (hk:k<l.length) (h0:0≤(l.getD k default).from_):(l.getD k default).from_.toNat<k∧0<k:=by
 rcases Nat.eq_zero_or_pos k with e|e
 ·subst e;rw[h.first] at h0;exact absurd h0 (by simp)
 ·obtain⟨k',t,h1,_,_,h2⟩:=h.yq k e hk
  rw[h2]
  exact⟨by dsimp only;omega,e⟩
theorem oY {u:bf} {l:List cA} (h:fm u l):∀{f g k:Nat},k<l.length→k≤f→k≤g→gL l f k=gL l g k
 |0,0,k,hk,hf,hg=>rfl
 |0,g+1,k,hk,hf,hg=>by
  obtain rfl:k=0:=by omega
  rw[gL,gL,h.first];rfl
 |f+1,0,k,hk,hf,hg=>by
  obtain rfl:k=0:=by omega
  rw[gL,gL,h.first];rfl
 |f+1,g+1,k,hk,hf,hg=>by
  rw[gL,gL]
  split
  ·rename_i h0
   obtain⟨h1,h2⟩:=h.rp hk h0
   rw[oY h (f:=f) (g:=g) (by omega) (by omega) (by omega)]
  ·rfl
abbrev j5 (l:List cA) (k:Nat):List Int:=gL l k k
theorem sn {u:bf} {l:List cA} (h:fm u l) {k:Nat} (hk:k<l.length) (h0:0≤(l.getD k default).from_):j5 l k=(l.getD k default).cR::j5 l (l.getD k default).from_.toNat:=by
 obtain⟨h1,h2⟩:=h.rp hk h0
 obtain⟨f,rfl⟩:∃f,k=f+1:=⟨k - 1,by omega⟩
 show gL l (f+1) (f+1)=_
 rw[gL,if_pos h0]
 congr 1
 exact oY h (by omega) (by omega) (Nat.le_refl _)
theorem ym {l:List cA} {k:Nat} (h0:¬0≤(l.getD k default).from_):j5 l k=[]:=by
 show gL l k k=[]
 cases k with
 |zero=>rfl
 |succ f=>rw[gL,if_neg h0]
theorem kM (l:List cA):∀f k,(gL l f k).length≤f
 |0,k=>Nat.le_refl _
 |f+1,k=>by
  rw[gL]
  split
  ·rw[List.length_cons];have:=kM l f (l.getD k default).from_.toNat;omega
  ·simp
def eZ (u:bf) (l:List cA) (e:dD) (k:Nat):Option Nat:=(List.range k).find? fun i=>(l.getD i default).m.stuck u&&decide (dq ((l.getD i default).m.end_ u) e=0)
theorem wK (u:bf) (l:List cA) (e:dD) (k:Nat):eZ u l e (k+1)=match eZ u l e k with
 |some i=>some i
 |none=>if(l.getD k default).m.stuck u&&decide (dq ((l.getD k default).m.end_ u) e=0) then some k else none:=by
 unfold eZ
 rw[List.range_succ,List.find?_append]
 cases(List.range k).find? fun i=>(l.getD i default).m.stuck u&&decide (dq ((l.getD i default).m.end_ u) e=0) with
 |some i=>rfl
 |none=>
  simp only[Option.none_or,List.find?_cons,List.find?_nil]
  split<;>simp_all
theorem B9 {u:bf} {l:List cA} {e:dD} {k i:Nat} (h:eZ u l e k=some i):i<k:=by
 have:=List.mem_of_find?_eq_some h
 exact List.mem_range.1 this
def ef (l:List cA):Option Nat→List Int
 |none=>[]
 |some i=>(j5 l i).reverse
set_option maxHeartbeats 2000000 in
theorem J5 {u:bf} (hr:ch u) {l:List cA} (hf:fm u l) (hl:l.length≤65536) {e:dD} (he1:e.bh.length * 16≤140737488355328) (he2:e.mem.length * 8≤140737488355328) {k:Nat} (hk:k<l.length) {ub ib eb wb W:Nat} {H:Hp} {nx:Nat} (hn:ub<nx∧ib<nx∧eb<nx∧wb<nx∧W<nx) (hne:ub≠ib∧ub≠wb∧ub≠W∧ib≠eb∧ib≠wb∧ib≠W∧eb≠wb∧eb≠W∧wb≠W)
 (r0:∃d,bd H ub=some (.row 25 3 d [u.av])) (r1:∃d,bd H ib=some (.row 4 1 d [bl (eZ u l e k).isSome])) (r2:∃d,bd H eb=some (.row 40 3 d [e.av])) (r3:∃d,bd H wb=some (.row 53 1 d [.sl W (ef l (eZ u l e k)).length])) (r4:∃d,bd H W=some (.row 3 1 d ((ef l (eZ u l e k)).map i64))):
 cD Tryz.prog 58 [gv u l,i64 k, .pt ub 1 0 0, .pt ib 1 0 0, .pt eb 1 0 0, .pt wb 1 0 0] H nx (fun _ H' n=>(∃d,bd H' ib=some (.row 4 1 d [bl (eZ u l e (k+1)).isSome]))∧(∃d,bd H' wb=some (.row 53 1 d [.sl W (ef l (eZ u l e (k+1))).length]))∧(∃d,bd H' W=some (.row 3 1 d ((ef l (eZ u l e (k+1))).map i64)))∧nx≤n∧∀y,y<nx→y≠ib→y≠wb→y≠W→bd H' y=bd H y):=by
 obtain⟨d0,r0'⟩:=r0
 obtain⟨d1,r1'⟩:=r1
 obtain⟨d2,r2'⟩:=r2
 obtain⟨d3,r3'⟩:=r3
 obtain⟨d4,r4'⟩:=r4
 obtain⟨n0,n1,n2,n3,n4⟩:=hn
 obtain⟨m0,m1,m2,m3,m4,m5,m6,m7,m8⟩:=hne
 obtain⟨hm,hp⟩:=hf.ok k hk
 have e0:∀d,(l.map (cA.av u)).getD ((k:Int)).toNat d= .agg [(l.getD k default).m.fz u,i64 (l.getD k default).from_,i64 (l.getD k default).cR]:=fun d=>by rw[Int.toNat_natCast];exact dJ (cA.av u) l k d hk
 have a0:(l.map (cA.av u)).length=l.length:=by simp
 have hgl:=hr.AP
 have hml:=hm.ml
 have c0:=qn u hr (l.getD k default).m hm (by omega) (by omega)
 have c1:=pW ((l.getD k default).m.end_ u) e (by show(l.getD k default).m.bh.length<_;omega) (by show(l.getD k default).m.mem.length<_;omega)
 rw[wK]
 cases hh:eZ u l e k with
 |some i=>
  rw[hh] at r1' r3' r4'
  dsimp only
  generalize (l.getD k default).m=m at *
  cases hs:m.stuck u with
  |true=>
   rw[j1,hs] at c0
   refine aQ sF rfl ?_
   refine cM ?_
   exact⟨⟨_,bg⟩,⟨_,bg⟩,⟨_,bg⟩,cW,fun y y1 y2 y3 y4=>bq⟩
  |false=>
   rw[j1,hs] at c0
   refine aQ sF rfl ?_
   refine cM ?_
   exact⟨⟨_,bg⟩,⟨_,bg⟩,⟨_,bg⟩,cW,fun y y1 y2 y3 y4=>bq⟩
 |none=>
  rw[hh] at r1' r3' r4'
  dsimp only
  by_cases hs:(l.getD k default).m.stuck u=true
  ·rw[j1,hs] at c0
   by_cases hc:dq ((l.getD k default).m.end_ u) e=0
   ·rw[hs,decide_eq_true hc,if_pos (by rfl)]
    rw[decide_eq_true hc] at c1
    refine aQ sF rfl ?_
    refine cM ?_
    clear c0 c1 e0 r0' r2'
    have hway:ef l none=[]:=rfl
    rw[hway] at r3' r4'
    refine aR (fun σ:Nat×List Int=>[(0,gv u l),(5, .pt wb 1 0 0),(10,i64 σ.1)])
     (fun σ H2 n=>σ.1<l.length∧σ.2++j5 l σ.1=j5 l k∧nx≤n∧(∃d,bd H2 ib=some (.row 4 1 d [bl true]))∧(∃d,bd H2 wb=some (.row 53 1 d [.sl W σ.2.length]))∧(∃d,bd H2 W=some (.row 3 1 d (σ.2.map i64)))∧∀y,y<nx→y≠ib→y≠wb→y≠W→bd H2 y=bd H y) (fun σ=>σ.1) (k,[]) cJ
     ⟨hk,rfl,cW,⟨_,bg⟩,⟨_,bg⟩,⟨_,bg⟩,fun y y1 y2 y3 y4=>bq⟩ ?_
    clear r1' r3' r4'
    rintro⟨at_,acc⟩ H2 n ⟨hat,hacc,hn2,⟨d1,r1'⟩,⟨d3,r3'⟩,⟨d4,r4'⟩,hkp⟩
    dsimp only at hat hacc r3' r4' ⊢
    have hbl:=kM l k k
    have hal:acc.length≤65536:=by
     have:=congrArg List.length hacc
     rw[List.length_append] at this
     have:(j5 l k).length≤k:=hbl
     omega
    have a1:(acc.map i64).length=acc.length:=by simp
    have e0:∀d,(l.map (cA.av u)).getD ((at_:Int)).toNat d= .agg [(l.getD at_ default).m.fz u,i64 (l.getD at_ default).from_,i64 (l.getD at_ default).cR]:=fun d=>by rw[Int.toNat_natCast];exact dJ (cA.av u) l at_ d hat
    by_cases h0:0≤(l.getD at_ default).from_
    ·obtain⟨hlt,hpos⟩:=hf.rp hat h0
     have hon:=sn hf hat h0
     obtain⟨q,hq⟩:∃q:Nat,(l.getD at_ default).from_=q:=⟨_,(Int.toNat_of_nonneg h0).symm⟩
     rw[hq] at e0 hlt hon
     rw[Int.toNat_natCast] at hlt hon
     have hge:¬(q:Int)<0:=by omega
     refine cM ?_
     refine⟨(q,acc++[(l.getD at_ default).cR]),hlt,cJ,by dsimp only;omega,by dsimp only;rw[List.append_assoc,List.singleton_append,←hon];exact hacc,cW,⟨_,bg⟩,⟨_,by dsimp only;rw[List.length_append];exact bg⟩,⟨_,by dsimp only;rw[List.map_append];exact bg⟩,fun y y1 y2 y3 y4=>Eq.trans bq (hkp y y1 y2 y3 y4)⟩
    ·have hon:=ym h0
     rw[hon,List.append_nil] at hacc
     subst hacc
     refine cM ?_
     refine aJ (sQ (b:=W) (l:=j5 l k) ?_ (by omega) ?_) ?_
     ·exact cW
     ·exact⟨_,bg⟩
     rintro _ H3 n3 ⟨⟨d5,r5⟩,hn3,hk3⟩
     have q1:=hk3 ib cW (by omega)
     have q2:=hk3 wb cW (by omega)
     refine cM ?_
     exact⟨⟨d1,q1.trans bg⟩,⟨d3,by simp only[ef,List.length_reverse];exact q2.trans bg⟩,⟨d5,bg⟩,cW,fun y y1 y2 y3 y4=>(hk3 y cW y4).trans (Eq.trans bq (hkp y y1 y2 y3 y4))⟩
   ·rw[hs,decide_eq_false hc,if_neg (by decide)]
    rw[decide_eq_false hc] at c1
    refine aQ sF rfl ?_
    refine cM ?_
    exact⟨⟨_,bg⟩,⟨_,bg⟩,⟨_,bg⟩,cW,fun y y1 y2 y3 y4=>bq⟩
  ·have hs2:(l.getD k default).m.stuck u=false:=by simpa using hs
   rw[j1,hs2] at c0
   rw[hs2,Bool.false_and,if_neg (by decide)]
   refine aQ sF rfl ?_
   refine cM ?_
   exact⟨⟨_,bg⟩,⟨_,bg⟩,⟨_,bg⟩,cW,fun y y1 y2 y3 y4=>bq⟩
end Go.Proofs.YtekfmjjmihomlaaGreat
end
section
/- Way: the walk. -/
namespace Go.Proofs.YtekfmjjmihomlaaGreat
open Go Go.cO Go.Proofs
set_option linter.unusedSimpArgs false
set_option linter.unusedVariables false
set_option maxRecDepth 8000
theorem KR {te e:TypeId} {sz b nx:Nat} {H:Hp} {d:AV} (hb:b<nx) (hsz:0<sz) (h:bd H b=some (.row te 1 d [.sc (.slice none 0 0)])):∃H2,Wk .any H nx .any H2 (nx+1)∧bd H2 b=some (.row te 1 .any [.sl nx 0])∧bd H2 nx=some (.row e sz .any [])∧∀y,y<nx→y≠b→bd H2 y=bd H y:=by
 refine⟨jl te e sz b 1 nx H,Wk.born hb hsz h, ?_, ?_,fun y y1 y2=>BB y1 y2⟩
 ·rw[jl,cV,qo];rfl
 ·rw[jl,cF (by omega),iz,if_pos (by omega)]
noncomputable def pe (u:bf) (most:Int) (e:dD):AV:=
 if(fZ u most).1=0 then .dc [cr (ef (fZ u most).2 (eZ u (fZ u most).2 e (fZ u most).2.length)),bl (eZ u (fZ u most).2 e (fZ u most).2.length).isSome,i64 0] else .dc [.sc (.slice none 0 0),bl false,i64 (fZ u most).1]
theorem IB {P:Program} {f:FuncId} {args:List AV} {te:TypeId} (e:TypeId) (sz:Nat) {b nx:Nat} {H:Hp} {d:AV} {R:AV→Hp→Nat→Prop} (hb:b<nx) (hsz:0<sz) (h:bd H b=some (.row te 1 d [.sc (.slice none 0 0)]))
 (k:∀H2,bd H2 b=some (.row te 1 .any [.sl nx 0])→bd H2 nx=some (.row e sz .any [])→(∀y,y<nx→y≠b→bd H2 y=bd H y)→cD P f args H2 (nx+1) R):cD P f args H nx R:=by
 obtain⟨H2,hw,q1,q2,q3⟩:=KR hb hsz h
 exact cD.EF (k H2 q1 q2 q3) (hw.same _)
def yf (u:bf) (most:Int) (I:Nat→Hp→Prop) (r:AV) (H:Hp):Prop:=
 match ft u most.toNat with
 |none=>r= .dc [i64 0,i64 3]
 |some l=>r= .dc [i64 l.length,i64 0]∧I l.length H
theorem ET.short {u:bf} {most:Int} {I:Nat→Hp→Prop} {nx:Nat} {H0:Hp} {r:AV} {H:Hp} {n:Nat} (h:ET u most I nx H0 r H n):yf u most I r H:=by
 obtain⟨_,h⟩:=h
 unfold yf
 revert h
 cases ft u most.toNat with
 |none=>exact fun h=>h.1
 |some l=>exact id
set_option maxHeartbeats 2000000 in
theorem vO (u:bf) (hu:u.Wf) (most:Int) (e:dD) (he1:e.bh.length * 16≤140737488355328) (he2:e.mem.length * 8≤140737488355328):Pure Tryz.prog 25 [u.av,i64 most,e.av] (fun r=>r=pe u most e):=by
 refine eX ?_ (by unfold pe;split<;>simp[bx,cN,bz])
 refine aQ CP rfl ?_
 have hnil:cr []= .im 1 .any []:=rfl
 by_cases hr:ch u
 ·by_cases hm:1≤most∧most≤65536
  ·unfold pe
   rw[iI hr hm]
   refine cM ?_
   let l:=(ft u most.toNat).getD []
   let I:Nat→Hp→Prop:=fun k H=>(∃d,bd H 0=some (.row 25 3 d [u.av]))∧(∃d,bd H 6=some (.row 4 1 d [bl (eZ u l e k).isSome]))∧(∃d,bd H 1=some (.row 40 3 d [e.av]))∧(∃d,bd H 5=some (.row 53 1 d [.sl 11 (ef l (eZ u l e k)).length]))∧(∃d,bd H 11=some (.row 3 1 d ((ef l (eZ u l e k)).map i64)))
   refine aJ (R:=fun r H n=>12≤n∧yf u most I r H) (IB (b:=5) 3 1 (by omega) (by omega) (d:=fI false [.slice none 0 0]) (te:=53) ?_ fun H2 q1 q2 q3=> ?_) ?_
   ·exact bg
   ·refine(l9 u hu hr most hm _ [.pt 0 1 0 0, .pt 6 1 0 0, .pt 1 1 0 0, .pt 5 1 0 0] H2 12 I ?_ ?_ ?_).mono fun r H n h=>⟨h.1,h.short⟩
    ·exact⟨⟨_,(q3 0 (by omega) (by omega)).trans bg⟩,⟨_,(q3 6 (by omega) (by omega)).trans bg⟩,⟨_,(q3 1 (by omega) (by omega)).trans bg⟩,⟨_,q1⟩,⟨_,q2⟩⟩
    ·rintro k H H' ⟨⟨d0,p0⟩,⟨d1,p1⟩,⟨d2,p2⟩,⟨d3,p3⟩,⟨d4,p4⟩⟩ hk
     exact⟨⟨d0,(hk 0 (by omega)).trans p0⟩,⟨d1,(hk 6 (by omega)).trans p1⟩,⟨d2,(hk 1 (by omega)).trans p2⟩,⟨d3,(hk 5 (by omega)).trans p3⟩,⟨d4,(hk 11 (by omega)).trans p4⟩⟩
    ·intro l' hl' k H n hk hn ⟨p0,p1,p2,p3,p4⟩
     have hll:l=l':=by show(ft u most.toNat).getD []=l';rw[hl'];rfl
     rw[hll] at p1 p3 p4
     obtain⟨hf,hlm,_⟩:=l8 hu hr (by omega) hl'
     refine(J5 hr hf (by omega) he1 he2 hk (ub:=0) (ib:=6) (eb:=1) (wb:=5) (W:=11) ⟨by omega,by omega,by omega,by omega,by omega⟩ ⟨by omega,by omega,by omega,by omega,by omega,by omega,by omega,by omega,by omega⟩ p0 p1 p2 p3 p4).mono ?_
     rintro _ H' n' ⟨s1,s2,s3,s4,s5⟩
     obtain⟨d0,p0⟩:=p0
     obtain⟨d2,p2⟩:=p2
     refine⟨⟨⟨d0,(s5 0 (by omega) (by omega) (by omega) (by omega)).trans p0⟩, ?_,⟨d2,(s5 1 (by omega) (by omega) (by omega) (by omega)).trans p2⟩, ?_, ?_⟩,s4,fun y y1 y2=>s5 y y2 (by omega) (by omega) (by omega)⟩
     ·rw[hll];exact s1
     ·rw[hll];exact s2
     ·rw[hll];exact s3
   rintro r H' n' ⟨hn,hA⟩
   revert hA
   unfold yf
   cases hs:ft u most.toNat with
   |none=>
    rintro rfl
    refine cM ?_
    exact⟨rfl⟩
   |some l'=>
    rintro⟨rfl,⟨d0,p0⟩,⟨d1,p1⟩,⟨d2,p2⟩,⟨d3,p3⟩,⟨d4,p4⟩⟩
    have hll:l=l':=by show(ft u most.toNat).getD []=l';rw[hs];rfl
    rw[hll] at p1 p3 p4
    refine cM ?_
    refine⟨?_⟩
    dsimp only
    rw[if_pos rfl]
    have hf1:cO.dR H' 5 (.sl 11 (ef l' (eZ u l' e l'.length)).length)=cr (ef l' (eZ u l' e l'.length)):=by
     rw[dz (k:=4) p4 (by simp),dG _ ((bz _ _).2 fun _ _=>by simp[bx])]
    show AV.dc [cO.dR H' 5 (.sl 11 (ef l' (eZ u l' e l'.length)).length),bl (eZ u l' e l'.length).isSome,i64 0]=_
    rw[hf1]
  ·unfold pe
   rw[gq hr hm]
   refine cM ?_
   refine aJ (kK u hu hr most hm _ _ _ _) ?_
   rintro r H' n' ⟨rfl,hn,hk⟩
   refine cM ?_
   exact⟨rfl⟩
 ·unfold pe
  rw[jj hr]
  refine cM ?_
  refine aJ (nw u hu hr most _ _ _ _) ?_
  rintro r H' n' ⟨rfl,hn,hk⟩
  refine cM ?_
  exact⟨rfl⟩
end Go.Proofs.YtekfmjjmihomlaaGreat
end
section
/- The order of ends: what sorts them. -/
namespace Go.Proofs.YtekfmjjmihomlaaGreat
open Go Go.cO Go.Proofs
set_option linter.unusedSimpArgs false
set_option linter.unusedVariables false
theorem rf {x y z:Int} (h1:eH x y<0) (h2:eH y z<0):eH x z<0:=by
 unfold eH at *
 repeat' split at *
 all_goals omega
theorem M5 (a b c:Int):j0 [a,b,c]<0↔a<0∨a=0∧(b<0∨b=0∧c<0):=by
 simp only[j0]
 repeat' split
 all_goals omega
theorem M4 (a b:Int):j0 [a,b]<0↔a<0∨a=0∧b<0:=by
 simp only[j0]
 repeat' split
 all_goals omega
theorem FB {p q r:cL} (h1:ew p q<0) (h2:ew q r<0):ew p r<0:=by
 unfold ew at *
 rw[M4] at *
 simp only[ir] at *
 rcases h1 with h1|⟨e1,h1⟩<;>rcases h2 with h2|⟨e2,h2⟩
 ·exact .inl (rf h1 h2)
 ·rw[←e2];exact .inl h1
 ·rw[e1];exact .inl h2
 ·exact .inr ⟨e1.trans e2,rf h1 h2⟩
theorem rh {α:Type} {f:α→α→Int} (hz:∀x y,f x y=0↔x=y) (hf:∀x y z,f x y<0→f y z<0→f x z<0):∀a b c:List α,eD f a b<0→eD f b c<0→eD f a c<0
 |[],[],_,h1,_=>by simp[eD] at h1
 |[],_::_,[],_,h2=>by simp[eD] at h2
 |[],_::_,_::_,_,_=>by simp[eD]
 |_::_,[],_,h1,_=>by simp[eD] at h1
 |_::_,_::_,[],_,h2=>by simp[eD] at h2
 |x::a,y::b,z::c,h1,h2=>by
  rw[eD] at h1 h2 ⊢
  by_cases e1:f x y=0
  ·have:=(hz _ _).1 e1
   subst this
   rw[if_pos e1] at h1
   by_cases e2:f x z=0
   ·rw[if_pos e2] at h2 ⊢
    exact rh hz hf a b c h1 h2
   ·rw[if_neg e2] at h2 ⊢
    exact h2
  ·rw[if_neg e1] at h1
   by_cases e2:f y z=0
   ·have:=(hz _ _).1 e2
    subst this
    rw[if_neg e1]
    exact h1
   ·rw[if_neg e2] at h2
    have h3:=hf _ _ _ h1 h2
    rw[if_neg (by omega)]
    exact h3
theorem E6 {a b c:dD} (h1:dq a b<0) (h2:dq b c<0):dq a c<0:=by
 unfold dq at *
 rw[M5] at *
 simp only[iu (fun x y=>mj),iu (fun x y=>ir)] at *
 have tp:=rh (f:=ew) (fun x y=>mj) (fun x y z=>FB) a.bh b.bh c.bh
 have ti:=rh (f:=eH) (fun x y=>ir) (fun x y z=>rf) a.mem b.mem c.mem
 have tb:pq a.ended b.ended<0→pq b.ended c.ended<0→pq a.ended c.ended<0:=by
  cases a.ended<;>cases b.ended<;>cases c.ended<;>simp[pq]
 rcases h1 with h1|⟨e1,h1⟩<;>rcases h2 with h2|⟨e2,h2⟩
 ·exact .inl (tp h1 h2)
 ·rw[←e2];exact .inl h1
 ·rw[e1];exact .inl h2
 ·refine .inr ⟨e1.trans e2, ?_⟩
  rcases h1 with h1|⟨e1',h1⟩<;>rcases h2 with h2|⟨e2',h2⟩
  ·exact .inl (ti h1 h2)
  ·rw[←e2'];exact .inl h1
  ·rw[e1'];exact .inl h2
  ·exact .inr ⟨e1'.trans e2',tb h1 h2⟩
structure iZ {α:Type} (f:α→α→Int):Prop where
 neg:∀x y,f y x=-f x y
 zero:∀x y,f x y=0↔x=y
 tr:∀x y z,f x y<0→f y z<0→f x z<0
theorem gP:iZ dq:=⟨BD,fun _ _=>qP,fun _ _ _=>E6⟩
def qh {α:Type} (f:α→α→Int) (x y:α):Bool:=decide (f x y≤0)
theorem iZ.LB {α:Type} {f:α→α→Int} (h:iZ f) {x y z:α} (h1:qh f x y=true) (h2:qh f y z=true):qh f x z=true:=by
 simp only[qh,decide_eq_true_eq] at *
 by_cases e1:f x y=0
 ·rw[(h.zero _ _).1 e1];exact h2
 ·by_cases e2:f y z=0
  ·rw[←(h.zero _ _).1 e2];exact h1
  ·have:=h.tr x y z (by omega) (by omega);omega
theorem iZ.le_total {α:Type} {f:α→α→Int} (h:iZ f) (x y:α):(qh f x y||qh f y x)=true:=by
 have:=h.neg x y
 simp only[qh,Bool.or_eq_true,decide_eq_true_eq]
 omega
theorem iZ.xg {α:Type} {f:α→α→Int} (h:iZ f) {x y:α} (h1:qh f x y=true) (h2:qh f y x=true):x=y:=by
 have:=h.neg x y
 simp only[qh,decide_eq_true_eq] at *
 exact(h.zero _ _).1 (by omega)
def fE {α:Type} (f:α→α→Int) (l:List α):List α:=l.mergeSort (qh f)
theorem nK {α:Type} (f:α→α→Int) (l:List α):(fE f l).length=l.length:=by simp[fE]
theorem lQ {α:Type} (f:α→α→Int) (l:List α):(fE f l).Perm l:=List.mergeSort_perm _ _
theorem iZ.sorted {α:Type} {f:α→α→Int} (h:iZ f) (l:List α):(fE f l).Pairwise fun x y=>qh f x y=true:=
 List.pairwise_mergeSort (le:=qh f) (fun a b c h1 h2=>h.LB h1 h2) (fun a b=>h.le_total a b) l
theorem iZ.HD {α:Type} {f:α→α→Int} (h:iZ f) {l l':List α} (hp:l'.Perm l) (hs:l'.Pairwise fun x y=>qh f x y=true):l'=fE f l:=
 List.Perm.eq_of_pairwise (fun a b _ _ h1 h2=>h.xg h1 h2) hs (h.sorted l) (hp.trans (lQ f l).symm)
end Go.Proofs.YtekfmjjmihomlaaGreat
end
