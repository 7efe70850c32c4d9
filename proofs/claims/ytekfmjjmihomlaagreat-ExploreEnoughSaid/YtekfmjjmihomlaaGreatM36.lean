import Derived.Test.YtekfmjjmihomlaaGreatM35
section
/- Way: what it does to its list; the way back. -/
namespace Go.Proofs.YtekfmjjmihomlaaGreat
open Go Go.cN Go.Proofs
set_option linter.unusedSimpArgs false
set_option linter.unusedVariables false
set_option maxRecDepth 8000
def jA (l:List Int) (i:Nat):List Int:=(List.range l.length).map fun q=>if q<i∨l.length≤q+i then l.getD (l.length - 1 - q) 0 else l.getD q 0
theorem fV (l:List Int) (i:Nat):(jA l i).length=l.length:=by simp[jA]
theorem kR {l:List Int} {i q:Nat} (h:q<l.length):(jA l i).getD q 0=if q<i∨l.length≤q+i then l.getD (l.length - 1 - q) 0 else l.getD q 0:=by simp[jA,List.getD,h]
theorem zd (l:List Int):jA l 0=l:=by
 apply List.ext_getElem (fV l 0)
 intro q h1 h2
 have:=kR (l:=l) (i:=0) h2
 rw[if_neg (by omega)] at this
 simpa[List.getD,h1,h2] using this
theorem DK {l:List Int} {i:Nat} (h:l.length≤2 * i+1):jA l i=l.reverse:=by
 apply List.ext_getElem (by simp[fV])
 intro q h1 h2
 have hq:q<l.length:=by simpa using h2
 have:=kR (l:=l) (i:=i) hq
 rw[show(jA l i).getD q 0=(jA l i)[q] by simp[List.getD,h1]] at this
 rw[this,List.getElem_reverse]
 split
 ·simp[List.getD,show l.length - 1 - q<l.length by omega]
 ·have:q=l.length - 1 - q:=by omega
  conv=>lhs;rw[this]
  simp[List.getD,show l.length - 1 - q<l.length by omega]
theorem zb {l:List Int} {i:Nat} (h:2 * i+1<l.length):((jA l i).set i (l.getD (l.length - 1 - i) 0)).set (l.length - 1 - i) (l.getD i 0)=jA l (i+1):=by
 apply List.ext_getElem (by simp[fV])
 intro q h1 h2
 have hq:q<l.length:=by simpa[fV] using h2
 have e1:=kR (l:=l) (i:=i) hq
 have e2:=kR (l:=l) (i:=i+1) hq
 rw[show(jA l (i+1)).getD q 0=(jA l (i+1))[q] by simp[List.getD,h2]] at e2
 rw[show(jA l i).getD q 0=(jA l i)[q]'(by rw[fV];exact hq) by simp[List.getD,fV,hq]] at e1
 rw[e2,List.getElem_set,List.getElem_set,e1]
 by_cases c1:l.length - 1 - i=q
 ·subst c1
  rw[if_pos rfl,if_pos (by omega),show l.length - 1 - (l.length - 1 - i)=i by omega]
 ·rw[if_neg c1]
  by_cases c2:i=q
  ·subst c2
   rw[if_pos rfl,if_pos (by omega)]
  ·rw[if_neg c2]
   by_cases c3:q<i∨l.length≤q+i
   ·rw[if_pos c3,if_pos (by omega)]
   ·rw[if_neg c3,if_neg (by omega)]
set_option maxHeartbeats 1000000 in
theorem sE {b:Nat} {l:List Int} {H:Hp} {nx:Nat} (hb:b<nx) (hl:l.length≤1048576) (r:∃d,bd H b=some (.row 3 1 d (l.map i64))):
 cC Tryz.prog 59 [.sl b l.length] H nx (fun _ H' n=>(∃d,bd H' b=some (.row 3 1 d (l.reverse.map i64)))∧nx≤n∧∀y,y<nx→y≠b→bd H' y=bd H y):=by
 obtain⟨d0,r0'⟩:=r
 refine aQ CM rfl ?_
 have a0:(l.map i64).length=l.length:=by simp
 refine cU ?_
 refine aR (fun σ:Nat×Int=>[(0, .sl b l.length),(2,i64 σ.1),(3,i64 σ.2)]) (fun σ H2 n=>σ.2=(l.length:Int) - 1 - σ.1∧2 * σ.1≤l.length+1∧nx≤n∧(∃d,bd H2 b=some (.row 3 1 d ((jA l σ.1).map i64)))∧∀y,y<nx→y≠b→bd H2 y=bd H y) (fun σ=>l.length - σ.1) (0,(l.length:Int) - 1) cK ⟨by simp,by dsimp only;omega,cZ,⟨d0,by rw[zd];exact bg⟩,fun y h1 h2=>br⟩ ?_
 clear r0' a0
 rintro⟨i,j⟩ H2 n ⟨hj,hi,hn,⟨d,r1⟩,hk⟩
 dsimp only at hj hi r1 ⊢
 have a0:((jA l i).map i64).length=l.length:=by simp[fV]
 by_cases hc:2 * i+1<l.length
 ·obtain⟨jn,rfl⟩:∃jn:Nat,j=jn:=⟨j.toNat,by omega⟩
  have hjn:jn=l.length - 1 - i:=by omega
  have e0:=fun d=>ej (l:=jA l i) (k:=i) (by rw[fV];omega) d
  have e1:=fun d=>ej (l:=jA l i) (k:=jn) (by rw[fV];omega) d
  have e2:∀x d,(((jA l i).map i64).set ((i:Int)).toNat x).getD ((jn:Int)).toNat d=i64 ((jA l i).getD jn 0):=fun x d=>by
   rw[getD_set_ne (by omega)];exact e1 d
  have v0:=kR (l:=l) (i:=i) (q:=i) (by omega)
  rw[if_neg (by omega)] at v0
  have v1:=kR (l:=l) (i:=i) (q:=jn) (by omega)
  rw[if_neg (by omega)] at v1
  rw[v0] at e0
  rw[v1] at e1 e2
  have e3:=e2 (i64 (l.getD jn 0))
  clear e2
  have hnx:=zb hc
  rw[←hjn] at hnx
  refine cU ?_
  refine⟨(i+1,(jn:Int) - 1),by dsimp only;omega,cK,by dsimp only;omega,by dsimp only;omega,cZ,⟨_,by dsimp only;rw[←hnx,List.map_set,List.map_set];exact bg⟩,fun y h1 h2=>Eq.trans br (hk y h1 h2)⟩
 ·refine cU ?_
  rw[DK (by omega)] at r1
  exact⟨⟨d,bg⟩,cZ,fun y h1 h2=>Eq.trans br (hk y h1 h2)⟩
def gG (l:List cD):Nat→Nat→List Int
 |0,_=>[]
 |f+1,k=>if 0≤(l.getD k default).from_ then(l.getD k default).cT::gG l f (l.getD k default).from_.toNat else[]
theorem gJ.rY {u:bf} {l:List cD} (h:gJ u l) {k:Nat} (hk:k<l.length) (h0:0≤(l.getD k default).from_):(l.getD k default).from_.toNat<k∧0<k:=by
 rcases Nat.eq_zero_or_pos k with e|e
 ·subst e;rw[h.first] at h0;exact absurd h0 (by simp)
 ·obtain⟨k',t,h1,_,_,h2⟩:=h.EJ k e hk
  rw[h2]
  exact⟨by dsimp only;omega,e⟩
theorem oL {u:bf} {l:List cD} (h:gJ u l):∀{f g k:Nat},k<l.length→k≤f→k≤g→gG l f k=gG l g k
 |0,0,k,hk,hf,hg=>rfl
 |0,g+1,k,hk,hf,hg=>by
  obtain rfl:k=0:=by omega
  rw[gG,gG,h.first];rfl
 |f+1,0,k,hk,hf,hg=>by
  obtain rfl:k=0:=by omega
  rw[gG,gG,h.first];rfl
 |f+1,g+1,k,hk,hf,hg=>by
  rw[gG,gG]
  split
  ·rename_i h0
   obtain⟨h1,h2⟩:=h.rY hk h0
   rw[oL h (f:=f) (g:=g) (by omega) (by omega) (by omega)]
  ·rfl
abbrev nG (l:List cD) (k:Nat):List Int:=gG l k k
theorem AQ {u:bf} {l:List cD} (h:gJ u l) {k:Nat} (hk:k<l.length) (h0:0≤(l.getD k default).from_):nG l k=(l.getD k default).cT::nG l (l.getD k default).from_.toNat:=by
 obtain⟨h1,h2⟩:=h.rY hk h0
 obtain⟨f,rfl⟩:∃f,k=f+1:=⟨k - 1,by omega⟩
 show gG l (f+1) (f+1)=_
 rw[gG,if_pos h0]
 congr 1
 exact oL h (by omega) (by omega) (Nat.le_refl _)
theorem yZ {l:List cD} {k:Nat} (h0:¬0≤(l.getD k default).from_):nG l k=[]:=by
 show gG l k k=[]
 cases k with
 |zero=>rfl
 |succ f=>rw[gG,if_neg h0]
theorem qA (l:List cD):∀f k,(gG l f k).length≤f
 |0,k=>Nat.le_refl _
 |f+1,k=>by
  rw[gG]
  split
  ·rw[List.length_cons];have:=qA l f (l.getD k default).from_.toNat;omega
  ·simp
def fI (u:bf) (l:List cD) (e:dE) (k:Nat):Option Nat:=(List.range k).find? fun i=>(l.getD i default).m.stuck u&&decide (eB ((l.getD i default).m.end_ u) e=0)
theorem vv (u:bf) (l:List cD) (e:dE) (k:Nat):fI u l e (k+1)=match fI u l e k with
 |some i=>some i
 |none=>if(l.getD k default).m.stuck u&&decide (eB ((l.getD k default).m.end_ u) e=0) then some k else none:=by
 unfold fI
 rw[List.range_succ,List.find?_append]
 cases(List.range k).find? fun i=>(l.getD i default).m.stuck u&&decide (eB ((l.getD i default).m.end_ u) e=0) with
 |some i=>rfl
 |none=>
  simp only[Option.none_or,List.find?_cons,List.find?_nil]
  split<;>simp_all
def jC (l:List cD):Option Nat→List Int
 |none=>[]
 |some i=>(nG l i).reverse
set_option maxHeartbeats 2000000 in
theorem JQ {u:bf} (hr:ch u) {l:List cD} (hf:gJ u l) (hl:l.length≤65536) {e:dE} (he1:e.bo.length * 16≤140737488355328) (he2:e.mem.length * 8≤140737488355328) {k:Nat} (hk:k<l.length) {ub ib eb wb W:Nat} {H:Hp} {nx:Nat} (hn:ub<nx∧ib<nx∧eb<nx∧wb<nx∧W<nx) (hne:ub≠ib∧ub≠wb∧ub≠W∧ib≠eb∧ib≠wb∧ib≠W∧eb≠wb∧eb≠W∧wb≠W)
 (r0:∃d,bd H ub=some (.row 25 3 d [u.av])) (r1:∃d,bd H ib=some (.row 4 1 d [bl (fI u l e k).isSome])) (r2:∃d,bd H eb=some (.row 40 3 d [e.av])) (r3:∃d,bd H wb=some (.row 53 1 d [.sl W (jC l (fI u l e k)).length])) (r4:∃d,bd H W=some (.row 3 1 d ((jC l (fI u l e k)).map i64))):
 cC Tryz.prog 58 [ic u l,i64 k, .pt ub 1 0 0, .pt ib 1 0 0, .pt eb 1 0 0, .pt wb 1 0 0] H nx (fun _ H' n=>(∃d,bd H' ib=some (.row 4 1 d [bl (fI u l e (k+1)).isSome]))∧(∃d,bd H' wb=some (.row 53 1 d [.sl W (jC l (fI u l e (k+1))).length]))∧(∃d,bd H' W=some (.row 3 1 d ((jC l (fI u l e (k+1))).map i64)))∧nx≤n∧∀y,y<nx→y≠ib→y≠wb→y≠W→bd H' y=bd H y):=by
 obtain⟨d0,r0'⟩:=r0
 obtain⟨d1,r1'⟩:=r1
 obtain⟨d2,r2'⟩:=r2
 obtain⟨d3,r3'⟩:=r3
 obtain⟨d4,r4'⟩:=r4
 obtain⟨n0,n1,n2,n3,n4⟩:=hn
 obtain⟨m0,m1,m2,m3,m4,m5,m6,m7,m8⟩:=hne
 obtain⟨hm,hp⟩:=hf.ok k hk
 have e0:∀d,(l.map (cD.av u)).getD ((k:Int)).toNat d= .agg [(l.getD k default).m.fz u,i64 (l.getD k default).from_,i64 (l.getD k default).cT]:=fun d=>by rw[Int.toNat_natCast];exact dJ (cD.av u) l k d hk
 have a0:(l.map (cD.av u)).length=l.length:=by simp
 have hgl:=hr.A8
 have hml:=hm.ml
 have c0:=qc u hr (l.getD k default).m hm (by omega) (by omega)
 have c1:=pL ((l.getD k default).m.end_ u) e (by show(l.getD k default).m.bo.length<_;omega) (by show(l.getD k default).m.mem.length<_;omega)
 rw[vv]
 cases hh:fI u l e k with
 |some i=>
  rw[hh] at r1' r3' r4'
  dsimp only
  generalize (l.getD k default).m=m at *
  cases hs:m.stuck u with
  |true=>
   rw[jV,hs] at c0
   refine aQ rp rfl ?_
   refine cU ?_
   exact⟨⟨_,bg⟩,⟨_,bg⟩,⟨_,bg⟩,cZ,fun y y1 y2 y3 y4=>br⟩
  |false=>
   rw[jV,hs] at c0
   refine aQ rp rfl ?_
   refine cU ?_
   exact⟨⟨_,bg⟩,⟨_,bg⟩,⟨_,bg⟩,cZ,fun y y1 y2 y3 y4=>br⟩
 |none=>
  rw[hh] at r1' r3' r4'
  dsimp only
  by_cases hs:(l.getD k default).m.stuck u=true
  ·rw[jV,hs] at c0
   by_cases hc:eB ((l.getD k default).m.end_ u) e=0
   ·rw[hs,decide_eq_true hc,if_pos (by rfl)]
    rw[decide_eq_true hc] at c1
    refine aQ rp rfl ?_
    refine cU ?_
    clear c0 c1 e0 r0' r2'
    have hway:jC l none=[]:=rfl
    rw[hway] at r3' r4'
    refine aR (fun σ:Nat×List Int=>[(0,ic u l),(5, .pt wb 1 0 0),(10,i64 σ.1)])
     (fun σ H2 n=>σ.1<l.length∧σ.2++nG l σ.1=nG l k∧nx≤n∧(∃d,bd H2 ib=some (.row 4 1 d [bl true]))∧(∃d,bd H2 wb=some (.row 53 1 d [.sl W σ.2.length]))∧(∃d,bd H2 W=some (.row 3 1 d (σ.2.map i64)))∧∀y,y<nx→y≠ib→y≠wb→y≠W→bd H2 y=bd H y) (fun σ=>σ.1) (k,[]) cK
     ⟨hk,rfl,cZ,⟨_,bg⟩,⟨_,bg⟩,⟨_,bg⟩,fun y y1 y2 y3 y4=>br⟩ ?_
    clear r1' r3' r4'
    rintro⟨at_,acc⟩ H2 n ⟨hat,hacc,hn2,⟨d1,r1'⟩,⟨d3,r3'⟩,⟨d4,r4'⟩,hkp⟩
    dsimp only at hat hacc r3' r4' ⊢
    have hbl:=qA l k k
    have hal:acc.length≤65536:=by
     have:=congrArg List.length hacc
     rw[List.length_append] at this
     have:(nG l k).length≤k:=hbl
     omega
    have a1:(acc.map i64).length=acc.length:=by simp
    have e0:∀d,(l.map (cD.av u)).getD ((at_:Int)).toNat d= .agg [(l.getD at_ default).m.fz u,i64 (l.getD at_ default).from_,i64 (l.getD at_ default).cT]:=fun d=>by rw[Int.toNat_natCast];exact dJ (cD.av u) l at_ d hat
    by_cases h0:0≤(l.getD at_ default).from_
    ·obtain⟨hlt,hpos⟩:=hf.rY hat h0
     have hon:=AQ hf hat h0
     obtain⟨q,hq⟩:∃q:Nat,(l.getD at_ default).from_=q:=⟨_,(Int.toNat_of_nonneg h0).symm⟩
     rw[hq] at e0 hlt hon
     rw[Int.toNat_natCast] at hlt hon
     have hge:¬(q:Int)<0:=by omega
     refine cU ?_
     refine⟨(q,acc++[(l.getD at_ default).cT]),hlt,cK,by dsimp only;omega,by dsimp only;rw[List.append_assoc,List.singleton_append,←hon];exact hacc,cZ,⟨_,bg⟩,⟨_,by dsimp only;rw[List.length_append];exact bg⟩,⟨_,by dsimp only;rw[List.map_append];exact bg⟩,fun y y1 y2 y3 y4=>Eq.trans br (hkp y y1 y2 y3 y4)⟩
    ·have hon:=yZ h0
     rw[hon,List.append_nil] at hacc
     subst hacc
     refine cU ?_
     refine aJ (sE (b:=W) (l:=nG l k) ?_ (by omega) ?_) ?_
     ·exact cZ
     ·exact⟨_,bg⟩
     rintro _ H3 n3 ⟨⟨d5,r5⟩,hn3,hk3⟩
     have q1:=hk3 ib cZ (by omega)
     have q2:=hk3 wb cZ (by omega)
     refine cU ?_
     exact⟨⟨d1,q1.trans bg⟩,⟨d3,by simp only[jC,List.length_reverse];exact q2.trans bg⟩,⟨d5,bg⟩,cZ,fun y y1 y2 y3 y4=>(hk3 y cZ y4).trans (Eq.trans br (hkp y y1 y2 y3 y4))⟩
   ·rw[hs,decide_eq_false hc,if_neg (by decide)]
    rw[decide_eq_false hc] at c1
    refine aQ rp rfl ?_
    refine cU ?_
    exact⟨⟨_,bg⟩,⟨_,bg⟩,⟨_,bg⟩,cZ,fun y y1 y2 y3 y4=>br⟩
  ·have hs2:(l.getD k default).m.stuck u=false:=by simpa using hs
   rw[jV,hs2] at c0
   rw[hs2,Bool.false_and,if_neg (by decide)]
   refine aQ rp rfl ?_
   refine cU ?_
   exact⟨⟨_,bg⟩,⟨_,bg⟩,⟨_,bg⟩,cZ,fun y y1 y2 y3 y4=>br⟩
end Go.Proofs.YtekfmjjmihomlaaGreat
end
section
/- Way: the walk. -/
namespace Go.Proofs.YtekfmjjmihomlaaGreat
open Go Go.cN Go.Proofs
set_option linter.unusedSimpArgs false
set_option linter.unusedVariables false
set_option maxRecDepth 8000
theorem KB {te e:TypeId} {sz b nx:Nat} {H:Hp} {d:AV} (hb:b<nx) (hsz:0<sz) (h:bd H b=some (.row te 1 d [.sc (.slice none 0 0)])):∃H2,Wk .any H nx .any H2 (nx+1)∧bd H2 b=some (.row te 1 .any [.sl nx 0])∧bd H2 nx=some (.row e sz .any [])∧∀y,y<nx→y≠b→bd H2 y=bd H y:=by
 refine⟨jb te e sz b 1 nx H,Wk.born hb hsz h, ?_, ?_,fun y y1 y2=>AR y1 y2⟩
 ·rw[jb,cR,qd];rfl
 ·rw[jb,cF (by omega),ij,if_pos (by omega)]
noncomputable def ql (u:bf) (most:Int) (e:dE):AV:=
 if(fg u most).1=0 then .da [cu (jC (fg u most).2 (fI u (fg u most).2 e (fg u most).2.length)),bl (fI u (fg u most).2 e (fg u most).2.length).isSome,i64 0] else .da [.sc (.slice none 0 0),bl false,i64 (fg u most).1]
theorem HN {P:Program} {f:FuncId} {args:List AV} {te:TypeId} (e:TypeId) (sz:Nat) {b nx:Nat} {H:Hp} {d:AV} {R:AV→Hp→Nat→Prop} (hb:b<nx) (hsz:0<sz) (h:bd H b=some (.row te 1 d [.sc (.slice none 0 0)]))
 (k:∀H2,bd H2 b=some (.row te 1 .any [.sl nx 0])→bd H2 nx=some (.row e sz .any [])→(∀y,y<nx→y≠b→bd H2 y=bd H y)→cC P f args H2 (nx+1) R):cC P f args H nx R:=by
 obtain⟨H2,hw,q1,q2,q3⟩:=KB hb hsz h
 exact cC.DU (k H2 q1 q2 q3) (hw.same _)
def yR (u:bf) (most:Int) (I:Nat→Hp→Prop) (r:AV) (H:Hp):Prop:=
 match fD u most.toNat with
 |none=>r= .da [i64 0,i64 3]
 |some l=>r= .da [i64 l.length,i64 0]∧I l.length H
theorem D8.short {u:bf} {most:Int} {I:Nat→Hp→Prop} {nx:Nat} {H0:Hp} {r:AV} {H:Hp} {n:Nat} (h:D8 u most I nx H0 r H n):yR u most I r H:=by
 obtain⟨_,h⟩:=h
 unfold yR
 revert h
 cases fD u most.toNat with
 |none=>exact fun h=>h.1
 |some l=>exact id
set_option maxHeartbeats 2000000 in
theorem D0 (u:bf) (hu:u.Wf) (most:Int) (e:dE) (he1:e.bo.length * 16≤140737488355328) (he2:e.mem.length * 8≤140737488355328):Pure Tryz.prog 25 [u.av,i64 most,e.av] (fun r=>r=ql u most e):=by
 refine eo ?_ (by unfold ql;split<;>simp[cA,cM,cB])
 refine aQ B6 rfl ?_
 have hnil:cu []= .im 1 .any []:=rfl
 by_cases hr:ch u
 ·by_cases hm:1≤most∧most≤65536
  ·unfold ql
   rw[gL hr hm]
   refine cU ?_
   let l:=(fD u most.toNat).getD []
   let I:Nat→Hp→Prop:=fun k H=>(∃d,bd H 0=some (.row 25 3 d [u.av]))∧(∃d,bd H 6=some (.row 4 1 d [bl (fI u l e k).isSome]))∧(∃d,bd H 1=some (.row 40 3 d [e.av]))∧(∃d,bd H 5=some (.row 53 1 d [.sl 11 (jC l (fI u l e k)).length]))∧(∃d,bd H 11=some (.row 3 1 d ((jC l (fI u l e k)).map i64)))
   refine aJ (R:=fun r H n=>12≤n∧yR u most I r H) (HN (b:=5) 3 1 (by omega) (by omega) (d:=fO false [.slice none 0 0]) (te:=53) ?_ fun H2 q1 q2 q3=> ?_) ?_
   ·exact bg
   ·refine(oF u hu hr most hm _ [.pt 0 1 0 0, .pt 6 1 0 0, .pt 1 1 0 0, .pt 5 1 0 0] H2 12 I ?_ ?_ ?_).mono fun r H n h=>⟨h.1,h.short⟩
    ·exact⟨⟨_,(q3 0 (by omega) (by omega)).trans bg⟩,⟨_,(q3 6 (by omega) (by omega)).trans bg⟩,⟨_,(q3 1 (by omega) (by omega)).trans bg⟩,⟨_,q1⟩,⟨_,q2⟩⟩
    ·rintro k H H' ⟨⟨d0,p0⟩,⟨d1,p1⟩,⟨d2,p2⟩,⟨d3,p3⟩,⟨d4,p4⟩⟩ hk
     exact⟨⟨d0,(hk 0 (by omega)).trans p0⟩,⟨d1,(hk 6 (by omega)).trans p1⟩,⟨d2,(hk 1 (by omega)).trans p2⟩,⟨d3,(hk 5 (by omega)).trans p3⟩,⟨d4,(hk 11 (by omega)).trans p4⟩⟩
    ·intro l' hl' k H n hk hn ⟨p0,p1,p2,p3,p4⟩
     have hll:l=l':=by show(fD u most.toNat).getD []=l';rw[hl'];rfl
     rw[hll] at p1 p3 p4
     obtain⟨hf,hlm,_⟩:=lY hu hr (by omega) hl'
     refine(JQ hr hf (by omega) he1 he2 hk (ub:=0) (ib:=6) (eb:=1) (wb:=5) (W:=11) ⟨by omega,by omega,by omega,by omega,by omega⟩ ⟨by omega,by omega,by omega,by omega,by omega,by omega,by omega,by omega,by omega⟩ p0 p1 p2 p3 p4).mono ?_
     rintro _ H' n' ⟨s1,s2,s3,s4,s5⟩
     obtain⟨d0,p0⟩:=p0
     obtain⟨d2,p2⟩:=p2
     refine⟨⟨⟨d0,(s5 0 (by omega) (by omega) (by omega) (by omega)).trans p0⟩, ?_,⟨d2,(s5 1 (by omega) (by omega) (by omega) (by omega)).trans p2⟩, ?_, ?_⟩,s4,fun y y1 y2=>s5 y y2 (by omega) (by omega) (by omega)⟩
     ·rw[hll];exact s1
     ·rw[hll];exact s2
     ·rw[hll];exact s3
   rintro r H' n' ⟨hn,hA⟩
   revert hA
   unfold yR
   cases hs:fD u most.toNat with
   |none=>
    rintro rfl
    refine cU ?_
    exact⟨rfl⟩
   |some l'=>
    rintro⟨rfl,⟨d0,p0⟩,⟨d1,p1⟩,⟨d2,p2⟩,⟨d3,p3⟩,⟨d4,p4⟩⟩
    have hll:l=l':=by show(fD u most.toNat).getD []=l';rw[hs];rfl
    rw[hll] at p1 p3 p4
    refine cU ?_
    refine⟨?_⟩
    dsimp only
    rw[if_pos rfl]
    have hf1:cN.dM H' 5 (.sl 11 (jC l' (fI u l' e l'.length)).length)=cu (jC l' (fI u l' e l'.length)):=by
     rw[dw (k:=4) p4 (by simp),dF _ ((cB _ _).2 fun _ _=>by simp[cA])]
    show AV.da [cN.dM H' 5 (.sl 11 (jC l' (fI u l' e l'.length)).length),bl (fI u l' e l'.length).isSome,i64 0]=_
    rw[hf1]
  ·unfold ql
   rw[jH hr hm]
   refine cU ?_
   refine aJ (mW u hu hr most hm _ _ _ _) ?_
   rintro r H' n' ⟨rfl,hn,hk⟩
   refine cU ?_
   exact⟨rfl⟩
 ·unfold ql
  rw[lX hr]
  refine cU ?_
  refine aJ (rC u hu hr most _ _ _ _) ?_
  rintro r H' n' ⟨rfl,hn,hk⟩
  refine cU ?_
  exact⟨rfl⟩
end Go.Proofs.YtekfmjjmihomlaaGreat
end
section
/- The order of ends: what sorts them. -/
namespace Go.Proofs.YtekfmjjmihomlaaGreat
open Go Go.cN Go.Proofs
set_option linter.unusedSimpArgs false
set_option linter.unusedVariables false
theorem rT {x y z:Int} (h1:eF x y<0) (h2:eF y z<0):eF x z<0:=by
 unfold eF at *
 repeat' split at *
 all_goals omega
theorem MJ (a b c:Int):jU [a,b,c]<0↔a<0∨a=0∧(b<0∨b=0∧c<0):=by
 simp only[jU]
 repeat' split
 all_goals omega
theorem MI (a b:Int):jU [a,b]<0↔a<0∨a=0∧b<0:=by
 simp only[jU]
 repeat' split
 all_goals omega
theorem ER {p q r:cY} (h1:ef p q<0) (h2:ef q r<0):ef p r<0:=by
 unfold ef at *
 rw[MI] at *
 simp only[iW] at *
 rcases h1 with h1|⟨e1,h1⟩<;>rcases h2 with h2|⟨e2,h2⟩
 ·exact .inl (rT h1 h2)
 ·rw[←e2];exact .inl h1
 ·rw[e1];exact .inl h2
 ·exact .inr ⟨e1.trans e2,rT h1 h2⟩
theorem rU {α:Type} {f:α→α→Int} (hz:∀x y,f x y=0↔x=y) (hf:∀x y z,f x y<0→f y z<0→f x z<0):∀a b c:List α,eC f a b<0→eC f b c<0→eC f a c<0
 |[],[],_,h1,_=>by simp[eC] at h1
 |[],_::_,[],_,h2=>by simp[eC] at h2
 |[],_::_,_::_,_,_=>by simp[eC]
 |_::_,[],_,h1,_=>by simp[eC] at h1
 |_::_,_::_,[],_,h2=>by simp[eC] at h2
 |x::a,y::b,z::c,h1,h2=>by
  rw[eC] at h1 h2 ⊢
  by_cases e1:f x y=0
  ·have:=(hz _ _).1 e1
   subst this
   rw[if_pos e1] at h1
   by_cases e2:f x z=0
   ·rw[if_pos e2] at h2 ⊢
    exact rU hz hf a b c h1 h2
   ·rw[if_neg e2] at h2 ⊢
    exact h2
  ·rw[if_neg e1] at h1
   by_cases e2:f y z=0
   ·have:=(hz _ _).1 e2
    subst this
    rw[if_neg e1]
    exact h1
   ·rw[if_neg e2] at h2
    have h3:=hf _ _ _ h1 h2
    rw[if_neg (by omega)]
    exact h3
theorem EL {a b c:dE} (h1:eB a b<0) (h2:eB b c<0):eB a c<0:=by
 unfold eB at *
 rw[MJ] at *
 simp only[iX (fun x y=>ma),iX (fun x y=>iW)] at *
 have tp:=rU (f:=ef) (fun x y=>ma) (fun x y z=>ER) a.bo b.bo c.bo
 have ti:=rU (f:=eF) (fun x y=>iW) (fun x y z=>rT) a.mem b.mem c.mem
 have tb:p6 a.ended b.ended<0→p6 b.ended c.ended<0→p6 a.ended c.ended<0:=by
  cases a.ended<;>cases b.ended<;>cases c.ended<;>simp[p6]
 rcases h1 with h1|⟨e1,h1⟩<;>rcases h2 with h2|⟨e2,h2⟩
 ·exact .inl (tp h1 h2)
 ·rw[←e2];exact .inl h1
 ·rw[e1];exact .inl h2
 ·refine .inr ⟨e1.trans e2, ?_⟩
  rcases h1 with h1|⟨e1',h1⟩<;>rcases h2 with h2|⟨e2',h2⟩
  ·exact .inl (ti h1 h2)
  ·rw[←e2'];exact .inl h1
  ·rw[e1'];exact .inl h2
  ·exact .inr ⟨e1'.trans e2',tb h1 h2⟩
structure iR {α:Type} (f:α→α→Int):Prop where
 neg:∀x y,f y x=-f x y
 zero:∀x y,f x y=0↔x=y
 tr:∀x y z,f x y<0→f y z<0→f x z<0
theorem rR:iR eB:=⟨AU,fun _ _=>qD,fun _ _ _=>EL⟩
def vH {α:Type} (f:α→α→Int) (x y:α):Bool:=decide (f x y≤0)
theorem iR.KT {α:Type} {f:α→α→Int} (h:iR f) {x y z:α} (h1:vH f x y=true) (h2:vH f y z=true):vH f x z=true:=by
 simp only[vH,decide_eq_true_eq] at *
 by_cases e1:f x y=0
 ·rw[(h.zero _ _).1 e1];exact h2
 ·by_cases e2:f y z=0
  ·rw[←(h.zero _ _).1 e2];exact h1
  ·have:=h.tr x y z (by omega) (by omega);omega
theorem iR.le_total {α:Type} {f:α→α→Int} (h:iR f) (x y:α):(vH f x y||vH f y x)=true:=by
 have:=h.neg x y
 simp only[vH,Bool.or_eq_true,decide_eq_true_eq]
 omega
theorem iR.E6 {α:Type} {f:α→α→Int} (h:iR f) {x y:α} (h1:vH f x y=true) (h2:vH f y x=true):x=y:=by
 have:=h.neg x y
 simp only[vH,decide_eq_true_eq] at *
 exact(h.zero _ _).1 (by omega)
def fA {α:Type} (f:α→α→Int) (l:List α):List α:=l.mergeSort (vH f)
theorem qi {α:Type} (f:α→α→Int) (l:List α):(fA f l).length=l.length:=by simp[fA]
theorem lI {α:Type} (f:α→α→Int) (l:List α):(fA f l).Perm l:=List.mergeSort_perm _ _
theorem iR.sorted {α:Type} {f:α→α→Int} (h:iR f) (l:List α):(fA f l).Pairwise fun x y=>vH f x y=true:=
 List.pairwise_mergeSort (le:=vH f) (fun a b c h1 h2=>h.KT h1 h2) (fun a b=>h.le_total a b) l
theorem iR.GX {α:Type} {f:α→α→Int} (h:iR f) {l l':List α} (hp:l'.Perm l) (hs:l'.Pairwise fun x y=>vH f x y=true):l'=fA f l:=
 List.Perm.eq_of_pairwise (fun a b _ _ h1 h2=>h.E6 h1 h2) hs (h.sorted l) (hp.trans (lI f l).symm)
end Go.Proofs.YtekfmjjmihomlaaGreat
end
