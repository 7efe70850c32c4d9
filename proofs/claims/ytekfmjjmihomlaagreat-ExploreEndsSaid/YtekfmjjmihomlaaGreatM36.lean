import Derived.Test.YtekfmjjmihomlaaGreatM35
section
/- Way: what it does to its list; the way back. -/
namespace Go.Proofs.YtekfmjjmihomlaaGreat
open Go Go.cZ Go.Proofs
set_option linter.unusedSimpArgs false
set_option linter.unusedVariables false
set_option maxRecDepth 8000
def kM (l:List Int) (i:Nat):List Int:=(List.range l.length).map fun q=>if q<i∨l.length≤q+i then l.getD (l.length - 1 - q) 0 else l.getD q 0
theorem gu (l:List Int) (i:Nat):(kM l i).length=l.length:=by simp[kM]
theorem mM {l:List Int} {i q:Nat} (h:q<l.length):(kM l i).getD q 0=if q<i∨l.length≤q+i then l.getD (l.length - 1 - q) 0 else l.getD q 0:=by simp[kM,List.getD,h]
theorem EE (l:List Int):kM l 0=l:=by
 apply List.ext_getElem (gu l 0)
 intro q h1 h2
 have:=mM (l:=l) (i:=0) h2
 rw[if_neg (by omega)] at this
 simpa[List.getD,h1,h2] using this
theorem JK {l:List Int} {i:Nat} (h:l.length≤2 * i+1):kM l i=l.reverse:=by
 apply List.ext_getElem (by simp[gu])
 intro q h1 h2
 have hq:q<l.length:=by simpa using h2
 have:=mM (l:=l) (i:=i) hq
 rw[show(kM l i).getD q 0=(kM l i)[q] by simp[List.getD,h1]] at this
 rw[this,List.getElem_reverse]
 split
 ·simp[List.getD,show l.length - 1 - q<l.length by omega]
 ·have:q=l.length - 1 - q:=by omega
  conv=>lhs;rw[this]
  simp[List.getD,show l.length - 1 - q<l.length by omega]
theorem ED {l:List Int} {i:Nat} (h:2 * i+1<l.length):((kM l i).set i (l.getD (l.length - 1 - i) 0)).set (l.length - 1 - i) (l.getD i 0)=kM l (i+1):=by
 apply List.ext_getElem (by simp[gu])
 intro q h1 h2
 have hq:q<l.length:=by simpa[gu] using h2
 have e1:=mM (l:=l) (i:=i) hq
 have e2:=mM (l:=l) (i:=i+1) hq
 rw[show(kM l (i+1)).getD q 0=(kM l (i+1))[q] by simp[List.getD,h2]] at e2
 rw[show(kM l i).getD q 0=(kM l i)[q]'(by rw[gu];exact hq) by simp[List.getD,gu,hq]] at e1
 rw[e2,List.getElem_set,List.getElem_set,e1]
 by_cases c1:l.length - 1 - i=q
 ·subst c1
  rw[if_pos rfl,if_pos (by omega),show l.length - 1 - (l.length - 1 - i)=i by omega]
 ·rw[if_neg c1]
  by_cases c2:i=q
  ·subst c2
   rw[if_pos rfl,if_pos (by omega)]
  ·rw[if_neg c2]
   by_cases c3:q<i∨l.length≤q+i
   ·rw[if_pos c3,if_pos (by omega)]
   ·rw[if_neg c3,if_neg (by omega)]
set_option maxHeartbeats 1000000 in
theorem vE {b:Nat} {l:List Int} {H:Hp} {nx:Nat} (hb:b<nx) (hl:l.length≤1048576) (r:∃d,bn H b=some (.row 3 1 d (l.map i64))):
 cP Tryz.prog 59 [.sl b l.length] H nx (fun _ H' n=>(∃d,bn H' b=some (.row 3 1 d (l.reverse.map i64)))∧nx≤n∧∀y,y<nx→y≠b→bn H' y=bn H y):=by
 obtain⟨d0,r0'⟩:=r
 refine aQ HY rfl ?_
 have a0:(l.map i64).length=l.length:=by simp
 refine cV ?_
 refine aP (fun σ:Nat×Int=>[(0, .sl b l.length),(2,i64 σ.1),(3,i64 σ.2)]) (fun σ H2 n=>σ.2=(l.length:Int) - 1 - σ.1∧2 * σ.1≤l.length+1∧nx≤n∧(∃d,bn H2 b=some (.row 3 1 d ((kM l σ.1).map i64)))∧∀y,y<nx→y≠b→bn H2 y=bn H y) (fun σ=>l.length - σ.1) (0,(l.length:Int) - 1) cI ⟨by simp,by dsimp only;omega,c8,⟨d0,by rw[EE];exact bq⟩,fun y h1 h2=>cB⟩ ?_
 clear r0' a0
 rintro⟨i,j⟩ H2 n ⟨hj,hi,hn,⟨d,r1⟩,hk⟩
 dsimp only at hj hi r1 ⊢
 have a0:((kM l i).map i64).length=l.length:=by simp[gu]
 by_cases hc:2 * i+1<l.length
 ·obtain⟨jn,rfl⟩:∃jn:Nat,j=jn:=⟨j.toNat,by omega⟩
  have hjn:jn=l.length - 1 - i:=by omega
  have e0:=fun d=>eX (l:=kM l i) (k:=i) (by rw[gu];omega) d
  have e1:=fun d=>eX (l:=kM l i) (k:=jn) (by rw[gu];omega) d
  have e2:∀x d,(((kM l i).map i64).set ((i:Int)).toNat x).getD ((jn:Int)).toNat d=i64 ((kM l i).getD jn 0):=fun x d=>by
   rw[getD_set_ne (by omega)];exact e1 d
  have v0:=mM (l:=l) (i:=i) (q:=i) (by omega)
  rw[if_neg (by omega)] at v0
  have v1:=mM (l:=l) (i:=i) (q:=jn) (by omega)
  rw[if_neg (by omega)] at v1
  rw[v0] at e0
  rw[v1] at e1 e2
  have e3:=e2 (i64 (l.getD jn 0))
  clear e2
  have hnx:=ED hc
  rw[←hjn] at hnx
  refine cV ?_
  refine⟨(i+1,(jn:Int) - 1),by dsimp only;omega,cI,by dsimp only;omega,by dsimp only;omega,c8,⟨_,by dsimp only;rw[←hnx,List.map_set,List.map_set];exact bq⟩,fun y h1 h2=>Eq.trans cB (hk y h1 h2)⟩
 ·refine cV ?_
  rw[JK (by omega)] at r1
  exact⟨⟨d,bq⟩,c8,fun y h1 h2=>Eq.trans cB (hk y h1 h2)⟩
def iY (l:List cQ):Nat→Nat→List Int
 |0,_=>[]
 |f+1,k=>if 0≤(l.getD k default).from_ then(l.getD k default).ch::iY l f (l.getD k default).from_.toNat else[]
theorem gw.ud {u:bt} {l:List cQ} (h:gw u l) {k:Nat} (hk:k<l.length) (h0:0≤(l.getD k default).from_):(l.getD k default).from_.toNat<k∧0<k:=by
 rcases Nat.eq_zero_or_pos k with e|e
 ·subst e;rw[h.first] at h0;exact absurd h0 (by simp)
 ·obtain⟨k',t,h1,_,_,h2⟩:=h.KQ k e hk
  rw[h2]
  exact⟨by dsimp only;omega,e⟩
theorem qg {u:bt} {l:List cQ} (h:gw u l):∀{f g k:Nat},k<l.length→k≤f→k≤g→iY l f k=iY l g k
 |0,0,k,hk,hf,hg=>rfl
 |0,g+1,k,hk,hf,hg=>by
  obtain rfl:k=0:=by omega
  rw[iY,iY,h.first];rfl
 |f+1,0,k,hk,hf,hg=>by
  obtain rfl:k=0:=by omega
  rw[iY,iY,h.first];rfl
 |f+1,g+1,k,hk,hf,hg=>by
  rw[iY,iY]
  split
  ·rename_i h0
   obtain⟨h1,h2⟩:=h.ud hk h0
   rw[qg h (f:=f) (g:=g) (by omega) (by omega) (by omega)]
  ·rfl
abbrev pT (l:List cQ) (k:Nat):List Int:=iY l k k
theorem FL {u:bt} {l:List cQ} (h:gw u l) {k:Nat} (hk:k<l.length) (h0:0≤(l.getD k default).from_):pT l k=(l.getD k default).ch::pT l (l.getD k default).from_.toNat:=by
 obtain⟨h1,h2⟩:=h.ud hk h0
 obtain⟨f,rfl⟩:∃f,k=f+1:=⟨k - 1,by omega⟩
 show iY l (f+1) (f+1)=_
 rw[iY,if_pos h0]
 congr 1
 exact qg h (by omega) (by omega) (Nat.le_refl _)
theorem CP {l:List cQ} {k:Nat} (h0:¬0≤(l.getD k default).from_):pT l k=[]:=by
 show iY l k k=[]
 cases k with
 |zero=>rfl
 |succ f=>rw[iY,if_neg h0]
theorem sr (l:List cQ):∀f k,(iY l f k).length≤f
 |0,k=>Nat.le_refl _
 |f+1,k=>by
  rw[iY]
  split
  ·rw[List.length_cons];have:=sr l f (l.getD k default).from_.toNat;omega
  ·simp
def gT (u:bt) (l:List cQ) (e:cj) (k:Nat):Option Nat:=(List.range k).find? fun i=>(l.getD i default).m.stuck u&&decide (dz ((l.getD i default).m.end_ u) e=0)
theorem zF (u:bt) (l:List cQ) (e:cj) (k:Nat):gT u l e (k+1)=match gT u l e k with
 |some i=>some i
 |none=>if(l.getD k default).m.stuck u&&decide (dz ((l.getD k default).m.end_ u) e=0) then some k else none:=by
 unfold gT
 rw[List.range_succ,List.find?_append]
 cases(List.range k).find? fun i=>(l.getD i default).m.stuck u&&decide (dz ((l.getD i default).m.end_ u) e=0) with
 |some i=>rfl
 |none=>
  simp only[Option.none_or,List.find?_cons,List.find?_nil]
  split<;>simp_all
def kO (l:List cQ):Option Nat→List Int
 |none=>[]
 |some i=>(pT l i).reverse
set_option maxHeartbeats 2000000 in
theorem PL {u:bt} (hr:dC u) {l:List cQ} (hf:gw u l) (hl:l.length≤65536) {e:cj} (he1:e.bu.length * 16≤140737488355328) (he2:e.mem.length * 8≤140737488355328) {k:Nat} (hk:k<l.length) {ub ib eb wb W:Nat} {H:Hp} {nx:Nat} (hn:ub<nx∧ib<nx∧eb<nx∧wb<nx∧W<nx) (hne:ub≠ib∧ub≠wb∧ub≠W∧ib≠eb∧ib≠wb∧ib≠W∧eb≠wb∧eb≠W∧wb≠W)
 (r0:∃d,bn H ub=some (.row 25 3 d [u.av])) (r1:∃d,bn H ib=some (.row 4 1 d [bl (gT u l e k).isSome])) (r2:∃d,bn H eb=some (.row 40 3 d [e.av])) (r3:∃d,bn H wb=some (.row 53 1 d [.sl W (kO l (gT u l e k)).length])) (r4:∃d,bn H W=some (.row 3 1 d ((kO l (gT u l e k)).map i64))):
 cP Tryz.prog 58 [jz u l,i64 k, .pt ub 1 0 0, .pt ib 1 0 0, .pt eb 1 0 0, .pt wb 1 0 0] H nx (fun _ H' n=>(∃d,bn H' ib=some (.row 4 1 d [bl (gT u l e (k+1)).isSome]))∧(∃d,bn H' wb=some (.row 53 1 d [.sl W (kO l (gT u l e (k+1))).length]))∧(∃d,bn H' W=some (.row 3 1 d ((kO l (gT u l e (k+1))).map i64)))∧nx≤n∧∀y,y<nx→y≠ib→y≠wb→y≠W→bn H' y=bn H y):=by
 obtain⟨d0,r0'⟩:=r0
 obtain⟨d1,r1'⟩:=r1
 obtain⟨d2,r2'⟩:=r2
 obtain⟨d3,r3'⟩:=r3
 obtain⟨d4,r4'⟩:=r4
 obtain⟨n0,n1,n2,n3,n4⟩:=hn
 obtain⟨m0,m1,m2,m3,m4,m5,m6,m7,m8⟩:=hne
 obtain⟨hm,hp⟩:=hf.ok k hk
 have e0:∀d,(l.map (cQ.av u)).getD ((k:Int)).toNat d= .agg [(l.getD k default).m.fz u,i64 (l.getD k default).from_,i64 (l.getD k default).ch]:=fun d=>by rw[Int.toNat_natCast];exact dB (cQ.av u) l k d hk
 have a0:(l.map (cQ.av u)).length=l.length:=by simp
 have hgl:=hr.vO
 have hml:=hm.ml
 have c0:=tq u hr (l.getD k default).m hm (by omega) (by omega)
 have c1:=rz ((l.getD k default).m.end_ u) e (by show(l.getD k default).m.bu.length<_;omega) (by show(l.getD k default).m.mem.length<_;omega)
 rw[zF]
 cases hh:gT u l e k with
 |some i=>
  rw[hh] at r1' r3' r4'
  dsimp only
  generalize (l.getD k default).m=m at *
  cases hs:m.stuck u with
  |true=>
   rw[ku,hs] at c0
   refine aQ uk rfl ?_
   refine cV ?_
   exact⟨⟨_,bq⟩,⟨_,bq⟩,⟨_,bq⟩,c8,fun y y1 y2 y3 y4=>cB⟩
  |false=>
   rw[ku,hs] at c0
   refine aQ uk rfl ?_
   refine cV ?_
   exact⟨⟨_,bq⟩,⟨_,bq⟩,⟨_,bq⟩,c8,fun y y1 y2 y3 y4=>cB⟩
 |none=>
  rw[hh] at r1' r3' r4'
  dsimp only
  by_cases hs:(l.getD k default).m.stuck u=true
  ·rw[ku,hs] at c0
   by_cases hc:dz ((l.getD k default).m.end_ u) e=0
   ·rw[hs,decide_eq_true hc,if_pos (by rfl)]
    rw[decide_eq_true hc] at c1
    refine aQ uk rfl ?_
    refine cV ?_
    clear c0 c1 e0 r0' r2'
    have hway:kO l none=[]:=rfl
    rw[hway] at r3' r4'
    refine aP (fun σ:Nat×List Int=>[(0,jz u l),(5, .pt wb 1 0 0),(10,i64 σ.1)])
     (fun σ H2 n=>σ.1<l.length∧σ.2++pT l σ.1=pT l k∧nx≤n∧(∃d,bn H2 ib=some (.row 4 1 d [bl true]))∧(∃d,bn H2 wb=some (.row 53 1 d [.sl W σ.2.length]))∧(∃d,bn H2 W=some (.row 3 1 d (σ.2.map i64)))∧∀y,y<nx→y≠ib→y≠wb→y≠W→bn H2 y=bn H y) (fun σ=>σ.1) (k,[]) cI
     ⟨hk,rfl,c8,⟨_,bq⟩,⟨_,bq⟩,⟨_,bq⟩,fun y y1 y2 y3 y4=>cB⟩ ?_
    clear r1' r3' r4'
    rintro⟨at_,acc⟩ H2 n ⟨hat,hacc,hn2,⟨d1,r1'⟩,⟨d3,r3'⟩,⟨d4,r4'⟩,hkp⟩
    dsimp only at hat hacc r3' r4' ⊢
    have hbl:=sr l k k
    have hal:acc.length≤65536:=by
     have:=congrArg List.length hacc
     rw[List.length_append] at this
     have:(pT l k).length≤k:=hbl
     omega
    have a1:(acc.map i64).length=acc.length:=by simp
    have e0:∀d,(l.map (cQ.av u)).getD ((at_:Int)).toNat d= .agg [(l.getD at_ default).m.fz u,i64 (l.getD at_ default).from_,i64 (l.getD at_ default).ch]:=fun d=>by rw[Int.toNat_natCast];exact dB (cQ.av u) l at_ d hat
    by_cases h0:0≤(l.getD at_ default).from_
    ·obtain⟨hlt,hpos⟩:=hf.ud hat h0
     have hon:=FL hf hat h0
     obtain⟨q,hq⟩:∃q:Nat,(l.getD at_ default).from_=q:=⟨_,(Int.toNat_of_nonneg h0).symm⟩
     rw[hq] at e0 hlt hon
     rw[Int.toNat_natCast] at hlt hon
     have hge:¬(q:Int)<0:=by omega
     refine cV ?_
     refine⟨(q,acc++[(l.getD at_ default).ch]),hlt,cI,by dsimp only;omega,by dsimp only;rw[List.append_assoc,List.singleton_append,←hon];exact hacc,c8,⟨_,bq⟩,⟨_,by dsimp only;rw[List.length_append];exact bq⟩,⟨_,by dsimp only;rw[List.map_append];exact bq⟩,fun y y1 y2 y3 y4=>Eq.trans cB (hkp y y1 y2 y3 y4)⟩
    ·have hon:=CP h0
     rw[hon,List.append_nil] at hacc
     subst hacc
     refine cV ?_
     refine aO (vE (b:=W) (l:=pT l k) ?_ (by omega) ?_) ?_
     ·exact c8
     ·exact⟨_,bq⟩
     rintro _ H3 n3 ⟨⟨d5,r5⟩,hn3,hk3⟩
     have q1:=hk3 ib c8 (by omega)
     have q2:=hk3 wb c8 (by omega)
     refine cV ?_
     exact⟨⟨d1,q1.trans bq⟩,⟨d3,by simp only[kO,List.length_reverse];exact q2.trans bq⟩,⟨d5,bq⟩,c8,fun y y1 y2 y3 y4=>(hk3 y c8 y4).trans (Eq.trans cB (hkp y y1 y2 y3 y4))⟩
   ·rw[hs,decide_eq_false hc,if_neg (by decide)]
    rw[decide_eq_false hc] at c1
    refine aQ uk rfl ?_
    refine cV ?_
    exact⟨⟨_,bq⟩,⟨_,bq⟩,⟨_,bq⟩,c8,fun y y1 y2 y3 y4=>cB⟩
  ·have hs2:(l.getD k default).m.stuck u=false:=by simpa using hs
   rw[ku,hs2] at c0
   rw[hs2,Bool.false_and,if_neg (by decide)]
   refine aQ uk rfl ?_
   refine cV ?_
   exact⟨⟨_,bq⟩,⟨_,bq⟩,⟨_,bq⟩,c8,fun y y1 y2 y3 y4=>cB⟩
end Go.Proofs.YtekfmjjmihomlaaGreat
end
section
/- Way: the walk. -/
namespace Go.Proofs.YtekfmjjmihomlaaGreat
open Go Go.cZ Go.Proofs
set_option linter.unusedSimpArgs false
set_option linter.unusedVariables false
set_option maxRecDepth 8000
theorem P9 {te e:TypeId} {sz b nx:Nat} {H:Hp} {d:AV} (hb:b<nx) (hsz:0<sz) (h:bn H b=some (.row te 1 d [.sc (.slice none 0 0)])):∃H2,Wk .any H nx .any H2 (nx+1)∧bn H2 b=some (.row te 1 .any [.sl nx 0])∧bn H2 nx=some (.row e sz .any [])∧∀y,y<nx→y≠b→bn H2 y=bn H y:=by
 refine⟨lP te e sz b 1 nx H,Wk.born hb hsz h, ?_, ?_,fun y y1 y2=>FM y1 y2⟩
 ·rw[lP,cO,tv];rfl
 ·rw[lP,cG (by omega),kC,if_pos (by omega)]
noncomputable def uC (u:bt) (most:Int) (e:cj):AV:=
 if(gB u most).1=0 then .dV [cm (kO (gB u most).2 (gT u (gB u most).2 e (gB u most).2.length)),bl (gT u (gB u most).2 e (gB u most).2.length).isSome,i64 0] else .dV [.sc (.slice none 0 0),bl false,i64 (gB u most).1]
theorem NK {P:Program} {f:FuncId} {args:List AV} {te:TypeId} (e:TypeId) (sz:Nat) {b nx:Nat} {H:Hp} {d:AV} {R:AV→Hp→Nat→Prop} (hb:b<nx) (hsz:0<sz) (h:bn H b=some (.row te 1 d [.sc (.slice none 0 0)]))
 (k:∀H2,bn H2 b=some (.row te 1 .any [.sl nx 0])→bn H2 nx=some (.row e sz .any [])→(∀y,y<nx→y≠b→bn H2 y=bn H y)→cP P f args H2 (nx+1) R):cP P f args H nx R:=by
 obtain⟨H2,hw,q1,q2,q3⟩:=P9 hb hsz h
 exact cP.J0 (k H2 q1 q2 q3) (hw.same _)
def CG (u:bt) (most:Int) (I:Nat→Hp→Prop) (r:AV) (H:Hp):Prop:=
 match gN u most.toNat with
 |none=>r= .dV [i64 0,i64 3]
 |some l=>r= .dV [i64 l.length,i64 0]∧I l.length H
theorem KD.short {u:bt} {most:Int} {I:Nat→Hp→Prop} {nx:Nat} {H0:Hp} {r:AV} {H:Hp} {n:Nat} (h:KD u most I nx H0 r H n):CG u most I r H:=by
 obtain⟨_,h⟩:=h
 unfold CG
 revert h
 cases gN u most.toNat with
 |none=>exact fun h=>h.1
 |some l=>exact id
set_option maxHeartbeats 2000000 in
theorem J6 (u:bt) (hu:u.Wf) (most:Int) (e:cj) (he1:e.bu.length * 16≤140737488355328) (he2:e.mem.length * 8≤140737488355328):Pure Tryz.prog 25 [u.av,i64 most,e.av] (fun r=>r=uC u most e):=by
 refine dY ?_ (by unfold uC;split<;>simp[cE,cT,cC])
 refine aQ HA rfl ?_
 have hnil:cm []= .im 1 .any []:=rfl
 by_cases hr:dC u
 ·by_cases hm:1≤most∧most≤65536
  ·unfold uC
   rw[j3 hr hm]
   refine cV ?_
   let l:=(gN u most.toNat).getD []
   let I:Nat→Hp→Prop:=fun k H=>(∃d,bn H 0=some (.row 25 3 d [u.av]))∧(∃d,bn H 6=some (.row 4 1 d [bl (gT u l e k).isSome]))∧(∃d,bn H 1=some (.row 40 3 d [e.av]))∧(∃d,bn H 5=some (.row 53 1 d [.sl 11 (kO l (gT u l e k)).length]))∧(∃d,bn H 11=some (.row 3 1 d ((kO l (gT u l e k)).map i64)))
   refine aO (R:=fun r H n=>12≤n∧CG u most I r H) (NK (b:=5) 3 1 (by omega) (by omega) (d:=fZ false [.slice none 0 0]) (te:=53) ?_ fun H2 q1 q2 q3=> ?_) ?_
   ·exact bq
   ·refine(qb u hu hr most hm _ [.pt 0 1 0 0, .pt 6 1 0 0, .pt 1 1 0 0, .pt 5 1 0 0] H2 12 I ?_ ?_ ?_).mono fun r H n h=>⟨h.1,h.short⟩
    ·exact⟨⟨_,(q3 0 (by omega) (by omega)).trans bq⟩,⟨_,(q3 6 (by omega) (by omega)).trans bq⟩,⟨_,(q3 1 (by omega) (by omega)).trans bq⟩,⟨_,q1⟩,⟨_,q2⟩⟩
    ·rintro k H H' ⟨⟨d0,p0⟩,⟨d1,p1⟩,⟨d2,p2⟩,⟨d3,p3⟩,⟨d4,p4⟩⟩ hk
     exact⟨⟨d0,(hk 0 (by omega)).trans p0⟩,⟨d1,(hk 6 (by omega)).trans p1⟩,⟨d2,(hk 1 (by omega)).trans p2⟩,⟨d3,(hk 5 (by omega)).trans p3⟩,⟨d4,(hk 11 (by omega)).trans p4⟩⟩
    ·intro l' hl' k H n hk hn ⟨p0,p1,p2,p3,p4⟩
     have hll:l=l':=by show(gN u most.toNat).getD []=l';rw[hl'];rfl
     rw[hll] at p1 p3 p4
     obtain⟨hf,hlm,_⟩:=qE hu hr (by omega) hl'
     refine(PL hr hf (by omega) he1 he2 hk (ub:=0) (ib:=6) (eb:=1) (wb:=5) (W:=11) ⟨by omega,by omega,by omega,by omega,by omega⟩ ⟨by omega,by omega,by omega,by omega,by omega,by omega,by omega,by omega,by omega⟩ p0 p1 p2 p3 p4).mono ?_
     rintro _ H' n' ⟨s1,s2,s3,s4,s5⟩
     obtain⟨d0,p0⟩:=p0
     obtain⟨d2,p2⟩:=p2
     refine⟨⟨⟨d0,(s5 0 (by omega) (by omega) (by omega) (by omega)).trans p0⟩, ?_,⟨d2,(s5 1 (by omega) (by omega) (by omega) (by omega)).trans p2⟩, ?_, ?_⟩,s4,fun y y1 y2=>s5 y y2 (by omega) (by omega) (by omega)⟩
     ·rw[hll];exact s1
     ·rw[hll];exact s2
     ·rw[hll];exact s3
   rintro r H' n' ⟨hn,hA⟩
   revert hA
   unfold CG
   cases hs:gN u most.toNat with
   |none=>
    rintro rfl
    refine cV ?_
    exact⟨rfl⟩
   |some l'=>
    rintro⟨rfl,⟨d0,p0⟩,⟨d1,p1⟩,⟨d2,p2⟩,⟨d3,p3⟩,⟨d4,p4⟩⟩
    have hll:l=l':=by show(gN u most.toNat).getD []=l';rw[hs];rfl
    rw[hll] at p1 p3 p4
    refine cV ?_
    refine⟨?_⟩
    dsimp only
    rw[if_pos rfl]
    have hf1:cZ.dX H' 5 (.sl 11 (kO l' (gT u l' e l'.length)).length)=cm (kO l' (gT u l' e l'.length)):=by
     rw[dF (k:=4) p4 (by simp),cc _ ((cC _ _).2 fun _ _=>by simp[cE])]
    show AV.dV [cZ.dX H' 5 (.sl 11 (kO l' (gT u l' e l'.length)).length),bl (gT u l' e l'.length).isSome,i64 0]=_
    rw[hf1]
  ·unfold uC
   rw[jL hr hm]
   refine cV ?_
   refine aO (oi u hu hr most hm _ _ _ _) ?_
   rintro r H' n' ⟨rfl,hn,hk⟩
   refine cV ?_
   exact⟨rfl⟩
 ·unfold uC
  rw[lM hr]
  refine cV ?_
  refine aO (uP u hu hr most _ _ _ _) ?_
  rintro r H' n' ⟨rfl,hn,hk⟩
  refine cV ?_
  exact⟨rfl⟩
end Go.Proofs.YtekfmjjmihomlaaGreat
end
section
/- The order of ends: what sorts them. -/
namespace Go.Proofs.YtekfmjjmihomlaaGreat
open Go Go.cZ Go.Proofs
set_option linter.unusedSimpArgs false
set_option linter.unusedVariables false
theorem uZ {x y z:Int} (h1:fD x y<0) (h2:fD y z<0):fD x z<0:=by
 unfold fD at *
 repeat' split at *
 all_goals omega
theorem SD (a b c:Int):kr [a,b,c]<0↔a<0∨a=0∧(b<0∨b=0∧c<0):=by
 simp only[kr]
 repeat' split
 all_goals omega
theorem SC (a b:Int):kr [a,b]<0↔a<0∨a=0∧b<0:=by
 simp only[kr]
 repeat' split
 all_goals omega
theorem KX {p q r:cg} (h1:fp p q<0) (h2:fp q r<0):fp p r<0:=by
 unfold fp at *
 rw[SC] at *
 simp only[jw] at *
 rcases h1 with h1|⟨e1,h1⟩<;>rcases h2 with h2|⟨e2,h2⟩
 ·exact .inl (uZ h1 h2)
 ·rw[←e2];exact .inl h1
 ·rw[e1];exact .inl h2
 ·exact .inr ⟨e1.trans e2,uZ h1 h2⟩
theorem u0 {α:Type} {f:α→α→Int} (hz:∀x y,f x y=0↔x=y) (hf:∀x y z,f x y<0→f y z<0→f x z<0):∀a b c:List α,er f a b<0→er f b c<0→er f a c<0
 |[],[],_,h1,_=>by simp[er] at h1
 |[],_::_,[],_,h2=>by simp[er] at h2
 |[],_::_,_::_,_,_=>by simp[er]
 |_::_,[],_,h1,_=>by simp[er] at h1
 |_::_,_::_,[],_,h2=>by simp[er] at h2
 |x::a,y::b,z::c,h1,h2=>by
  rw[er] at h1 h2 ⊢
  by_cases e1:f x y=0
  ·have:=(hz _ _).1 e1
   subst this
   rw[if_pos e1] at h1
   by_cases e2:f x z=0
   ·rw[if_pos e2] at h2 ⊢
    exact u0 hz hf a b c h1 h2
   ·rw[if_neg e2] at h2 ⊢
    exact h2
  ·rw[if_neg e1] at h1
   by_cases e2:f y z=0
   ·have:=(hz _ _).1 e2
    subst this
    rw[if_neg e1]
    exact h1
   ·rw[if_neg e2] at h2
    have h3:=hf _ _ _ h1 h2
    rw[if_neg (by omega)]
    exact h3
theorem KS {a b c:cj} (h1:dz a b<0) (h2:dz b c<0):dz a c<0:=by
 unfold dz at *
 rw[SD] at *
 simp only[jx (fun x y=>oo),jx (fun x y=>jw)] at *
 have tp:=u0 (f:=fp) (fun x y=>oo) (fun x y z=>KX) a.bu b.bu c.bu
 have ti:=u0 (f:=fD) (fun x y=>jw) (fun x y z=>uZ) a.mem b.mem c.mem
 have tb:sR a.ended b.ended<0→sR b.ended c.ended<0→sR a.ended c.ended<0:=by
  cases a.ended<;>cases b.ended<;>cases c.ended<;>simp[sR]
 rcases h1 with h1|⟨e1,h1⟩<;>rcases h2 with h2|⟨e2,h2⟩
 ·exact .inl (tp h1 h2)
 ·rw[←e2];exact .inl h1
 ·rw[e1];exact .inl h2
 ·refine .inr ⟨e1.trans e2, ?_⟩
  rcases h1 with h1|⟨e1',h1⟩<;>rcases h2 with h2|⟨e2',h2⟩
  ·exact .inl (ti h1 h2)
  ·rw[←e2'];exact .inl h1
  ·rw[e1'];exact .inl h2
  ·exact .inr ⟨e1'.trans e2',tb h1 h2⟩
structure jq {α:Type} (f:α→α→Int):Prop where
 neg:∀x y,f y x=-f x y
 zero:∀x y,f x y=0↔x=y
 tr:∀x y z,f x y<0→f y z<0→f x z<0
theorem gJ:jq dz:=⟨FP,fun _ _=>tB,fun _ _ _=>KS⟩
def tf {α:Type} (f:α→α→Int) (x y:α):Bool:=decide (f x y≤0)
theorem jq.QS {α:Type} {f:α→α→Int} (h:jq f) {x y z:α} (h1:tf f x y=true) (h2:tf f y z=true):tf f x z=true:=by
 simp only[tf,decide_eq_true_eq] at *
 by_cases e1:f x y=0
 ·rw[(h.zero _ _).1 e1];exact h2
 ·by_cases e2:f y z=0
  ·rw[←(h.zero _ _).1 e2];exact h1
  ·have:=h.tr x y z (by omega) (by omega);omega
theorem jq.le_total {α:Type} {f:α→α→Int} (h:jq f) (x y:α):(tf f x y||tf f y x)=true:=by
 have:=h.neg x y
 simp only[tf,Bool.or_eq_true,decide_eq_true_eq]
 omega
theorem jq.BE {α:Type} {f:α→α→Int} (h:jq f) {x y:α} (h1:tf f x y=true) (h2:tf f y x=true):x=y:=by
 have:=h.neg x y
 simp only[tf,decide_eq_true_eq] at *
 exact(h.zero _ _).1 (by omega)
def gH {α:Type} (f:α→α→Int) (l:List α):List α:=l.mergeSort (tf f)
theorem pM {α:Type} (f:α→α→Int) (l:List α):(gH f l).length=l.length:=by simp[gH]
theorem nN {α:Type} (f:α→α→Int) (l:List α):(gH f l).Perm l:=List.mergeSort_perm _ _
theorem jq.sorted {α:Type} {f:α→α→Int} (h:jq f) (l:List α):(gH f l).Pairwise fun x y=>tf f x y=true:=
 List.pairwise_mergeSort (le:=tf f) (fun a b c h1 h2=>h.QS h1 h2) (fun a b=>h.le_total a b) l
theorem jq.MQ {α:Type} {f:α→α→Int} (h:jq f) {l l':List α} (hp:l'.Perm l) (hs:l'.Pairwise fun x y=>tf f x y=true):l'=gH f l:=
 List.Perm.eq_of_pairwise (fun a b _ _ h1 h2=>h.BE h1 h2) hs (h.sorted l) (hp.trans (nN f l).symm)
end Go.Proofs.YtekfmjjmihomlaaGreat
end
