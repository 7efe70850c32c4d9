import Derived.Test.YtekfmjjmihomlaaGreatM32
import Derived.Test.YtekfmjjmihomlaaGreatM33
import Derived.Test.YtekfmjjmihomlaaGreatM34
import Derived.Lib.ItoaLen
import Derived.Test.YtekfmjjmihomlaaGreatM30
section
/- A machine in rows told by value, within a list of what was found. -/
namespace Go.Proofs.YtekfmjjmihomlaaGreat
open Go Go.cO Go.Proofs
set_option linter.unusedSimpArgs false
set_option linter.unusedVariables false
set_option maxRecDepth 8000
def jt (S:List Nat) (H:Hp):Hp:=S.map fun y=>(y,bd H y)
theorem u7 {S:List Nat} {H:Hp} {y:Nat} (h:y∈S):bd (jt S H) y=bd H y:=by
 induction S with
 |nil=>cases h
 |cons x S ih=>
  rw[jt,List.map_cons]
  by_cases e:y=x
  ·subst e;exact cS _ _ _
  ·rw[cE e]
   exact ih (by simpa[e] using h)
theorem zW {S:List Nat} {H:Hp} {y:Nat} {q:dj} (h:bd (jt S H) y=some q):bd H y=some q:=by
 have:y∈S:=by
  have:=lZ h
  simpa[jt] using this
 rw[u7 this] at h;exact h
theorem da {S:List Nat} {H H2:Hp} {y:Nat} (h:y∉S):bd (kY (jt S H) H2) y=bd H2 y:=fC (by simpa[jt] using h)
section
variable {u:bh} {m:MS} {L:ML} {H:Hp}
theorem ML.At.qI (h:L.At u m H) (k:Nat):Go.cO.fx (jt L.all H) (k+4) (.pt L.mr 1 0 0)=m.fz u:=by
 have h:=h.cD (H':=jt L.all H) fun y hy=>u7 hy
 generalize jt L.all H=G at *
 obtain⟨d1,h1⟩:=h.rM
 obtain⟨d2,h2⟩:=h.rA
 obtain⟨d3,h3⟩:=h.rS
 obtain⟨d4,h4⟩:=h.rE
 obtain⟨d5,h5⟩:=h.rH
 obtain⟨d6,h6⟩:=h.rP
 have hsl:(dc L.ids m.bg).length=m.bg.length:=qT h.len
 have hs:(dc L.ids m.bg).map (Go.cO.fx G (k+1))=m.bg.map ct:=by
  apply List.ext_getElem (by simp[hsl])
  intro t q1 q2
  have ht:t<m.bg.length:=by simpa using q2
  have hti:t<L.ids.length:=by rw[h.len];exact ht
  obtain⟨d,hd⟩:=h.rL t ht
  rw[show L.ids.getD t 0=L.ids[t] by simp[List.getD,hti],show m.bg.getD t []=m.bg[t] by simp[List.getD,ht]] at hd
  rw[List.getElem_map,List.getElem_map]
  simp only[dc,List.getElem_map,List.getElem_zip]
  rw[kH hd (by simp),ed _ ((cA _ _).2 fun _ _=>by simp[bz])]
 rw[show Go.cO.fx G (k+4) (.pt L.mr 1 0 0)= .ip 8 .any ([m.rows u L.a L.s L.me L.ho L.pr].map (Go.cO.fx G (k+3))) 0 0 from EM h1 rfl]
 simp only[List.map_cons,List.map_nil,MS.rows]
 rw[sx]
 simp only[List.map_cons,List.map_nil]
 rw[kH h2 (by simp),kH h3 hsl,kH h4 (by simp),kH h5 (by simp),kH h6 (by simp),hs]
 rw[ed _ ((cA _ _).2 fun _ _=>by simp[bz]),ed _ ((cA _ _).2 fun _ _=>by simp[bz]),ed _ ((cA _ _).2 fun _ _=>by simp[bz]),ed _ ((cA _ _).2 fun _ _=>by simp[bz])]
 rw[ic _ (show bz 0 (cV u.shared) by simp[bz,cA]),ic _ (show bz 0 (cV u.bx) by simp[bz,cA]),ic _ (show bz 0 (dU u.bj) by simp[bz,cA])]
 rfl
end
def cI.cells (u:bh) (f:cI):List AV:=[f.m.fz u,i64 f.from_,i64 f.cP]
abbrev cI.av (u:bh) (f:cI):AV:= .agg (f.cells u)
abbrev iW (u:bh) (l:List cI):AV:= .im 3 .any (l.map (cI.av u))
@[simp] theorem yT (n:Nat) (u:bh) (f:cI):cK n (f.cells u):=by
  have:=mS n u f.m
  simp[cI.cells,cK,bz]
theorem vQ (u:bh) (l:List cI):cK 0 (l.map (cI.av u)):=(cA _ _).2 fun _ _=>by simp only[cI.av,bz];exact yT _ _ _
theorem qC {u:bh} {m:MS} {L:ML} {H:Hp} {lb nx:Nat} {d:AV} {l:List cI} {fr th:Int} (hM:L.At u m H) (hl:bd H lb=some (.row 75 3 d (l.map (cI.av u)++[.agg [.pt L.mr 1 0 0,i64 fr,i64 th]]))) (hlb:lb∉L.all):
 Wk .any H nx .any (kY (jt L.all H) ((lb,some (.row 75 3 .any ((l++[(⟨m,fr,th⟩:cI)]).map (cI.av u))))::H)) nx:=by
 have:=Wk.fx (nx:=nx) (jt L.all H) 5 .any hl (fun b q hq=>zW hq)
 rw[List.map_append,ed _ (vQ u l),List.map_cons,List.map_nil,sx,List.map_cons,List.map_cons,List.map_cons,List.map_nil,hM.qI 0,ic _ (show bz 0 (i64 fr) by simp[bz]),ic _ (show bz 0 (i64 th) by simp[bz])] at this
 rw[List.map_append]
 exact this
end Go.Proofs.YtekfmjjmihomlaaGreat
end
section
/- Keys are short, and tell situations apart as texts do. -/
namespace Go.Proofs.YtekfmjjmihomlaaGreat
open Go Go.cO Go.Proofs
set_option linter.unusedSimpArgs false
set_option linter.unusedVariables false
theorem kF {α:Type} (f:α→List UInt8) (k:Nat):∀l:List α,(∀a∈l,(f a).length≤k)→(l.flatMap f).length≤l.length * k
 |[],_=>by simp
 |a::l,h=>by
  have h1:=kF f k l fun b hb=>h b (by simp[hb])
  have h2:=h a (by simp)
  rw[List.flatMap_cons,List.length_append,List.length_cons,Nat.add_mul]
  omega
theorem kN {x:Int} (e:List UInt8) (h:dR x):(dv x e).length≤21+e.length:=by
 have:=Go.Lib.itoa_length_le x h.1 (by have:=h.2;omega)
 unfold dv
 rw[List.length_append]
 omega
theorem eH.IP {u:bh} {m:MS} (hr:cr u) (h:eH u m):(fg m).length≤100000000+m.bn.length * 50:=by
 have hf:=hr.AR
 have hal:=h.nw
 have hml:=h.ml
 have hhl:=h.hl
 have hn:∀t,t<u.bj.length→(u.gr t).nodes.length≤4096∧(u.gr t).bg≤4160:=fun t ht=>⟨(hr.gr ht).len.2,(hr.gr ht).bg.2⟩
 have h1:((List.range m.at_.length).flatMap (rq m)).length≤(List.range m.at_.length).length * 100000:=by
  refine kF _ _ _ fun t ht=> ?_
  have ht:=List.mem_range.1 ht
  have hat:=h.fp t (by omega)
  obtain⟨n1,n2⟩:=hn t (by omega)
  have hs:=h.wQ t (by omega)
  have a1:=kN (x:=m.at_.getD t 0) [44] ⟨by omega,by omega⟩
  have a2:=kF (fun w=>dv w [44]) 22 (m.bg.getD t []) fun w hw=>kN [44] (h.wR t (by omega) w hw)
  have e:(rq m t).length=(dv (m.at_.getD t 0) [44]).length+((m.bg.getD t []).flatMap (fun w=>dv w [44])).length+1:=by simp only[rq,List.length_append,List.length_cons,List.length_nil]
  simp only[List.length_cons,List.length_nil] at a1
  rw[e]
  omega
 rw[List.length_range] at h1
 have h2:=kF (fun w=>dv w [44]) 22 m.mem fun w hw=>kN [44] (h.mw w hw)
 have h3:=kF (fun w=>dv w [44]) 22 m.hold fun w hw=>kN [44] (by have:=h.hw w hw;exact⟨by omega,by omega⟩)
 have h4:=kF zF 50 m.bn fun p hp=>by
  obtain⟨p1,p2,p3⟩:=h.pw p hp
  have a1:=kN (x:=p.cP) [58] ⟨by omega,by omega⟩
  have a2:=kN (x:=p.word) [44] p3
  simp only[List.length_cons,List.length_nil] at a1 a2
  unfold zF
  rw[List.length_append]
  omega
 rw[rN]
 omega
theorem eH.LD {u:bh} {m:MS} (hr:cr u) (h:eH u m) (hp:m.bn.length≤1048576):MA m:=by
 have hf:=hr.AR
 refine⟨fun w hw=> ?_,by rw[h.sl,h.nw],fun l hl w hw=> ?_,h.mw,fun w hw=> ?_,fun p hp=> ?_, ?_⟩
 ·obtain⟨t,ht,rfl⟩:=List.mem_iff_getElem.1 hw
  have h1:=h.fp t (by rw[←h.nw];exact ht)
  have h2:=(hr.gr (t:=t) (by rw[←h.nw];exact ht)).len.2
  rw[show m.at_.getD t 0=m.at_[t] by simp[List.getD,ht]] at h1
  exact⟨by omega,by omega⟩
 ·obtain⟨t,ht,rfl⟩:=List.mem_iff_getElem.1 hl
  have:=h.wR t (by rw[←h.sl];exact ht) w
  rw[show m.bg.getD t []=m.bg[t] by simp[List.getD,ht]] at this
  exact this hw
 ·have:=h.hw w hw
  exact⟨by omega,by omega⟩
 ·obtain⟨p1,p2,p3⟩:=h.pw p hp
  exact⟨⟨by omega,by omega⟩,p3⟩
 ·have:=h.IP hr
  omega
theorem GZ {a b:List UInt8} (h:jB a=jB b):a=b:=by
 have:=congrArg (fun x:ByteArray=>x.data.toList) h
 simpa[jB] using this
abbrev gh (l:List cI):List (ByteArray×Int):=l.map fun f=>(jB (fg f.m),1)
abbrev lB (l:List cI):List AV:=mb (fun s:ByteArray=>Value.string s) i64 (gh l)
theorem o9 (l:List cI) (k:List UInt8):du (gh l) (jB k)=if k∈jg l then some 1 else none:=by
 split
 ·rename_i h
  cases hl:du (gh l) (jB k) with
  |none=>
   exfalso
   refine(mY _ _).1 hl ?_
   rw[List.map_map]
   obtain⟨f,h1,h2⟩:=List.mem_map.1 h
   exact List.mem_map.2 ⟨f,h1,by simp only[Function.comp];rw[h2]⟩
  |some v=>
   have hv:∀(l:List cI),du (gh l) (jB k)=some v→v=1:=by
    intro l
    induction l with
    |nil=>intro h;cases h
    |cons f l ih=>
     intro h
     rw[gh,List.map_cons,du] at h
     split at h
     ·cases h;rfl
     ·exact ih h
   rw[hv l hl]
 ·rename_i h
  refine(mY _ _).2 fun hm=>h ?_
  rw[List.map_map] at hm
  obtain⟨f,h1,h2⟩:=List.mem_map.1 hm
  simp only[Function.comp] at h2
  exact List.mem_map.2 ⟨f,h1,GZ h2⟩
theorem yj {l:List cI} {m:MS} {a b:Int} (h:fg m∉jg l):gJ (gh l) (jB (fg m)) 1=gh (l++[⟨m,a,b⟩]):=by
 have key:∀E:List (ByteArray×Int),du E (jB (fg m))=none→gJ E (jB (fg m)) 1=E++[(jB (fg m),1)]:=by
  intro E
  induction E with
  |nil=>intro _;rfl
  |cons p E ih=>
   intro hn
   obtain⟨x,y⟩:=p
   rw[du] at hn
   rw[gJ]
   split at hn
   ·cases hn
   ·rename_i hx
    rw[if_neg hx,ih hn];rfl
 rw[key _ (by rw[o9,if_neg h]),gh,gh,List.map_append];rfl
end Go.Proofs.YtekfmjjmihomlaaGreat
end
section
/- All situations: the walk. -/
namespace Go.Proofs.YtekfmjjmihomlaaGreat
open Go Go.cO Go.Proofs
set_option linter.unusedSimpArgs false
set_option linter.unusedVariables false
set_option maxRecDepth 8000
theorem qi (u:bh) (hu:u.Wf) (hr:¬cr u) (most:Int) (g:Nat) (caps:List AV) (H0:Hp) (nx:Nat):cC Tryz.prog 32 [u.av,i64 most, .fn (.func g) [] caps] H0 nx (fun r H n=>r= .dY [i64 0,i64 60]∧nx≤n∧∀y,y<nx→bd H y=bd H0 y):=by
 have c0:=FZ u hu hr
 refine aQ ve rfl ?_
 refine cW ?_
 exact⟨⟨rfl,cX,fun y hy=>br⟩⟩
theorem mN (u:bh) (hu:u.Wf) (hr:cr u) (most:Int) (hm:¬(1≤most∧most≤65536)) (g:Nat) (caps:List AV) (H0:Hp) (nx:Nat):cC Tryz.prog 32 [u.av,i64 most, .fn (.func g) [] caps] H0 nx (fun r H n=>r= .dY [i64 0,i64 2]∧nx≤n∧∀y,y<nx→bd H y=bd H0 y):=by
 refine aQ ve rfl ?_
 refine cW ?_
 refine aJ (uJ u hu hr _ _) ?_
 rintro r H1 n1 ⟨L,rfl,hM,hlt,hn1,hk1⟩
 by_cases h1:most<1
 ·refine cW ?_
  exact⟨⟨rfl,cX,fun y hy=>Eq.trans br ((hk1 y cX).trans br)⟩⟩
 ·have h2:65536<most:=by omega
  refine cW ?_
  exact⟨⟨rfl,cX,fun y hy=>Eq.trans br ((hk1 y cX).trans br)⟩⟩
theorem vF (u:bh) (hr:cr u) (m:MS) (h:eH u m) (hp:m.bn.length≤1048576) (H0:Hp) (nx:Nat):cC Tryz.prog 65 [m.fz u] H0 nx (fun r H n=>∃L:ML,r= .pt L.mr 1 0 0∧L.At u m H∧(∀x∈L.all,nx≤x∧x<n)∧nx≤n∧∀y,y<nx→bd H y=bd H0 y):=by
 have hgl:=hr.AR
 refine(vG u m (by have:=h.nw;omega) (by have:=h.ml;omega) (by have:=h.hl;omega) hp (by have:=h.sl;omega) (fun x hx=> ?_) H0 nx).mono ?_
 ·obtain⟨s,hs,rfl⟩:=List.mem_iff_getElem.1 hx
  have h1:=h.wQ s (by rw[←h.sl];exact hs)
  have h2:=(hr.gr (t:=s) (by rw[←h.sl];exact hs)).bg.2
  rw[show m.bg.getD s []=m.bg[s] by simp[List.getD,hs]] at h1
  omega
 ·rintro r H n ⟨mr,a,s,me,ho,pr,ids,rfl,h1,h2,h3,h4⟩
  exact⟨⟨mr,a,s,me,ho,pr,ids⟩,rfl,h1,h2,h3,h4⟩
def DQ (u:bh) (most:Int) (I:Nat→Hp→Prop) (nx:Nat) (H0:Hp) (r:AV) (H:Hp) (n:Nat):Prop:=
 nx≤n∧match gX u most.toNat with
 |none=>r= .dY [i64 0,i64 3]∧∀y,y<nx→bd H y=bd H0 y
 |some l=>r= .dY [i64 l.length,i64 0]∧I l.length H
set_option maxHeartbeats 4000000 in
theorem np (u:bh) (hu:u.Wf) (hr:cr u) (most:Int) (hm:1≤most∧most≤65536) (g:Nat) (caps:List AV) (H0:Hp) (nx:Nat) (I:Nat→Hp→Prop) (hI0:I 0 H0) (hst:∀k H H',I k H→(∀y,y<nx→bd H' y=bd H y)→I k H')
 (hcl:∀l,gX u most.toNat=some l→∀k H n,k<l.length→nx≤n→I k H→cC Tryz.prog g ([iW u l,i64 k]++caps) H n (fun _ H' n'=>I (k+1) H'∧n≤n'∧∀y,nx≤y→y<n→bd H' y=bd H y)):
 cC Tryz.prog 32 [u.av,i64 most, .fn (.func g) [] caps] H0 nx (DQ u most I nx H0):=by
 obtain⟨mo,rfl⟩:∃mo:Nat,most=mo:=⟨most.toNat,by omega⟩
 have hgl:=hr.AR
 unfold DQ
 rw[Int.toNat_natCast] at hcl ⊢
 refine aQ ve rfl ?_
 refine cW ?_
 refine aJ (uJ u hu hr _ _) ?_
 rintro r H1 n1 ⟨L,rfl,hM,hlt,hn1,hk1⟩
 have hF:=gV.init u hu hr
 have hm0:=(hF.ok 0 hF.pos).1
 have hm0':(List.getD (iK u) 0 default).m=dV u:=rfl
 rw[hm0'] at hm0
 have g0:uH true (Value.string (jB (fg (dV u)))) [] (i64 1)=some (lB (iK u)):=rfl
 have h65:(65536:Int)<mo→False:=by omega
 refine cW ?_
 refine aT (rK u (dV u) (hm0.LD hr (by simp[dV]))) (args2:=[(dV u).fz u]) ?_ (by simp[cK,mS]) trivial ?_
 ·rw[List.map_cons,List.map_nil]
  congr 1
  exact(hM.cD fun y hy=>by have:=hlt y hy;exact br).yW 2
 refine cW ?_
 have hno:∀y,y<nx+1∨n1≤y→y∉L.all:=fun y hy hm=>by have:=hlt y hm;omega
 refine aU (fun σ:Nat×List cI=>[(1,i64 mo),(2, .fn (.func g) [] caps),(3, .pt nx 1 0 0),(10, .sl (n1+15) σ.2.length),(11, .mp (n1+17)),(12,i64 σ.1)])
  (fun σ H n=>σ.1≤σ.2.length∧σ.2.length≤mo∧gV u σ.2∧sF u mo (mo - σ.1) σ.1 σ.2=gX u mo∧n1+23≤n∧(∃d,bd H nx=some (.row 25 3 d [u.av]))∧(∃d,bd H (n1+15)=some (.row 75 3 d (σ.2.map (cI.av u))))∧(∃e d,bd H (n1+17)=some (.row e 0 d (mapA (lB σ.2))))∧∀y,y<nx→bd H y=bd H0 y) (fun σ=>mo - σ.1) (0,iK u)
  ⟨_,_,_,Rt.wk (qC (lb:=n1+15) (l:=[]) (fr:=-1) (th:=0) (hM.cD ?_) bf (hno _ (by omega))),cM,Nat.zero_le _,by show 1≤mo;omega,hF,rfl,cX,⟨_,(da (hno _ (by omega))).trans (Eq.trans br ((hk1 nx (by omega)).trans bf))⟩,⟨_,(da (hno _ (by omega))).trans bf⟩,⟨_,_,(da (hno _ (by omega))).trans bf⟩,fun y hy=>(da (hno _ (by omega))).trans (Eq.trans br ((hk1 y cX).trans br))⟩ ?_
 ·intro y hy
  have:=hlt y hy
  exact br
 clear hM hlt hk1 hno
 rintro⟨k,l⟩ H n ⟨hk,hl,hfs,hall,hn,⟨d0,r0'⟩,⟨d1,r1'⟩,⟨e2,d2,r2'⟩,hkp⟩
 dsimp only at hk hl hfs hall r1' r2' ⊢
 by_cases hkl:k<l.length
 ·have e0:∀d,(l.map (cI.av u)).getD ((k:Int)).toNat d=(l.getD k default).av u:=fun d=>by rw[Int.toNat_natCast];exact dN (cI.av u) l k d hkl
  have a0:(l.map (cI.av u)).length=l.length:=by simp
  have hgeq:∀l':List cI,l<+:l'→l'.getD k default=l.getD k default:=fun l' ⟨q,hq⟩=>by rw[←hq];simp[List.getD,List.getElem?_append,hkl]
  have hmk:mo - k=(mo - (k+1))+1:=by omega
  rw[hmk,sF,if_pos hkl] at hall
  obtain⟨hmok,hpl⟩:=hfs.ok k hkl
  have hmdef:(l.getD k default).m=(l.getD k default).m:=rfl
  generalize hmm:(l.getD k default).m=m at hmok hpl
  have e0':∀d,(l.map (cI.av u)).getD ((k:Int)).toNat d= .agg [m.fz u,i64 (l.getD k default).from_,i64 (l.getD k default).cP]:=fun d=>by rw[e0 d,←hmm];rfl
  clear e0
  have e0:=e0'
  refine cW ?_
  rw[List.length_map]
  refine aU (fun σ:Nat×List cI=>[(1,i64 mo),(2, .fn (.func g) [] caps),(3, .pt nx 1 0 0),(10, .sl (n1+15) σ.2.length),(11, .mp (n1+17)),(12,i64 k),(13,m.fz u),(52,i64 u.bj.length),(53,i64 σ.1)])
   (fun σ H n=>σ.1≤u.bj.length∧k<σ.2.length∧σ.2.length≤mo∧gV u σ.2∧(σ.2.getD k default).m=m∧(match wK u mo k ((List.range u.bj.length).drop σ.1) σ.2 with
    |none=>none
    |some l2=>sF u mo (mo - (k+1)) (k+1) l2)=gX u mo∧n1+23≤n∧(∃d,bd H nx=some (.row 25 3 d [u.av]))∧(∃d,bd H (n1+15)=some (.row 75 3 d (σ.2.map (cI.av u))))∧(∃e d,bd H (n1+17)=some (.row e 0 d (mapA (lB σ.2))))∧∀y,y<nx→bd H y=bd H0 y) (fun σ=>u.bj.length - σ.1) (0,l)
   ⟨_,_,_,Rt.refl _ _ _,cM,Nat.zero_le _,hkl,hl,hfs,hmm,hall,cX,⟨_,bf⟩,⟨_,bf⟩,⟨_,_,bf⟩,fun y hy=>Eq.trans br (hkp y hy)⟩ ?_
  clear e0 e0' a0 r0' r1' r2' hkp hall hfs hl hkl hgeq hn hmm
  rintro⟨t,l⟩ H n ⟨ht,hkl,hl,hfs,hmm,hall,hn,⟨d0,r0'⟩,⟨d1,r1'⟩,⟨e2,d2,r2'⟩,hkp⟩
  dsimp only at ht hkl hl hfs hmm hall r1' r2' ⊢
  have a0:(l.map (cI.av u)).length=l.length:=by simp
  by_cases htl:t<u.bj.length
  ·rw[show(List.range u.bj.length).drop t=t::(List.range u.bj.length).drop (t+1) by rw[List.drop_eq_getElem_cons (by simpa using htl)];simp,wK] at hall
   have c0:=AA u hr m hmok t
   by_cases hb:m.qn u t=0
   ·have hal:=hmok.nw
    refine cW ?_
    refine aJ (vF u hr m hmok (by omega) _ _) ?_
    rintro r H2 n2 ⟨L2,rfl,hM2,hlt2,hn2,hk2⟩
    have hlt2:∀x∈L2.all,n+7≤x∧x<n2:=hlt2
    refine cW ?_
    refine aJ (zQ hu hr hmok (L:=L2) (hM2.cD ?_) ?_ (by omega) htl hb) ?_
    ·intro y hy
     have:=hlt2 y hy
     exact br
    ·intro y hy
     have:=hlt2 y hy
     exact cX
    rintro r H3 n3 ⟨rfl,hM3,hn3,hk3⟩
    have hno:∀y,y<n+7∨n2≤y→y∉L2.all:=fun y hy hm=>by have:=hlt2 y hm;omega
    have hold:∀y,y<n→bd H3 y=bd H y:=fun y hy=>(hk3 y cX (hno y (by omega))).trans (Eq.trans br ((hk2 y cX).trans br))
    have hlt3:∀x∈L2.all,x<n3:=fun x hx=>by have:=hlt2 x hx;exact Nat.lt_of_lt_of_le this.2 cX
    obtain⟨hk9,_⟩:=nz hmok htl hb
    have hm2:=xw hu hr hmok htl hk9
    have hp2:=nG u m t
    have htry:wY u mo k t l=if fg (m.step u t).1∈jg l then some l else if l.length=mo then none else some (l++[⟨(m.step u t).1,k,t⟩]):=by
     unfold wY
     rw[hmm,if_neg (by omega)]
    rw[htry] at hall
    have hput:=fun(h:fg (m.step u t).1∉jg l)=>yj (l:=l) (m:=(m.step u t).1) (a:=k) (b:=t) h
    have hadd:=fun(h:fg (m.step u t).1∉jg l)=>hfs.add hu hr hkl htl (by rw[hmm];exact hb) (by rw[hmm];exact h)
    rw[hmm] at hadd
    generalize (m.step u t).1=m2 at *
    have hkp3:∀y,y<nx→bd H3 y=bd H0 y:=fun y hy=>(hold y (by omega)).trans (hkp y hy)
    have q0:=(hold nx (by omega)).trans r0'
    have q1:=(hold (n1+15) (by omega)).trans r1'
    have q2:=(hold (n1+17) (by omega)).trans r2'
    have hget:=vk rJ i64 (jB (fg m2)) (gh l) (i64 0)
    rw[o9] at hget
    clear hk2 hk3 hM2 r0' r1' r2' hold hkp
    by_cases hin:fg m2∈jg l
    ·rw[if_pos hin] at hget hall
     have g0:rU true (Value.string (jB (fg m2))) (lB l) (i64 0)=some (i64 1,true):=hget
     refine cW ?_
     refine aT (rK u m2 (hm2.LD hr (by omega))) (args2:=[m2.fz u]) ?_ (by simp[cK,mS]) trivial ?_
     ·rw[List.map_cons,List.map_nil]
      congr 1
      exact(hM3.cD fun y hy=>by have:=hlt3 y hy;exact br).yW 2
     refine cW ?_
     exact⟨(t+1,l),by dsimp only;omega,_,_,_,Rt.refl _ _ _,cM,by dsimp only;omega,hkl,hl,hfs,hmm,hall,cX,⟨_,bf⟩,⟨_,bf⟩,⟨_,_,bf⟩,fun y hy=>Eq.trans br (hkp3 y hy)⟩
    ·rw[if_neg hin] at hget hall
     have g0:rU true (Value.string (jB (fg m2))) (lB l) (i64 0)=some (i64 0,false):=hget
     by_cases hfull:l.length=mo
     ·rw[if_pos hfull] at hall
      refine cW ?_
      refine aT (rK u m2 (hm2.LD hr (by omega))) (args2:=[m2.fz u]) ?_ (by simp[cK,mS]) trivial ?_
      ·rw[List.map_cons,List.map_nil]
       congr 1
       exact(hM3.cD fun y hy=>by have:=hlt3 y hy;exact br).yW 2
      refine cW ?_
      have hall2:none=gX u mo:=hall
      rw[←hall2]
      exact⟨⟨cX,rfl,fun y hy=>Eq.trans br (hkp3 y hy)⟩⟩
     ·rw[if_neg hfull] at hall
      have g1:uH true (Value.string (jB (fg m2))) (lB l) (i64 1)=some (lB (l++[⟨m2,k,t⟩])):=by
       have:=vl rJ i64 (jB (fg m2)) 1 (gh l)
       rw[hput hin] at this
       exact this
      refine cW ?_
      refine aT (rK u m2 (hm2.LD hr (by omega))) (args2:=[m2.fz u]) ?_ (by simp[cK,mS]) trivial ?_
      ·rw[List.map_cons,List.map_nil]
       congr 1
       exact(hM3.cD fun y hy=>by have:=hlt3 y hy;exact br).yW 2
      refine cW ?_
      have hout:=hno
      refine⟨(t+1,l++[⟨m2,k,t⟩]),by dsimp only;omega,_,_,_,Rt.wk (qC (L:=L2) (lb:=n1+15) (m:=m2) (l:=l) (fr:=k) (th:=t) (hM3.cD ?_) bf (hno _ (by omega))),cM,by dsimp only;omega,by dsimp only;rw[List.length_append];omega,by dsimp only;simp only[List.length_append,List.length_cons,List.length_nil];omega,hadd hin,by dsimp only;rw[e8 hkl];exact hmm,hall,cX,⟨_,(da (hno _ (by omega))).trans bf⟩,⟨_,(da (hno _ (by omega))).trans bf⟩,⟨_,_,(da (hno _ (by omega))).trans bf⟩,fun y hy=>(da (hno _ (by omega))).trans (Eq.trans br (hkp3 y hy))⟩
      intro y hy
      have:=hlt2 y hy
      have:=hlt3 y hy
      exact br
   ·have htry:wY u mo k t l=some l:=by
     unfold wY
     rw[hmm,if_pos hb]
    rw[htry] at hall
    refine cW ?_
    exact⟨(t+1,l),by dsimp only;omega,_,_,_,Rt.refl _ _ _,cM,by dsimp only;omega,hkl,hl,hfs,hmm,hall,cX,⟨_,bf⟩,⟨_,bf⟩,⟨_,_,bf⟩,fun y hy=>Eq.trans br (hkp y hy)⟩
  ·have htG:t=u.bj.length:=by omega
   subst htG
   rw[List.drop_of_length_le (by simp),wK] at hall
   refine cW ?_
   exact⟨(k+1,l),by dsimp only;omega,_,_,_,Rt.refl _ _ _,cM,by dsimp only;omega,hl,hfs,hall,cX,⟨_,bf⟩,⟨_,bf⟩,⟨_,_,bf⟩,fun y hy=>Eq.trans br (hkp y hy)⟩
 ·have hk2:k=l.length:=by omega
  refine cW ?_
  have hl2:gX u mo=some l:=by
   rw[←hall]
   subst hk2
   cases h:mo - l.length with
   |zero=>rfl
   |succ q=>rw[sF,if_neg (by omega)]
  have hw:=fun(H':Hp) (n':Nat) (hr:bd H' (n1+15)=some (.row 75 3 d1 (l.map (cI.av u))))=>Wk.J6 (r:= .sl (n1+15) l.length) (H:=H') (nx:=n') [(n1+15,some (.row 75 3 d1 (l.map (cI.av u))))] 1 (fun b q hq=>by
   by_cases hb:b=n1+15
   ·subst hb;rw[cS] at hq;rw[←hq];exact hr
   ·rw[cE hb] at hq;cases hq)
  rw[BD (cS _ _ _) (by simp),oZ] at hw
  rw[hl2]
  refine aU (fun i:Nat=>[(2, .fn (.func g) [] caps),(10,iW u l),(86,i64 l.length),(87,i64 i)])
   (fun i H n=>i≤l.length∧nx≤n∧I i H) (fun i=>l.length - i) 0
   ⟨_,_,_,Rt.slot 10 rfl (hw _ _ bf),cM,Nat.zero_le _,cX,hst 0 _ _ hI0 fun y hy=>(cE (by omega)).trans (Eq.trans br (hkp y hy))⟩ ?_
  clear r0' r1' r2' hkp hw hn
  rintro i H n ⟨hi,hn,hI⟩
  by_cases hil:i<l.length
  ·refine cW ?_
   refine Eq.mpr (fe caps _) ?_
   show fj Tryz.prog g (iW u l::i64 i::caps) _ _ _
   refine aJ (hcl l hl2 i _ _ hil cX (hst i H _ hI fun y hy=>br)) ?_
   rintro _ H2 n2 ⟨hI2,hn2,_⟩
   refine cW ?_
   exact⟨i+1,by omega,_,_,_,Rt.refl _ _ _,cM,by omega,cX,hst _ _ _ hI2 fun y hy=>br⟩
  ·obtain rfl:i=l.length:=by omega
   refine cW ?_
   exact⟨⟨cX,by rw[List.length_map],hst _ _ _ hI fun y hy=>br⟩⟩
end Go.Proofs.YtekfmjjmihomlaaGreat
end
section
/- Ends compared: the code's Compare and Same. -/
namespace Go.Proofs.YtekfmjjmihomlaaGreat
open Go Go.cO Go.Proofs
set_option linter.unusedSimpArgs false
set_option linter.unusedVariables false
theorem yM (p q:cU):Pure Tryz.prog 46 [p.av,q.av] (fun r=>r=i64 (eY p q)):=by
 have c0:=AD p.cP q.cP
 have c1:=pd p.word q.word
 have c2:=xm [dy p.cP q.cP,dy p.word q.word] (by simp)
 refine aI BW rfl ?_
 refine cW ?_
 refine aT (args2:=[ct [dy p.cP q.cP,dy p.word q.word]]) (r:=i64 (eY p q)) c2 rfl (by simp[cK,bz]) trivial ?_
 refine cW ?_
 first|exact rfl|trivial
theorem kM {l:List cU} {i:Nat} (h:i<l.length) (d:AV):(l.map cU.av).getD ((i:Int)).toNat d=(l.getD i default).av:=by
 rw[Int.toNat_natCast];exact dN cU.av l i d h
theorem vE (a b:List cU) (ha:a.length<9223372036854775807):Pure Tryz.prog 45 [eS a,eS b, .fn (.func 46) [] []] (fun r=>r=i64 (dh eY a b)):=by
 refine aI BV rfl ?_
 refine cW ?_
 rw[List.length_map]
 refine aR (fun i:Nat=>[(0,eS a),(1,eS b),(2, .fn (.func 46) [] []),(11,eS a),(12,i64 a.length),(13,i64 i)]) (fun i H n=>i≤a.length∧i≤b.length∧dh eY a b=dh eY (a.drop i) (b.drop i)) (fun i=>a.length - i) 0 cM ⟨Nat.zero_le _,Nat.zero_le _,rfl⟩ ?_
 rintro i H n ⟨hi,hib,ho⟩
 rw[ho]
 have a0:(a.map cU.av).length=a.length:=by simp
 have a1:(b.map cU.av).length=b.length:=by simp
 by_cases hil:i<a.length
 ·have e0:=fun d=>kM hil d
  by_cases hbl:i<b.length
  ·have e1:=fun d=>kM hbl d
   have hd:=nT eY default hil hbl
   have c0:=yM (a.getD i default) (b.getD i default)
   generalize a.getD i default=p at *
   generalize b.getD i default=q at *
   by_cases hz:eY p q=0
   ·have r0:=hz
    rw[if_pos hz] at hd
    refine cW ?_
    exact⟨i+1,by omega,cM,by omega,by omega,hd⟩
   ·have r0:=decide_eq_true hz
    rw[if_neg hz] at hd
    refine cW ?_
    rw[hd]
  ·rw[lX eY hil (by omega)]
   refine cW ?_
   first|exact rfl|trivial
 ·obtain rfl:i=a.length:=by omega
  rw[lW eY (Nat.le_refl _) hib]
  by_cases h:a.length<b.length
  ·rw[if_pos h]
   refine cW ?_
   first|exact rfl|trivial
  ·rw[if_neg h]
   refine cW ?_
   first|exact rfl|trivial
theorem vC (a b:List Int) (ha:a.length<9223372036854775807):Pure Tryz.prog 50 [ct a,ct b] (fun r=>r=i64 (dh dy a b)):=by
 refine aI BY rfl ?_
 refine cW ?_
 rw[List.length_map]
 refine aR (fun i:Nat=>[(0,ct a),(1,ct b),(9,ct a),(10,i64 a.length),(11,i64 i)]) (fun i H n=>i≤a.length∧i≤b.length∧dh dy a b=dh dy (a.drop i) (b.drop i)) (fun i=>a.length - i) 0 cM ⟨Nat.zero_le _,Nat.zero_le _,rfl⟩ ?_
 rintro i H n ⟨hi,hib,ho⟩
 rw[ho]
 have a0:(a.map i64).length=a.length:=by simp
 have a1:(b.map i64).length=b.length:=by simp
 by_cases hil:i<a.length
 ·have e0:=fun d=>ee hil d
  by_cases hbl:i<b.length
  ·have e1:=fun d=>ee hbl d
   have hd:=nT dy 0 hil hbl
   have c0:=pd (a.getD i 0) (b.getD i 0)
   generalize a.getD i 0=p at *
   generalize b.getD i 0=q at *
   by_cases hz:dy p q=0
   ·have r0:=hz
    rw[if_pos hz] at hd
    refine cW ?_
    exact⟨i+1,by omega,cM,by omega,by omega,hd⟩
   ·have r0:=decide_eq_true hz
    rw[if_neg hz] at hd
    refine cW ?_
    rw[hd]
  ·rw[lX dy hil (by omega)]
   refine cW ?_
   first|exact rfl|trivial
 ·obtain rfl:i=a.length:=by omega
  rw[lW dy (Nat.le_refl _) hib]
  by_cases h:a.length<b.length
  ·rw[if_pos h]
   refine cW ?_
   first|exact rfl|trivial
  ·rw[if_neg h]
   refine cW ?_
   first|exact rfl|trivial
theorem kA (a b:dI) (h1:a.bn.length<9223372036854775807) (h2:a.mem.length<9223372036854775807):Pure Tryz.prog 19 [a.av,b.av] (fun r=>r=i64 (eF a b)):=by
 have c0:=vE a.bn b.bn h1
 have c1:=vC a.mem b.mem h2
 have c2:=xm [dh eY a.bn b.bn,dh dy a.mem b.mem,oE a.ended b.ended] (by simp)
 obtain⟨ap,am,ae⟩:=a
 obtain⟨bp,bm,be⟩:=b
 cases ae<;>cases be<;>(refine aI BL rfl ?_;refine cW ?_;refine aT (args2:=[ct [dh eY ap bp,dh dy am bm,_]]) (r:=i64 (iN [dh eY ap bp,dh dy am bm,_])) c2 rfl (by simp[cK,bz]) trivial ?_;refine cW ?_;first|exact rfl|trivial)
theorem jR (a b:dI) (h1:a.bn.length<9223372036854775807) (h2:a.mem.length<9223372036854775807):Pure Tryz.prog 20 [a.av,b.av] (fun r=>r=bl (decide (eF a b=0))):=by
 have c0:=kA a b h1 h2
 refine aI BM rfl ?_
 refine cW ?_
 refine eh ?_
 simp
end Go.Proofs.YtekfmjjmihomlaaGreat
end
section
/- Ends compared: the document's Compare; the plain laws. -/
namespace Go.Proofs.YtekfmjjmihomlaaGreat
open Go Go.cO Go.Proofs
set_option linter.unusedSimpArgs false
set_option linter.unusedVariables false
theorem ot (b:Bool):Pure Tryz.prog 44 [bl b] (fun r=>r=i64 (if b then -1 else 1)):=by
 cases b<;>(refine aI BU rfl ?_;refine cW ?_;first|exact rfl|trivial)
theorem iq {x:Bool} {v:Int} (h:(if x=true then -1 else 1)=v):Pure Tryz.prog 44 [bl x] (fun r=>r=i64 v):=by
 have:=ot x
 rw[h] at this
 exact this
theorem D9 {p q:cU} (h:p.cP<q.cP∨p.cP=q.cP∧p.word<q.word):eY p q=-1:=by
 unfold eY dy
 simp only[iN]
 repeat' (first|omega|split)
theorem D7 {p q:cU} (h:¬(p.cP<q.cP∨p.cP=q.cP∧p.word<q.word)) (hne:¬(p.cP=q.cP∧p.word=q.word)):eY p q=1:=by
 unfold eY dy
 simp only[iN]
 repeat' (first|omega|split)
theorem D6 {p q:cU} (h:p.cP=q.cP∧p.word=q.word):eY p q=0:=by
 unfold eY dy
 simp only[iN]
 repeat' (first|omega|split)
theorem D5 {x y:Int} (h:x≠y):dy x y=if x<y then -1 else 1:=by
 unfold dy;split
 ·rfl
 ·rw[if_pos (by omega)]
theorem wc (x:Int):dy x x=0:=by unfold dy;simp
set_option maxHeartbeats 1000000 in
theorem wB (a b:dI) (h1:a.bn.length<9223372036854775807) (h2:a.mem.length<9223372036854775807):Pure Tryz.prog 18 [a.av,b.av] (fun r=>r=i64 (eF a b)):=by
 have a0:(a.bn.map cU.av).length=a.bn.length:=by simp
 have a1:(b.bn.map cU.av).length=b.bn.length:=by simp
 have a2:(a.mem.map i64).length=a.mem.length:=by simp
 have a3:(b.mem.map i64).length=b.mem.length:=by simp
 refine aI BK rfl ?_
 refine cW ?_
 refine aR (fun i:Nat=>[(2, .pt 0 1 0 0),(3, .pt 1 1 0 0),(5,i64 i)]) (fun i H n=>2≤n∧(∃d,bd H 0=some (.row 40 3 d [a.av]))∧(∃d,bd H 1=some (.row 40 3 d [b.av]))∧i≤a.bn.length∧i≤b.bn.length∧dh eY a.bn b.bn=dh eY (a.bn.drop i) (b.bn.drop i)) (fun i=>a.bn.length - i) 0 cM ⟨cX,⟨_,bf⟩,⟨_,bf⟩,Nat.zero_le _,Nat.zero_le _,rfl⟩ ?_
 rintro i H n ⟨hn,⟨d0,r0⟩,⟨d1,r1⟩,hi,hib,ho⟩
 by_cases hil:i<a.bn.length
 ·have e0:=fun d=>kM hil d
  by_cases hbl:i<b.bn.length
  ·have e1:=fun d=>kM hbl d
   have hd:=nT eY default hil hbl
   generalize a.bn.getD i default=p at *
   generalize b.bn.getD i default=q at *
   have g0:=decide_eq_true hil
   have g1:=decide_eq_true hbl
   by_cases hlt:p.cP<q.cP∨p.cP=q.cP∧p.word<q.word
   ·have hc:=D9 hlt
    have hE:eF a b=-1:=by unfold eF;rw[ho,hd,hc,if_neg (by decide),iN,if_neg (by decide)]
    rw[hE]
    by_cases h3:p.cP<q.cP
    ·refine cW ?_
     first|exact rfl|trivial
    ·obtain⟨h4,h5⟩:=hlt.resolve_left h3
     have g2:=decide_eq_true h4
     have g3:=decide_eq_true h5
     refine cW ?_
     first|exact rfl|trivial
   ·have g4:¬p.cP<q.cP:=fun e=>hlt (.inl e)
    by_cases heq:p.cP=q.cP∧p.word=q.word
    ·obtain⟨h4,h5⟩:=heq
     have hc:=D6 ⟨h4,h5⟩
     rw[hc,if_pos rfl] at hd
     have g5:¬p.word<q.word:=by omega
     refine cW ?_
     exact⟨i+1,by omega,cM,by omega,⟨_,bf⟩,⟨_,bf⟩,by omega,by omega,ho.trans hd⟩
    ·have hc:=D7 hlt heq
     have hE:eF a b=1:=by unfold eF;rw[ho,hd,hc,if_neg (by decide),iN,if_neg (by decide)]
     rw[hE]
     refine cW ?_
     first|exact rfl|trivial
  ·have hE:eF a b=1:=by unfold eF;rw[ho,lX eY hil (by omega),iN,if_neg (by decide)]
   rw[hE]
   have hne:a.bn.length≠b.bn.length:=by omega
   have c0:=iq (x:=decide (((a.bn.map cU.av).length:Int)<((b.bn.map cU.av).length:Int))) (v:=1) (by rw[decide_eq_false (by omega)];rfl)
   refine cW ?_
   first|exact rfl|trivial
 ·obtain rfl:i=a.bn.length:=by omega
  rw[lW eY (Nat.le_refl _) hib] at ho
  by_cases hpl:a.bn.length<b.bn.length
  ·rw[if_pos hpl] at ho
   have hE:eF a b=-1:=by unfold eF;rw[ho,iN,if_neg (by decide)]
   rw[hE]
   have hne:a.bn.length≠b.bn.length:=by omega
   have c0:=iq (x:=decide (((a.bn.map cU.av).length:Int)<((b.bn.map cU.av).length:Int))) (v:=-1) (by rw[decide_eq_true (by omega)];rfl)
   refine cW ?_
   first|exact rfl|trivial
  ·rw[if_neg hpl] at ho
   have hpe:b.bn.length=a.bn.length:=by omega
   refine cW ?_
   refine aR (fun i:Nat=>[(2, .pt 0 1 0 0),(3, .pt 1 1 0 0),(8,i64 i)]) (fun i H n=>2≤n∧(∃d,bd H 0=some (.row 40 3 d [a.av]))∧(∃d,bd H 1=some (.row 40 3 d [b.av]))∧i≤a.mem.length∧i≤b.mem.length∧dh dy a.mem b.mem=dh dy (a.mem.drop i) (b.mem.drop i)) (fun i=>a.mem.length - i) 0 cM ⟨cX,⟨_,bf⟩,⟨_,bf⟩,Nat.zero_le _,Nat.zero_le _,rfl⟩ ?_
   clear r0 r1 hn
   rintro i H n ⟨hn,⟨d0,r0⟩,⟨d1,r1⟩,hi,hib,hm⟩
   by_cases hil:i<a.mem.length
   ·have e0:=fun d=>ee hil d
    by_cases hbl:i<b.mem.length
    ·have e1:=fun d=>ee hbl d
     have hd:=nT dy 0 hil hbl
     generalize a.mem.getD i 0=p at *
     generalize b.mem.getD i 0=q at *
     have g0:=decide_eq_true hil
     have g1:=decide_eq_true hbl
     by_cases heq:p=q
     ·rw[heq,wc,if_pos rfl] at hd
      refine cW ?_
      exact⟨i+1,by omega,cM,by omega,⟨_,bf⟩,⟨_,bf⟩,by omega,by omega,hm.trans hd⟩
     ·have hc:=D5 heq
      by_cases hlt:p<q
      ·rw[if_pos hlt] at hc
       have hE:eF a b=-1:=by unfold eF;rw[ho,hm,hd,hc,if_neg (by decide),iN,if_pos rfl,iN,if_neg (by decide)]
       rw[hE]
       have c0:=iq (x:=decide (p<q)) (v:=-1) (by rw[decide_eq_true hlt];rfl)
       refine cW ?_
       first|exact rfl|trivial
      ·rw[if_neg hlt] at hc
       have hE:eF a b=1:=by unfold eF;rw[ho,hm,hd,hc,if_neg (by decide),iN,if_pos rfl,iN,if_neg (by decide)]
       rw[hE]
       have c0:=iq (x:=decide (p<q)) (v:=1) (by rw[decide_eq_false hlt];rfl)
       refine cW ?_
       first|exact rfl|trivial
    ·have hE:eF a b=1:=by unfold eF;rw[ho,hm,lX dy hil (by omega),iN,if_pos rfl,iN,if_neg (by decide)]
     rw[hE]
     have hne:a.mem.length≠b.mem.length:=by omega
     have c0:=iq (x:=decide (((a.mem.map i64).length:Int)<((b.mem.map i64).length:Int))) (v:=1) (by rw[decide_eq_false (by omega)];rfl)
     refine cW ?_
     first|exact rfl|trivial
   ·obtain rfl:i=a.mem.length:=by omega
    rw[lW dy (Nat.le_refl _) hib] at hm
    by_cases hml:a.mem.length<b.mem.length
    ·rw[if_pos hml] at hm
     have hE:eF a b=-1:=by unfold eF;rw[ho,hm,iN,if_pos rfl,iN,if_neg (by decide)]
     rw[hE]
     have hne:a.mem.length≠b.mem.length:=by omega
     have c0:=iq (x:=decide (((a.mem.map i64).length:Int)<((b.mem.map i64).length:Int))) (v:=-1) (by rw[decide_eq_true (by omega)];rfl)
     refine cW ?_
     first|exact rfl|trivial
    ·rw[if_neg hml] at hm
     have hme:b.mem.length=a.mem.length:=by omega
     have hE:eF a b=oE a.ended b.ended:=by
      unfold eF;rw[ho,hm,iN,if_pos rfl,iN,if_pos rfl,iN]
      split<;>simp_all[iN]
     rw[hE]
     obtain⟨ap,am,ae⟩:=a
     obtain⟨bp,bm,be⟩:=b
     have c0:=ot be
     cases ae<;>cases be<;>(refine cW ?_;first|exact rfl|trivial)
end Go.Proofs.YtekfmjjmihomlaaGreat
end
section
/- Ends compared: the order's plain laws. -/
namespace Go.Proofs.YtekfmjjmihomlaaGreat
open Go Go.cO Go.Proofs
set_option linter.unusedSimpArgs false
set_option linter.unusedVariables false
theorem oF (x y:Int):dy y x=-dy x y:=by
 unfold dy
 repeat' (first|omega|split)
theorem rX:∀l:List Int,iN (l.map (-·))=-iN l
 |[]=>rfl
 |x::l=>by
  simp only[List.map_cons,iN]
  by_cases h:x=0
  ·rw[if_pos (by omega),if_pos h];exact rX l
  ·rw[if_neg (by omega),if_neg h]
theorem AE (p q:cU):eY q p=-eY p q:=by
 unfold eY
 rw[←rX,oF p.cP,oF p.word];rfl
theorem oG {α:Type} {f:α→α→Int} (hf:∀x y,f y x=-f x y):∀a b:List α,dh f b a=-dh f a b
 |[],[]=>rfl
 |[],_::_=>rfl
 |_::_,[]=>rfl
 |x::a,y::b=>by
  rw[dh,dh,hf x y]
  by_cases h:f x y=0
  ·rw[if_pos (by omega),if_pos h];exact oG hf a b
  ·rw[if_neg (by omega),if_neg h]
theorem AB (a b:Bool):oE b a=-oE a b:=by cases a<;>cases b<;>rfl
theorem sR (a b:dI):eF b a=-eF a b:=by
 unfold eF
 rw[←rX,oG AE a.bn,oG oF a.mem,AB a.ended];rfl
theorem uN {l:List Int}:iN l=0↔∀x∈l,x=0:=by
 induction l with
 |nil=>simp[iN]
 |cons x l ih=>
  rw[iN]
  by_cases h:x=0
  ·rw[if_pos h,ih];simp[h]
  ·rw[if_neg h];simp[h]
theorem iT {x y:Int}:dy x y=0↔x=y:=by
 constructor
 ·unfold dy;intro h;revert h;repeat' (first|omega|split)
 ·rintro rfl;exact wc _
theorem mR {p q:cU}:eY p q=0↔p=q:=by
 unfold eY
 rw[uN]
 simp only[List.mem_cons,List.not_mem_nil,or_false,forall_eq_or_imp,forall_eq,iT]
 constructor
 ·rintro⟨h1,h2⟩;cases p;cases q;simp_all
 ·rintro rfl;exact⟨rfl,rfl⟩
theorem iU {α:Type} {f:α→α→Int} (hf:∀x y,f x y=0↔x=y):∀a b:List α,dh f a b=0↔a=b
 |[],[]=>by simp[dh]
 |[],_::_=>by simp[dh]
 |_::_,[]=>by simp[dh]
 |x::a,y::b=>by
  rw[dh]
  by_cases h:f x y=0
  ·rw[if_pos h,iU hf a b]
   have:=(hf x y).1 h
   simp[this]
  ·rw[if_neg h]
   have:x≠y:=fun e=>h ((hf x y).2 e)
   simp[h,this]
theorem pc {a b:dI}:eF a b=0↔a=b:=by
 unfold eF
 rw[uN]
 simp only[List.mem_cons,List.not_mem_nil,or_false,forall_eq_or_imp,forall_eq,iU (fun x y=>mR),iU (fun x y=>iT)]
 constructor
 ·rintro⟨h1,h2,h3⟩
  obtain⟨ap,am,ae⟩:=a
  obtain⟨bp,bm,be⟩:=b
  cases ae<;>cases be<;>simp_all[oE]
 ·rintro rfl
  exact⟨rfl,rfl,by cases a.ended<;>rfl⟩
end Go.Proofs.YtekfmjjmihomlaaGreat
end
section
/- Count; the closures that ends, ways and what is shown hand to the exploring. -/
namespace Go.Proofs.YtekfmjjmihomlaaGreat
open Go Go.cO Go.Proofs
set_option linter.unusedSimpArgs false
set_option linter.unusedVariables false
set_option maxRecDepth 8000
open Classical in
noncomputable def iG (u:bh) (most:Int):Int×List cI:=
 if ¬cr u then(60,[]) else if ¬(1≤most∧most≤65536) then(2,[]) else match gX u most.toNat with
  |none=>(3,[])
  |some l=>(0,l)
theorem nn {u:bh} {most:Int} (h:¬cr u):iG u most=(60,[]):=by unfold iG;rw[if_pos h]
theorem kg {u:bh} {most:Int} (h:cr u) (hm:¬(1≤most∧most≤65536)):iG u most=(2,[]):=by unfold iG;rw[if_neg (fun e=>e h),if_pos hm]
theorem jy {u:bh} {most:Int} (h:cr u) (hm:1≤most∧most≤65536):iG u most=(match gX u most.toNat with|none=>(3,[])|some l=>(0,l)):=by unfold iG;rw[if_neg (fun e=>e h),if_neg (fun e=>e hm)]
theorem AG (a b:AV) (H:Hp) (nx:Nat):cC Tryz.prog 33 [a,b] H nx (fun r H' n=>H'=H∧n=nx):=by
 refine aQ BR rfl ?_
 refine cW ?_
 exact⟨⟨rfl,rfl⟩⟩
theorem vI (u:bh) (hu:u.Wf) (most:Int):Pure Tryz.prog 11 [u.av,i64 most] (fun r=>r= .dY [i64 (iG u most).2.length,i64 (iG u most).1]):=by
 refine ef ?_ (by simp[bz,cK])
 refine aQ BH rfl ?_
 by_cases hr:cr u
 ·by_cases hm:1≤most∧most≤65536
  ·rw[jy hr hm]
   refine cW ?_
   refine aJ (np u hu hr most hm _ [] _ _ (fun _ _=>True) trivial (fun _ _ _ _ _=>trivial) ?_) ?_
   ·intro l hl k H n hk hn _
    refine(AG _ _ H n).mono ?_
    rintro r H' n' ⟨rfl,rfl⟩
    exact⟨trivial,Nat.le_refl _,fun y _ _=>rfl⟩
   rintro r H' n' ⟨hn,hA⟩
   revert hA
   cases gX u most.toNat with
   |none=>
    rintro⟨rfl,_⟩
    refine cW ?_
    exact⟨rfl⟩
   |some l=>
    rintro⟨rfl,_⟩
    refine cW ?_
    exact⟨rfl⟩
  ·rw[kg hr hm]
   refine cW ?_
   refine aJ (mN u hu hr most hm _ [] _ _) ?_
   rintro r H' n' ⟨rfl,hn,_⟩
   refine cW ?_
   exact⟨rfl⟩
 ·rw[nn hr]
  refine cW ?_
  refine aJ (qi u hu hr most _ [] _ _) ?_
  rintro r H' n' ⟨rfl,hn,_⟩
  refine cW ?_
  exact⟨rfl⟩
def dz (u:bh) (l:List cI) (k:Nat):List dI:=(l.take k).filterMap fun f=>if f.m.stuck u then some (f.m.end_ u) else none
theorem sV {u:bh} {l:List cI} {k:Nat} (hk:k<l.length):dz u l (k+1)=dz u l k++(if(l.getD k default).m.stuck u then[(l.getD k default).m.end_ u] else[]):=by
 unfold dz
 rw[List.take_succ_eq_append_getElem hk,List.filterMap_append,show l.getD k default=l[k] by simp[List.getD,hk]]
 congr 1
 simp only[List.filterMap_cons,List.filterMap_nil]
 split
 ·rename_i h;split at h<;>simp_all
 ·rename_i h;split at h<;>simp_all
theorem oM (u:bh) (l:List cI) (k:Nat):(dz u l k).length≤k:=by
 unfold dz
 refine Nat.le_trans (List.length_filterMap_le _ _) ?_
 rw[List.length_take];omega
set_option maxHeartbeats 1000000 in
theorem EF {u:bh} (hr:cr u) {l:List cI} (hf:gV u l) (hl:l.length≤65536) {k:Nat} (hk:k<l.length) {ub ob o:Nat} {H:Hp} {nx:Nat} (h1:ub<nx) (h2:ob<nx) (h3:o<nx) (hne:ob≠o)
 (r1:∃d,bd H ub=some (.row 25 3 d [u.av])) (r2:∃d,bd H ob=some (.row 30 1 d [.sl o (dz u l k).length])) (r3:∃d,bd H o=some (.row 40 3 d ((dz u l k).map dI.av))):
 cC Tryz.prog 35 [iW u l,i64 k, .pt ub 1 0 0, .pt ob 1 0 0] H nx (fun _ H' n=>(∃d,bd H' ob=some (.row 30 1 d [.sl o (dz u l (k+1)).length]))∧(∃d,bd H' o=some (.row 40 3 d ((dz u l (k+1)).map dI.av)))∧nx≤n∧∀y,y<nx→y≠ob→y≠o→bd H' y=bd H y):=by
 obtain⟨d1,r1⟩:=r1
 obtain⟨d2,r2⟩:=r2
 obtain⟨d3,r3⟩:=r3
 have hel:=oM u l k
 obtain⟨hm,hp⟩:=hf.ok k hk
 have e0:∀d,(l.map (cI.av u)).getD ((k:Int)).toNat d= .agg [(l.getD k default).m.fz u,i64 (l.getD k default).from_,i64 (l.getD k default).cP]:=fun d=>by rw[Int.toNat_natCast];exact dN (cI.av u) l k d hk
 have a0:(l.map (cI.av u)).length=l.length:=by simp
 have a1:((dz u l k).map dI.av).length=(dz u l k).length:=by simp
 have c0:=qP u hr (l.getD k default).m hm (by omega) (by have:=hm.ml;have:=hr.AR;omega)
 rw[sV hk]
 generalize (l.getD k default).m=m at *
 cases hs:m.stuck u with
 |true=>
  rw[jQ,hs] at c0
  refine aQ yn rfl ?_
  refine cW ?_
  refine⟨⟨⟨_,by simp only[List.length_append,if_true,List.length_cons,List.length_nil];exact bf⟩,⟨_,by simp only[List.map_append,if_true,List.map_cons,List.map_nil];exact bf⟩,cX,fun y y1 y2 y3=>br⟩⟩
 |false=>
  rw[jQ,hs] at c0
  refine aQ yn rfl ?_
  refine cW ?_
  refine⟨⟨⟨_,by rw[if_neg (by decide),List.append_nil];exact bf⟩,⟨_,by rw[if_neg (by decide),List.append_nil];exact bf⟩,cX,fun y y1 y2 y3=>br⟩⟩
end Go.Proofs.YtekfmjjmihomlaaGreat
end
section
/- Shows: the walk. -/
namespace Go.Proofs.YtekfmjjmihomlaaGreat
open Go Go.cO Go.Proofs
set_option linter.unusedSimpArgs false
set_option linter.unusedVariables false
set_option maxRecDepth 8000
end Go.Proofs.YtekfmjjmihomlaaGreat
end
