import Derived.Test.YtekfmjjmihomlaaGreatM32
import Derived.Test.YtekfmjjmihomlaaGreatM33
import Derived.Test.YtekfmjjmihomlaaGreatM34
import Derived.Lib.ItoaLen
import Derived.Test.YtekfmjjmihomlaaGreatM30
section
/- A machine in rows told by value, within a list of what was found. -/
namespace Go.Proofs.YtekfmjjmihomlaaGreat
open Go Go.cN Go.Proofs
set_option linter.unusedSimpArgs false
set_option linter.unusedVariables false
set_option maxRecDepth 8000
def jy (S:List Nat) (H:Hp):Hp:=S.map fun y=>(y,bd H y)
theorem uw {S:List Nat} {H:Hp} {y:Nat} (h:y∈S):bd (jy S H) y=bd H y:=by
 induction S with
 |nil=>cases h
 |cons x S ih=>
  rw[jy,List.map_cons]
  by_cases e:y=x
  ·subst e;exact cR _ _ _
  ·rw[cF e]
   exact ih (by simpa[e] using h)
theorem zm {S:List Nat} {H:Hp} {y:Nat} {q:dt} (h:bd (jy S H) y=some q):bd H y=some q:=by
 have:y∈S:=by
  have:=la h
  simpa[jy] using this
 rw[uw this] at h;exact h
theorem dc {S:List Nat} {H H2:Hp} {y:Nat} (h:y∉S):bd (k8 (jy S H) H2) y=bd H2 y:=fH (by simpa[jy] using h)
section
variable {u:bf} {m:MS} {L:ML} {H:Hp}
theorem ML.At.qZ (h:L.At u m H) (k:Nat):Go.cN.gC (jy L.all H) (k+4) (.pt L.mr 1 0 0)=m.fz u:=by
 have h:=h.cE (H':=jy L.all H) fun y hy=>uw hy
 generalize jy L.all H=G at *
 obtain⟨d1,h1⟩:=h.rM
 obtain⟨d2,h2⟩:=h.rA
 obtain⟨d3,h3⟩:=h.rS
 obtain⟨d4,h4⟩:=h.rE
 obtain⟨d5,h5⟩:=h.rH
 obtain⟨d6,h6⟩:=h.rP
 have hsl:(df L.ids m.bh).length=m.bh.length:=qh h.len
 have hs:(df L.ids m.bh).map (Go.cN.gC G (k+1))=m.bh.map cu:=by
  apply List.ext_getElem (by simp[hsl])
  intro t q1 q2
  have ht:t<m.bh.length:=by simpa using q2
  have hti:t<L.ids.length:=by rw[h.len];exact ht
  obtain⟨d,hd⟩:=h.rL t ht
  rw[show L.ids.getD t 0=L.ids[t] by simp[List.getD,hti],show m.bh.getD t []=m.bh[t] by simp[List.getD,ht]] at hd
  rw[List.getElem_map,List.getElem_map]
  simp only[df,List.getElem_map,List.getElem_zip]
  rw[kK hd (by simp),eh _ ((cB _ _).2 fun _ _=>by simp[cA])]
 rw[show Go.cN.gC G (k+4) (.pt L.mr 1 0 0)= .ip 8 .any ([m.rows u L.a L.s L.me L.ho L.pr].map (Go.cN.gC G (k+3))) 0 0 from E4 h1 rfl]
 simp only[List.map_cons,List.map_nil,MS.rows]
 rw[tN]
 simp only[List.map_cons,List.map_nil]
 rw[kK h2 (by simp),kK h3 hsl,kK h4 (by simp),kK h5 (by simp),kK h6 (by simp),hs]
 rw[eh _ ((cB _ _).2 fun _ _=>by simp[cA]),eh _ ((cB _ _).2 fun _ _=>by simp[cA]),eh _ ((cB _ _).2 fun _ _=>by simp[cA]),eh _ ((cB _ _).2 fun _ _=>by simp[cA])]
 rw[ir _ (show cA 0 (cV u.shared) by simp[cA,cB]),ir _ (show cA 0 (cV u.bx) by simp[cA,cB]),ir _ (show cA 0 (dQ u.bj) by simp[cA,cB])]
 rfl
end
def cD.cells (u:bf) (f:cD):List AV:=[f.m.fz u,i64 f.from_,i64 f.cT]
abbrev cD.av (u:bf) (f:cD):AV:= .agg (f.cells u)
abbrev ic (u:bf) (l:List cD):AV:= .im 3 .any (l.map (cD.av u))
@[simp] theorem yj (n:Nat) (u:bf) (f:cD):cM n (f.cells u):=by
  have:=mc n u f.m
  simp[cD.cells,cM,cA]
theorem vj (u:bf) (l:List cD):cM 0 (l.map (cD.av u)):=(cB _ _).2 fun _ _=>by simp only[cD.av,cA];exact yj _ _ _
theorem qT {u:bf} {m:MS} {L:ML} {H:Hp} {lb nx:Nat} {d:AV} {l:List cD} {fr th:Int} (hM:L.At u m H) (hl:bd H lb=some (.row 75 3 d (l.map (cD.av u)++[.agg [.pt L.mr 1 0 0,i64 fr,i64 th]]))) (hlb:lb∉L.all):
 Wk .any H nx .any (k8 (jy L.all H) ((lb,some (.row 75 3 .any ((l++[(⟨m,fr,th⟩:cD)]).map (cD.av u))))::H)) nx:=by
 have:=Wk.gC (nx:=nx) (jy L.all H) 5 .any hl (fun b q hq=>zm hq)
 rw[List.map_append,eh _ (vj u l),List.map_cons,List.map_nil,tN,List.map_cons,List.map_cons,List.map_cons,List.map_nil,hM.qZ 0,ir _ (show cA 0 (i64 fr) by simp[cA]),ir _ (show cA 0 (i64 th) by simp[cA])] at this
 rw[List.map_append]
 exact this
end Go.Proofs.YtekfmjjmihomlaaGreat
end
section
/- Keys are short, and tell situations apart as texts do. -/
namespace Go.Proofs.YtekfmjjmihomlaaGreat
open Go Go.cN Go.Proofs
set_option linter.unusedSimpArgs false
set_option linter.unusedVariables false
theorem kI {α:Type} (f:α→List UInt8) (k:Nat):∀l:List α,(∀a∈l,(f a).length≤k)→(l.flatMap f).length≤l.length * k
 |[],_=>by simp
 |a::l,h=>by
  have h1:=kI f k l fun b hb=>h b (by simp[hb])
  have h2:=h a (by simp)
  rw[List.flatMap_cons,List.length_append,List.length_cons,Nat.add_mul]
  omega
theorem kQ {x:Int} (e:List UInt8) (h:dh x):(dz x e).length≤21+e.length:=by
 have:=Go.Lib.itoa_length_le x h.1 (by have:=h.2;omega)
 unfold dz
 rw[List.length_append]
 omega
theorem eK.I5 {u:bf} {m:MS} (hr:ch u) (h:eK u m):(fp m).length≤100000000+m.bo.length * 50:=by
 have hf:=hr.A8
 have hal:=h.oK
 have hml:=h.ml
 have hhl:=h.hl
 have hn:∀t,t<u.bj.length→(u.gr t).nodes.length≤4096∧(u.gr t).bh≤4160:=fun t ht=>⟨(hr.gr ht).len.2,(hr.gr ht).bh.2⟩
 have h1:((List.range m.at_.length).flatMap (sM m)).length≤(List.range m.at_.length).length * 100000:=by
  refine kI _ _ _ fun t ht=> ?_
  have ht:=List.mem_range.1 ht
  have hat:=h.fx t (by omega)
  obtain⟨n1,n2⟩:=hn t (by omega)
  have hs:=h.wc t (by omega)
  have a1:=kQ (x:=m.at_.getD t 0) [44] ⟨by omega,by omega⟩
  have a2:=kI (fun w=>dz w [44]) 22 (m.bh.getD t []) fun w hw=>kQ [44] (h.we t (by omega) w hw)
  have e:(sM m t).length=(dz (m.at_.getD t 0) [44]).length+((m.bh.getD t []).flatMap (fun w=>dz w [44])).length+1:=by simp only[sM,List.length_append,List.length_cons,List.length_nil]
  simp only[List.length_cons,List.length_nil] at a1
  rw[e]
  omega
 rw[List.length_range] at h1
 have h2:=kI (fun w=>dz w [44]) 22 m.mem fun w hw=>kQ [44] (h.mw w hw)
 have h3:=kI (fun w=>dz w [44]) 22 m.hold fun w hw=>kQ [44] (by have:=h.hw w hw;exact⟨by omega,by omega⟩)
 have h4:=kI z6 50 m.bo fun p hp=>by
  obtain⟨p1,p2,p3⟩:=h.pw p hp
  have a1:=kQ (x:=p.cT) [58] ⟨by omega,by omega⟩
  have a2:=kQ (x:=p.word) [44] p3
  simp only[List.length_cons,List.length_nil] at a1 a2
  unfold z6
  rw[List.length_append]
  omega
 rw[rk]
 omega
theorem eK.LX {u:bf} {m:MS} (hr:ch u) (h:eK u m) (hp:m.bo.length≤1048576):MR m:=by
 have hf:=hr.A8
 refine⟨fun w hw=> ?_,by rw[h.sl,h.oK],fun l hl w hw=> ?_,h.mw,fun w hw=> ?_,fun p hp=> ?_, ?_⟩
 ·obtain⟨t,ht,rfl⟩:=List.mem_iff_getElem.1 hw
  have h1:=h.fx t (by rw[←h.oK];exact ht)
  have h2:=(hr.gr (t:=t) (by rw[←h.oK];exact ht)).len.2
  rw[show m.at_.getD t 0=m.at_[t] by simp[List.getD,ht]] at h1
  exact⟨by omega,by omega⟩
 ·obtain⟨t,ht,rfl⟩:=List.mem_iff_getElem.1 hl
  have:=h.we t (by rw[←h.sl];exact ht) w
  rw[show m.bh.getD t []=m.bh[t] by simp[List.getD,ht]] at this
  exact this hw
 ·have:=h.hw w hw
  exact⟨by omega,by omega⟩
 ·obtain⟨p1,p2,p3⟩:=h.pw p hp
  exact⟨⟨by omega,by omega⟩,p3⟩
 ·have:=h.I5 hr
  omega
theorem HE {a b:List UInt8} (h:jF a=jF b):a=b:=by
 have:=congrArg (fun x:ByteArray=>x.data.toList) h
 simpa[jF] using this
abbrev gn (l:List cD):List (ByteArray×Int):=l.map fun f=>(jF (fp f.m),1)
abbrev lE (l:List cD):List AV:=mu (fun s:ByteArray=>Value.string s) i64 (gn l)
theorem ow (l:List cD) (k:List UInt8):dy (gn l) (jF k)=if k∈jl l then some 1 else none:=by
 split
 ·rename_i h
  cases hl:dy (gn l) (jF k) with
  |none=>
   exfalso
   refine(mm _ _).1 hl ?_
   rw[List.map_map]
   obtain⟨f,h1,h2⟩:=List.mem_map.1 h
   exact List.mem_map.2 ⟨f,h1,by simp only[Function.comp];rw[h2]⟩
  |some v=>
   have hv:∀(l:List cD),dy (gn l) (jF k)=some v→v=1:=by
    intro l
    induction l with
    |nil=>intro h;cases h
    |cons f l ih=>
     intro h
     rw[gn,List.map_cons,dy] at h
     split at h
     ·cases h;rfl
     ·exact ih h
   rw[hv l hl]
 ·rename_i h
  refine(mm _ _).2 fun hm=>h ?_
  rw[List.map_map] at hm
  obtain⟨f,h1,h2⟩:=List.mem_map.1 hm
  simp only[Function.comp] at h2
  exact List.mem_map.2 ⟨f,h1,HE h2⟩
theorem zG {l:List cD} {m:MS} {a b:Int} (h:fp m∉jl l):gP (gn l) (jF (fp m)) 1=gn (l++[⟨m,a,b⟩]):=by
 have key:∀E:List (ByteArray×Int),dy E (jF (fp m))=none→gP E (jF (fp m)) 1=E++[(jF (fp m),1)]:=by
  intro E
  induction E with
  |nil=>intro _;rfl
  |cons p E ih=>
   intro hn
   obtain⟨x,y⟩:=p
   rw[dy] at hn
   rw[gP]
   split at hn
   ·cases hn
   ·rename_i hx
    rw[if_neg hx,ih hn];rfl
 rw[key _ (by rw[ow,if_neg h]),gn,gn,List.map_append];rfl
end Go.Proofs.YtekfmjjmihomlaaGreat
end
section
/- All situations: the walk. -/
namespace Go.Proofs.YtekfmjjmihomlaaGreat
open Go Go.cN Go.Proofs
set_option linter.unusedSimpArgs false
set_option linter.unusedVariables false
set_option maxRecDepth 8000
theorem rC (u:bf) (hu:u.Wf) (hr:¬ch u) (most:Int) (g:Nat) (caps:List AV) (H0:Hp) (nx:Nat):cC Tryz.prog 32 [u.av,i64 most, .fn (.func g) [] caps] H0 nx (fun r H n=>r= .da [i64 0,i64 60]∧nx≤n∧∀y,y<nx→bd H y=bd H0 y):=by
 have c0:=GF u hu hr
 refine aQ vz rfl ?_
 refine cU ?_
 exact⟨⟨rfl,cZ,fun y hy=>br⟩⟩
theorem mW (u:bf) (hu:u.Wf) (hr:ch u) (most:Int) (hm:¬(1≤most∧most≤65536)) (g:Nat) (caps:List AV) (H0:Hp) (nx:Nat):cC Tryz.prog 32 [u.av,i64 most, .fn (.func g) [] caps] H0 nx (fun r H n=>r= .da [i64 0,i64 2]∧nx≤n∧∀y,y<nx→bd H y=bd H0 y):=by
 refine aQ vz rfl ?_
 refine cU ?_
 refine aJ (uZ u hu hr _ _) ?_
 rintro r H1 n1 ⟨L,rfl,hM,hlt,hn1,hk1⟩
 by_cases h1:most<1
 ·refine cU ?_
  exact⟨⟨rfl,cZ,fun y hy=>Eq.trans br ((hk1 y cZ).trans br)⟩⟩
 ·have h2:65536<most:=by omega
  refine cU ?_
  exact⟨⟨rfl,cZ,fun y hy=>Eq.trans br ((hk1 y cZ).trans br)⟩⟩
theorem vX (u:bf) (hr:ch u) (m:MS) (h:eK u m) (hp:m.bo.length≤1048576) (H0:Hp) (nx:Nat):cC Tryz.prog 65 [m.fz u] H0 nx (fun r H n=>∃L:ML,r= .pt L.mr 1 0 0∧L.At u m H∧(∀x∈L.all,nx≤x∧x<n)∧nx≤n∧∀y,y<nx→bd H y=bd H0 y):=by
 have hgl:=hr.A8
 refine(vY u m (by have:=h.oK;omega) (by have:=h.ml;omega) (by have:=h.hl;omega) hp (by have:=h.sl;omega) (fun x hx=> ?_) H0 nx).mono ?_
 ·obtain⟨s,hs,rfl⟩:=List.mem_iff_getElem.1 hx
  have h1:=h.wc s (by rw[←h.sl];exact hs)
  have h2:=(hr.gr (t:=s) (by rw[←h.sl];exact hs)).bh.2
  rw[show m.bh.getD s []=m.bh[s] by simp[List.getD,hs]] at h1
  omega
 ·rintro r H n ⟨mr,a,s,me,ho,pr,ids,rfl,h1,h2,h3,h4⟩
  exact⟨⟨mr,a,s,me,ho,pr,ids⟩,rfl,h1,h2,h3,h4⟩
def D8 (u:bf) (most:Int) (I:Nat→Hp→Prop) (nx:Nat) (H0:Hp) (r:AV) (H:Hp) (n:Nat):Prop:=
 nx≤n∧match fD u most.toNat with
 |none=>r= .da [i64 0,i64 3]∧∀y,y<nx→bd H y=bd H0 y
 |some l=>r= .da [i64 l.length,i64 0]∧I l.length H
set_option maxHeartbeats 4000000 in
theorem oF (u:bf) (hu:u.Wf) (hr:ch u) (most:Int) (hm:1≤most∧most≤65536) (g:Nat) (caps:List AV) (H0:Hp) (nx:Nat) (I:Nat→Hp→Prop) (hI0:I 0 H0) (hst:∀k H H',I k H→(∀y,y<nx→bd H' y=bd H y)→I k H')
 (hcl:∀l,fD u most.toNat=some l→∀k H n,k<l.length→nx≤n→I k H→cC Tryz.prog g ([ic u l,i64 k]++caps) H n (fun _ H' n'=>I (k+1) H'∧n≤n'∧∀y,nx≤y→y<n→bd H' y=bd H y)):
 cC Tryz.prog 32 [u.av,i64 most, .fn (.func g) [] caps] H0 nx (D8 u most I nx H0):=by
 obtain⟨mo,rfl⟩:∃mo:Nat,most=mo:=⟨most.toNat,by omega⟩
 have hgl:=hr.A8
 unfold D8
 rw[Int.toNat_natCast] at hcl ⊢
 refine aQ vz rfl ?_
 refine cU ?_
 refine aJ (uZ u hu hr _ _) ?_
 rintro r H1 n1 ⟨L,rfl,hM,hlt,hn1,hk1⟩
 have hF:=gJ.init u hu hr
 have hm0:=(hF.ok 0 hF.pos).1
 have hm0':(List.getD (iO u) 0 default).m=dX u:=rfl
 rw[hm0'] at hm0
 have g0:uX true (Value.string (jF (fp (dX u)))) [] (i64 1)=some (lE (iO u)):=rfl
 have h65:(65536:Int)<mo→False:=by omega
 refine cU ?_
 refine aT (rj u (dX u) (hm0.LX hr (by simp[dX]))) (args2:=[(dX u).fz u]) ?_ (by simp[cM,mc]) trivial ?_
 ·rw[List.map_cons,List.map_nil]
  congr 1
  exact(hM.cE fun y hy=>by have:=hlt y hy;exact br).ym 2
 refine cU ?_
 have hno:∀y,y<nx+1∨n1≤y→y∉L.all:=fun y hy hm=>by have:=hlt y hm;omega
 refine aU (fun σ:Nat×List cD=>[(1,i64 mo),(2, .fn (.func g) [] caps),(3, .pt nx 1 0 0),(10, .sl (n1+15) σ.2.length),(11, .mp (n1+17)),(12,i64 σ.1)])
  (fun σ H n=>σ.1≤σ.2.length∧σ.2.length≤mo∧gJ u σ.2∧kU u mo (mo - σ.1) σ.1 σ.2=fD u mo∧n1+23≤n∧(∃d,bd H nx=some (.row 25 3 d [u.av]))∧(∃d,bd H (n1+15)=some (.row 75 3 d (σ.2.map (cD.av u))))∧(∃e d,bd H (n1+17)=some (.row e 0 d (mapA (lE σ.2))))∧∀y,y<nx→bd H y=bd H0 y) (fun σ=>mo - σ.1) (0,iO u)
  ⟨_,_,_,Rt.wk (qT (lb:=n1+15) (l:=[]) (fr:=-1) (th:=0) (hM.cE ?_) bg (hno _ (by omega))),cK,Nat.zero_le _,by show 1≤mo;omega,hF,rfl,cZ,⟨_,(dc (hno _ (by omega))).trans (Eq.trans br ((hk1 nx (by omega)).trans bg))⟩,⟨_,(dc (hno _ (by omega))).trans bg⟩,⟨_,_,(dc (hno _ (by omega))).trans bg⟩,fun y hy=>(dc (hno _ (by omega))).trans (Eq.trans br ((hk1 y cZ).trans br))⟩ ?_
 ·intro y hy
  have:=hlt y hy
  exact br
 clear hM hlt hk1 hno
 rintro⟨k,l⟩ H n ⟨hk,hl,hfs,hall,hn,⟨d0,r0'⟩,⟨d1,r1'⟩,⟨e2,d2,r2'⟩,hkp⟩
 dsimp only at hk hl hfs hall r1' r2' ⊢
 by_cases hkl:k<l.length
 ·have e0:∀d,(l.map (cD.av u)).getD ((k:Int)).toNat d=(l.getD k default).av u:=fun d=>by rw[Int.toNat_natCast];exact dJ (cD.av u) l k d hkl
  have a0:(l.map (cD.av u)).length=l.length:=by simp
  have hgeq:∀l':List cD,l<+:l'→l'.getD k default=l.getD k default:=fun l' ⟨q,hq⟩=>by rw[←hq];simp[List.getD,List.getElem?_append,hkl]
  have hmk:mo - k=(mo - (k+1))+1:=by omega
  rw[hmk,kU,if_pos hkl] at hall
  obtain⟨hmok,hpl⟩:=hfs.ok k hkl
  have hmdef:(l.getD k default).m=(l.getD k default).m:=rfl
  generalize hmm:(l.getD k default).m=m at hmok hpl
  have e0':∀d,(l.map (cD.av u)).getD ((k:Int)).toNat d= .agg [m.fz u,i64 (l.getD k default).from_,i64 (l.getD k default).cT]:=fun d=>by rw[e0 d,←hmm];rfl
  clear e0
  have e0:=e0'
  refine cU ?_
  rw[List.length_map]
  refine aU (fun σ:Nat×List cD=>[(1,i64 mo),(2, .fn (.func g) [] caps),(3, .pt nx 1 0 0),(10, .sl (n1+15) σ.2.length),(11, .mp (n1+17)),(12,i64 k),(13,m.fz u),(52,i64 u.bj.length),(53,i64 σ.1)])
   (fun σ H n=>σ.1≤u.bj.length∧k<σ.2.length∧σ.2.length≤mo∧gJ u σ.2∧(σ.2.getD k default).m=m∧(match n9 u mo k ((List.range u.bj.length).drop σ.1) σ.2 with
    |none=>none
    |some l2=>kU u mo (mo - (k+1)) (k+1) l2)=fD u mo∧n1+23≤n∧(∃d,bd H nx=some (.row 25 3 d [u.av]))∧(∃d,bd H (n1+15)=some (.row 75 3 d (σ.2.map (cD.av u))))∧(∃e d,bd H (n1+17)=some (.row e 0 d (mapA (lE σ.2))))∧∀y,y<nx→bd H y=bd H0 y) (fun σ=>u.bj.length - σ.1) (0,l)
   ⟨_,_,_,Rt.refl _ _ _,cK,Nat.zero_le _,hkl,hl,hfs,hmm,hall,cZ,⟨_,bg⟩,⟨_,bg⟩,⟨_,_,bg⟩,fun y hy=>Eq.trans br (hkp y hy)⟩ ?_
  clear e0 e0' a0 r0' r1' r2' hkp hall hfs hl hkl hgeq hn hmm
  rintro⟨t,l⟩ H n ⟨ht,hkl,hl,hfs,hmm,hall,hn,⟨d0,r0'⟩,⟨d1,r1'⟩,⟨e2,d2,r2'⟩,hkp⟩
  dsimp only at ht hkl hl hfs hmm hall r1' r2' ⊢
  have a0:(l.map (cD.av u)).length=l.length:=by simp
  by_cases htl:t<u.bj.length
  ·rw[show(List.range u.bj.length).drop t=t::(List.range u.bj.length).drop (t+1) by rw[List.drop_eq_getElem_cons (by simpa using htl)];simp,n9] at hall
   have c0:=AS u hr m hmok t
   by_cases hb:m.rJ u t=0
   ·have hal:=hmok.oK
    refine cU ?_
    refine aJ (vX u hr m hmok (by omega) _ _) ?_
    rintro r H2 n2 ⟨L2,rfl,hM2,hlt2,hn2,hk2⟩
    have hlt2:∀x∈L2.all,n+7≤x∧x<n2:=hlt2
    refine cU ?_
    refine aJ (zj hu hr hmok (L:=L2) (hM2.cE ?_) ?_ (by omega) htl hb) ?_
    ·intro y hy
     have:=hlt2 y hy
     exact br
    ·intro y hy
     have:=hlt2 y hy
     exact cZ
    rintro r H3 n3 ⟨rfl,hM3,hn3,hk3⟩
    have hno:∀y,y<n+7∨n2≤y→y∉L2.all:=fun y hy hm=>by have:=hlt2 y hm;omega
    have hold:∀y,y<n→bd H3 y=bd H y:=fun y hy=>(hk3 y cZ (hno y (by omega))).trans (Eq.trans br ((hk2 y cZ).trans br))
    have hlt3:∀x∈L2.all,x<n3:=fun x hx=>by have:=hlt2 x hx;exact Nat.lt_of_lt_of_le this.2 cZ
    obtain⟨hk9,_⟩:=oM hmok htl hb
    have hm2:=yO hu hr hmok htl hk9
    have hp2:=nR u m t
    have htry:nb u mo k t l=if fp (m.step u t).1∈jl l then some l else if l.length=mo then none else some (l++[⟨(m.step u t).1,k,t⟩]):=by
     unfold nb
     rw[hmm,if_neg (by omega)]
    rw[htry] at hall
    have hput:=fun(h:fp (m.step u t).1∉jl l)=>zG (l:=l) (m:=(m.step u t).1) (a:=k) (b:=t) h
    have hadd:=fun(h:fp (m.step u t).1∉jl l)=>hfs.add hu hr hkl htl (by rw[hmm];exact hb) (by rw[hmm];exact h)
    rw[hmm] at hadd
    generalize (m.step u t).1=m2 at *
    have hkp3:∀y,y<nx→bd H3 y=bd H0 y:=fun y hy=>(hold y (by omega)).trans (hkp y hy)
    have q0:=(hold nx (by omega)).trans r0'
    have q1:=(hold (n1+15) (by omega)).trans r1'
    have q2:=(hold (n1+17) (by omega)).trans r2'
    have hget:=wE ri i64 (jF (fp m2)) (gn l) (i64 0)
    rw[ow] at hget
    clear hk2 hk3 hM2 r0' r1' r2' hold hkp
    by_cases hin:fp m2∈jl l
    ·rw[if_pos hin] at hget hall
     have g0:ru true (Value.string (jF (fp m2))) (lE l) (i64 0)=some (i64 1,true):=hget
     refine cU ?_
     refine aT (rj u m2 (hm2.LX hr (by omega))) (args2:=[m2.fz u]) ?_ (by simp[cM,mc]) trivial ?_
     ·rw[List.map_cons,List.map_nil]
      congr 1
      exact(hM3.cE fun y hy=>by have:=hlt3 y hy;exact br).ym 2
     refine cU ?_
     exact⟨(t+1,l),by dsimp only;omega,_,_,_,Rt.refl _ _ _,cK,by dsimp only;omega,hkl,hl,hfs,hmm,hall,cZ,⟨_,bg⟩,⟨_,bg⟩,⟨_,_,bg⟩,fun y hy=>Eq.trans br (hkp3 y hy)⟩
    ·rw[if_neg hin] at hget hall
     have g0:ru true (Value.string (jF (fp m2))) (lE l) (i64 0)=some (i64 0,false):=hget
     by_cases hfull:l.length=mo
     ·rw[if_pos hfull] at hall
      refine cU ?_
      refine aT (rj u m2 (hm2.LX hr (by omega))) (args2:=[m2.fz u]) ?_ (by simp[cM,mc]) trivial ?_
      ·rw[List.map_cons,List.map_nil]
       congr 1
       exact(hM3.cE fun y hy=>by have:=hlt3 y hy;exact br).ym 2
      refine cU ?_
      have hall2:none=fD u mo:=hall
      rw[←hall2]
      exact⟨⟨cZ,rfl,fun y hy=>Eq.trans br (hkp3 y hy)⟩⟩
     ·rw[if_neg hfull] at hall
      have g1:uX true (Value.string (jF (fp m2))) (lE l) (i64 1)=some (lE (l++[⟨m2,k,t⟩])):=by
       have:=wF ri i64 (jF (fp m2)) 1 (gn l)
       rw[hput hin] at this
       exact this
      refine cU ?_
      refine aT (rj u m2 (hm2.LX hr (by omega))) (args2:=[m2.fz u]) ?_ (by simp[cM,mc]) trivial ?_
      ·rw[List.map_cons,List.map_nil]
       congr 1
       exact(hM3.cE fun y hy=>by have:=hlt3 y hy;exact br).ym 2
      refine cU ?_
      have hout:=hno
      refine⟨(t+1,l++[⟨m2,k,t⟩]),by dsimp only;omega,_,_,_,Rt.wk (qT (L:=L2) (lb:=n1+15) (m:=m2) (l:=l) (fr:=k) (th:=t) (hM3.cE ?_) bg (hno _ (by omega))),cK,by dsimp only;omega,by dsimp only;rw[List.length_append];omega,by dsimp only;simp only[List.length_append,List.length_cons,List.length_nil];omega,hadd hin,by dsimp only;rw[e9 hkl];exact hmm,hall,cZ,⟨_,(dc (hno _ (by omega))).trans bg⟩,⟨_,(dc (hno _ (by omega))).trans bg⟩,⟨_,_,(dc (hno _ (by omega))).trans bg⟩,fun y hy=>(dc (hno _ (by omega))).trans (Eq.trans br (hkp3 y hy))⟩
      intro y hy
      have:=hlt2 y hy
      have:=hlt3 y hy
      exact br
   ·have htry:nb u mo k t l=some l:=by
     unfold nb
     rw[hmm,if_pos hb]
    rw[htry] at hall
    refine cU ?_
    exact⟨(t+1,l),by dsimp only;omega,_,_,_,Rt.refl _ _ _,cK,by dsimp only;omega,hkl,hl,hfs,hmm,hall,cZ,⟨_,bg⟩,⟨_,bg⟩,⟨_,_,bg⟩,fun y hy=>Eq.trans br (hkp y hy)⟩
  ·have htG:t=u.bj.length:=by omega
   subst htG
   rw[List.drop_of_length_le (by simp),n9] at hall
   refine cU ?_
   exact⟨(k+1,l),by dsimp only;omega,_,_,_,Rt.refl _ _ _,cK,by dsimp only;omega,hl,hfs,hall,cZ,⟨_,bg⟩,⟨_,bg⟩,⟨_,_,bg⟩,fun y hy=>Eq.trans br (hkp y hy)⟩
 ·have hk2:k=l.length:=by omega
  refine cU ?_
  have hl2:fD u mo=some l:=by
   rw[←hall]
   subst hk2
   cases h:mo - l.length with
   |zero=>rfl
   |succ q=>rw[kU,if_neg (by omega)]
  have hw:=fun(H':Hp) (n':Nat) (hr:bd H' (n1+15)=some (.row 75 3 d1 (l.map (cD.av u))))=>Wk.KL (r:= .sl (n1+15) l.length) (H:=H') (nx:=n') [(n1+15,some (.row 75 3 d1 (l.map (cD.av u))))] 1 (fun b q hq=>by
   by_cases hb:b=n1+15
   ·subst hb;rw[cR] at hq;rw[←hq];exact hr
   ·rw[cF hb] at hq;cases hq)
  rw[BT (cR _ _ _) (by simp),oj] at hw
  rw[hl2]
  refine aU (fun i:Nat=>[(2, .fn (.func g) [] caps),(10,ic u l),(86,i64 l.length),(87,i64 i)])
   (fun i H n=>i≤l.length∧nx≤n∧I i H) (fun i=>l.length - i) 0
   ⟨_,_,_,Rt.slot 10 rfl (hw _ _ bg),cK,Nat.zero_le _,cZ,hst 0 _ _ hI0 fun y hy=>(cF (by omega)).trans (Eq.trans br (hkp y hy))⟩ ?_
  clear r0' r1' r2' hkp hw hn
  rintro i H n ⟨hi,hn,hI⟩
  by_cases hil:i<l.length
  ·refine cU ?_
   refine Eq.mpr (fk caps _) ?_
   show ft Tryz.prog g (ic u l::i64 i::caps) _ _ _
   refine aJ (hcl l hl2 i _ _ hil cZ (hst i H _ hI fun y hy=>br)) ?_
   rintro _ H2 n2 ⟨hI2,hn2,_⟩
   refine cU ?_
   exact⟨i+1,by omega,_,_,_,Rt.refl _ _ _,cK,by omega,cZ,hst _ _ _ hI2 fun y hy=>br⟩
  ·obtain rfl:i=l.length:=by omega
   refine cU ?_
   exact⟨⟨cZ,by rw[List.length_map],hst _ _ _ hI fun y hy=>br⟩⟩
end Go.Proofs.YtekfmjjmihomlaaGreat
end
section
/- Ends compared: the code's Compare and Same. -/
namespace Go.Proofs.YtekfmjjmihomlaaGreat
open Go Go.cN Go.Proofs
set_option linter.unusedSimpArgs false
set_option linter.unusedVariables false
theorem yb (p q:cY):Pure Tryz.prog 46 [p.av,q.av] (fun r=>r=i64 (ef p q)):=by
 have c0:=AW p.cT q.cT
 have c1:=qE p.word q.word
 have c2:=yH [eF p.cT q.cT,eF p.word q.word] (by simp)
 refine aI CD rfl ?_
 refine cU ?_
 refine aT (args2:=[cu [eF p.cT q.cT,eF p.word q.word]]) (r:=i64 (ef p q)) c2 rfl (by simp[cM,cA]) trivial ?_
 refine cU ?_
 first|exact rfl|trivial
theorem kP {l:List cY} {i:Nat} (h:i<l.length) (d:AV):(l.map cY.av).getD ((i:Int)).toNat d=(l.getD i default).av:=by
 rw[Int.toNat_natCast];exact dJ cY.av l i d h
theorem vW (a b:List cY) (ha:a.length<9223372036854775807):Pure Tryz.prog 45 [ed a,ed b, .fn (.func 46) [] []] (fun r=>r=i64 (eC ef a b)):=by
 refine aI CC rfl ?_
 refine cU ?_
 rw[List.length_map]
 refine aR (fun i:Nat=>[(0,ed a),(1,ed b),(2, .fn (.func 46) [] []),(11,ed a),(12,i64 a.length),(13,i64 i)]) (fun i H n=>i≤a.length∧i≤b.length∧eC ef a b=eC ef (a.drop i) (b.drop i)) (fun i=>a.length - i) 0 cK ⟨Nat.zero_le _,Nat.zero_le _,rfl⟩ ?_
 rintro i H n ⟨hi,hib,ho⟩
 rw[ho]
 have a0:(a.map cY.av).length=a.length:=by simp
 have a1:(b.map cY.av).length=b.length:=by simp
 by_cases hil:i<a.length
 ·have e0:=fun d=>kP hil d
  by_cases hbl:i<b.length
  ·have e1:=fun d=>kP hbl d
   have hd:=nh ef default hil hbl
   have c0:=yb (a.getD i default) (b.getD i default)
   generalize a.getD i default=p at *
   generalize b.getD i default=q at *
   by_cases hz:ef p q=0
   ·have r0:=hz
    rw[if_pos hz] at hd
    refine cU ?_
    exact⟨i+1,by omega,cK,by omega,by omega,hd⟩
   ·have r0:=decide_eq_true hz
    rw[if_neg hz] at hd
    refine cU ?_
    rw[hd]
  ·rw[l6 ef hil (by omega)]
   refine cU ?_
   first|exact rfl|trivial
 ·obtain rfl:i=a.length:=by omega
  rw[l5 ef (Nat.le_refl _) hib]
  by_cases h:a.length<b.length
  ·rw[if_pos h]
   refine cU ?_
   first|exact rfl|trivial
  ·rw[if_neg h]
   refine cU ?_
   first|exact rfl|trivial
theorem vU (a b:List Int) (ha:a.length<9223372036854775807):Pure Tryz.prog 50 [cu a,cu b] (fun r=>r=i64 (eC eF a b)):=by
 refine aI CG rfl ?_
 refine cU ?_
 rw[List.length_map]
 refine aR (fun i:Nat=>[(0,cu a),(1,cu b),(9,cu a),(10,i64 a.length),(11,i64 i)]) (fun i H n=>i≤a.length∧i≤b.length∧eC eF a b=eC eF (a.drop i) (b.drop i)) (fun i=>a.length - i) 0 cK ⟨Nat.zero_le _,Nat.zero_le _,rfl⟩ ?_
 rintro i H n ⟨hi,hib,ho⟩
 rw[ho]
 have a0:(a.map i64).length=a.length:=by simp
 have a1:(b.map i64).length=b.length:=by simp
 by_cases hil:i<a.length
 ·have e0:=fun d=>ej hil d
  by_cases hbl:i<b.length
  ·have e1:=fun d=>ej hbl d
   have hd:=nh eF 0 hil hbl
   have c0:=qE (a.getD i 0) (b.getD i 0)
   generalize a.getD i 0=p at *
   generalize b.getD i 0=q at *
   by_cases hz:eF p q=0
   ·have r0:=hz
    rw[if_pos hz] at hd
    refine cU ?_
    exact⟨i+1,by omega,cK,by omega,by omega,hd⟩
   ·have r0:=decide_eq_true hz
    rw[if_neg hz] at hd
    refine cU ?_
    rw[hd]
  ·rw[l6 eF hil (by omega)]
   refine cU ?_
   first|exact rfl|trivial
 ·obtain rfl:i=a.length:=by omega
  rw[l5 eF (Nat.le_refl _) hib]
  by_cases h:a.length<b.length
  ·rw[if_pos h]
   refine cU ?_
   first|exact rfl|trivial
  ·rw[if_neg h]
   refine cU ?_
   first|exact rfl|trivial
theorem qC (a b:dE) (h1:a.bo.length<9223372036854775807) (h2:a.mem.length<9223372036854775807):Pure Tryz.prog 19 [a.av,b.av] (fun r=>r=i64 (eB a b)):=by
 have c0:=vW a.bo b.bo h1
 have c1:=vU a.mem b.mem h2
 have c2:=yH [eC ef a.bo b.bo,eC eF a.mem b.mem,p6 a.ended b.ended] (by simp)
 obtain⟨ap,am,ae⟩:=a
 obtain⟨bp,bm,be⟩:=b
 cases ae<;>cases be<;>(refine aI B2 rfl ?_;refine cU ?_;refine aT (args2:=[cu [eC ef ap bp,eC eF am bm,_]]) (r:=i64 (jU [eC ef ap bp,eC eF am bm,_])) c2 rfl (by simp[cM,cA]) trivial ?_;refine cU ?_;first|exact rfl|trivial)
theorem pL (a b:dE) (h1:a.bo.length<9223372036854775807) (h2:a.mem.length<9223372036854775807):Pure Tryz.prog 20 [a.av,b.av] (fun r=>r=bl (decide (eB a b=0))):=by
 have c0:=qC a b h1 h2
 refine aI B3 rfl ?_
 refine cU ?_
 refine eX ?_
 simp
end Go.Proofs.YtekfmjjmihomlaaGreat
end
section
/- Ends compared: the document's Compare; the plain laws. -/
namespace Go.Proofs.YtekfmjjmihomlaaGreat
open Go Go.cN Go.Proofs
set_option linter.unusedSimpArgs false
set_option linter.unusedVariables false
theorem pG (b:Bool):Pure Tryz.prog 44 [bl b] (fun r=>r=i64 (if b then -1 else 1)):=by
 cases b<;>(refine aI CB rfl ?_;refine cU ?_;first|exact rfl|trivial)
theorem iy {x:Bool} {v:Int} (h:(if x=true then -1 else 1)=v):Pure Tryz.prog 44 [bl x] (fun r=>r=i64 v):=by
 have:=pG x
 rw[h] at this
 exact this
theorem EP {p q:cY} (h:p.cT<q.cT∨p.cT=q.cT∧p.word<q.word):ef p q=-1:=by
 unfold ef eF
 simp only[jU]
 repeat' (first|omega|split)
theorem EO {p q:cY} (h:¬(p.cT<q.cT∨p.cT=q.cT∧p.word<q.word)) (hne:¬(p.cT=q.cT∧p.word=q.word)):ef p q=1:=by
 unfold ef eF
 simp only[jU]
 repeat' (first|omega|split)
theorem EN {p q:cY} (h:p.cT=q.cT∧p.word=q.word):ef p q=0:=by
 unfold ef eF
 simp only[jU]
 repeat' (first|omega|split)
theorem EM {x y:Int} (h:x≠y):eF x y=if x<y then -1 else 1:=by
 unfold eF;split
 ·rfl
 ·rw[if_pos (by omega)]
theorem xE (x:Int):eF x x=0:=by unfold eF;simp
set_option maxHeartbeats 1000000 in
theorem wU (a b:dE) (h1:a.bo.length<9223372036854775807) (h2:a.mem.length<9223372036854775807):Pure Tryz.prog 18 [a.av,b.av] (fun r=>r=i64 (eB a b)):=by
 have a0:(a.bo.map cY.av).length=a.bo.length:=by simp
 have a1:(b.bo.map cY.av).length=b.bo.length:=by simp
 have a2:(a.mem.map i64).length=a.mem.length:=by simp
 have a3:(b.mem.map i64).length=b.mem.length:=by simp
 refine aI B1 rfl ?_
 refine cU ?_
 refine aR (fun i:Nat=>[(2, .pt 0 1 0 0),(3, .pt 1 1 0 0),(5,i64 i)]) (fun i H n=>2≤n∧(∃d,bd H 0=some (.row 40 3 d [a.av]))∧(∃d,bd H 1=some (.row 40 3 d [b.av]))∧i≤a.bo.length∧i≤b.bo.length∧eC ef a.bo b.bo=eC ef (a.bo.drop i) (b.bo.drop i)) (fun i=>a.bo.length - i) 0 cK ⟨cZ,⟨_,bg⟩,⟨_,bg⟩,Nat.zero_le _,Nat.zero_le _,rfl⟩ ?_
 rintro i H n ⟨hn,⟨d0,r0⟩,⟨d1,r1⟩,hi,hib,ho⟩
 by_cases hil:i<a.bo.length
 ·have e0:=fun d=>kP hil d
  by_cases hbl:i<b.bo.length
  ·have e1:=fun d=>kP hbl d
   have hd:=nh ef default hil hbl
   generalize a.bo.getD i default=p at *
   generalize b.bo.getD i default=q at *
   have g0:=decide_eq_true hil
   have g1:=decide_eq_true hbl
   by_cases hlt:p.cT<q.cT∨p.cT=q.cT∧p.word<q.word
   ·have hc:=EP hlt
    have hE:eB a b=-1:=by unfold eB;rw[ho,hd,hc,if_neg (by decide),jU,if_neg (by decide)]
    rw[hE]
    by_cases h3:p.cT<q.cT
    ·refine cU ?_
     first|exact rfl|trivial
    ·obtain⟨h4,h5⟩:=hlt.resolve_left h3
     have g2:=decide_eq_true h4
     have g3:=decide_eq_true h5
     refine cU ?_
     first|exact rfl|trivial
   ·have g4:¬p.cT<q.cT:=fun e=>hlt (.inl e)
    by_cases heq:p.cT=q.cT∧p.word=q.word
    ·obtain⟨h4,h5⟩:=heq
     have hc:=EN ⟨h4,h5⟩
     rw[hc,if_pos rfl] at hd
     have g5:¬p.word<q.word:=by omega
     refine cU ?_
     exact⟨i+1,by omega,cK,by omega,⟨_,bg⟩,⟨_,bg⟩,by omega,by omega,ho.trans hd⟩
    ·have hc:=EO hlt heq
     have hE:eB a b=1:=by unfold eB;rw[ho,hd,hc,if_neg (by decide),jU,if_neg (by decide)]
     rw[hE]
     refine cU ?_
     first|exact rfl|trivial
  ·have hE:eB a b=1:=by unfold eB;rw[ho,l6 ef hil (by omega),jU,if_neg (by decide)]
   rw[hE]
   have hne:a.bo.length≠b.bo.length:=by omega
   have c0:=iy (x:=decide (((a.bo.map cY.av).length:Int)<((b.bo.map cY.av).length:Int))) (v:=1) (by rw[decide_eq_false (by omega)];rfl)
   refine cU ?_
   first|exact rfl|trivial
 ·obtain rfl:i=a.bo.length:=by omega
  rw[l5 ef (Nat.le_refl _) hib] at ho
  by_cases hpl:a.bo.length<b.bo.length
  ·rw[if_pos hpl] at ho
   have hE:eB a b=-1:=by unfold eB;rw[ho,jU,if_neg (by decide)]
   rw[hE]
   have hne:a.bo.length≠b.bo.length:=by omega
   have c0:=iy (x:=decide (((a.bo.map cY.av).length:Int)<((b.bo.map cY.av).length:Int))) (v:=-1) (by rw[decide_eq_true (by omega)];rfl)
   refine cU ?_
   first|exact rfl|trivial
  ·rw[if_neg hpl] at ho
   have hpe:b.bo.length=a.bo.length:=by omega
   refine cU ?_
   refine aR (fun i:Nat=>[(2, .pt 0 1 0 0),(3, .pt 1 1 0 0),(8,i64 i)]) (fun i H n=>2≤n∧(∃d,bd H 0=some (.row 40 3 d [a.av]))∧(∃d,bd H 1=some (.row 40 3 d [b.av]))∧i≤a.mem.length∧i≤b.mem.length∧eC eF a.mem b.mem=eC eF (a.mem.drop i) (b.mem.drop i)) (fun i=>a.mem.length - i) 0 cK ⟨cZ,⟨_,bg⟩,⟨_,bg⟩,Nat.zero_le _,Nat.zero_le _,rfl⟩ ?_
   clear r0 r1 hn
   rintro i H n ⟨hn,⟨d0,r0⟩,⟨d1,r1⟩,hi,hib,hm⟩
   by_cases hil:i<a.mem.length
   ·have e0:=fun d=>ej hil d
    by_cases hbl:i<b.mem.length
    ·have e1:=fun d=>ej hbl d
     have hd:=nh eF 0 hil hbl
     generalize a.mem.getD i 0=p at *
     generalize b.mem.getD i 0=q at *
     have g0:=decide_eq_true hil
     have g1:=decide_eq_true hbl
     by_cases heq:p=q
     ·rw[heq,xE,if_pos rfl] at hd
      refine cU ?_
      exact⟨i+1,by omega,cK,by omega,⟨_,bg⟩,⟨_,bg⟩,by omega,by omega,hm.trans hd⟩
     ·have hc:=EM heq
      by_cases hlt:p<q
      ·rw[if_pos hlt] at hc
       have hE:eB a b=-1:=by unfold eB;rw[ho,hm,hd,hc,if_neg (by decide),jU,if_pos rfl,jU,if_neg (by decide)]
       rw[hE]
       have c0:=iy (x:=decide (p<q)) (v:=-1) (by rw[decide_eq_true hlt];rfl)
       refine cU ?_
       first|exact rfl|trivial
      ·rw[if_neg hlt] at hc
       have hE:eB a b=1:=by unfold eB;rw[ho,hm,hd,hc,if_neg (by decide),jU,if_pos rfl,jU,if_neg (by decide)]
       rw[hE]
       have c0:=iy (x:=decide (p<q)) (v:=1) (by rw[decide_eq_false hlt];rfl)
       refine cU ?_
       first|exact rfl|trivial
    ·have hE:eB a b=1:=by unfold eB;rw[ho,hm,l6 eF hil (by omega),jU,if_pos rfl,jU,if_neg (by decide)]
     rw[hE]
     have hne:a.mem.length≠b.mem.length:=by omega
     have c0:=iy (x:=decide (((a.mem.map i64).length:Int)<((b.mem.map i64).length:Int))) (v:=1) (by rw[decide_eq_false (by omega)];rfl)
     refine cU ?_
     first|exact rfl|trivial
   ·obtain rfl:i=a.mem.length:=by omega
    rw[l5 eF (Nat.le_refl _) hib] at hm
    by_cases hml:a.mem.length<b.mem.length
    ·rw[if_pos hml] at hm
     have hE:eB a b=-1:=by unfold eB;rw[ho,hm,jU,if_pos rfl,jU,if_neg (by decide)]
     rw[hE]
     have hne:a.mem.length≠b.mem.length:=by omega
     have c0:=iy (x:=decide (((a.mem.map i64).length:Int)<((b.mem.map i64).length:Int))) (v:=-1) (by rw[decide_eq_true (by omega)];rfl)
     refine cU ?_
     first|exact rfl|trivial
    ·rw[if_neg hml] at hm
     have hme:b.mem.length=a.mem.length:=by omega
     have hE:eB a b=p6 a.ended b.ended:=by
      unfold eB;rw[ho,hm,jU,if_pos rfl,jU,if_pos rfl,jU]
      split<;>simp_all[jU]
     rw[hE]
     obtain⟨ap,am,ae⟩:=a
     obtain⟨bp,bm,be⟩:=b
     have c0:=pG be
     cases ae<;>cases be<;>(refine cU ?_;first|exact rfl|trivial)
end Go.Proofs.YtekfmjjmihomlaaGreat
end
section
/- Ends compared: the order's plain laws. -/
namespace Go.Proofs.YtekfmjjmihomlaaGreat
open Go Go.cN Go.Proofs
set_option linter.unusedSimpArgs false
set_option linter.unusedVariables false
theorem oS (x y:Int):eF y x=-eF x y:=by
 unfold eF
 repeat' (first|omega|split)
theorem rz:∀l:List Int,jU (l.map (-·))=-jU l
 |[]=>rfl
 |x::l=>by
  simp only[List.map_cons,jU]
  by_cases h:x=0
  ·rw[if_pos (by omega),if_pos h];exact rz l
  ·rw[if_neg (by omega),if_neg h]
theorem AX (p q:cY):ef q p=-ef p q:=by
 unfold ef
 rw[←rz,oS p.cT,oS p.word];rfl
theorem oT {α:Type} {f:α→α→Int} (hf:∀x y,f y x=-f x y):∀a b:List α,eC f b a=-eC f a b
 |[],[]=>rfl
 |[],_::_=>rfl
 |_::_,[]=>rfl
 |x::a,y::b=>by
  rw[eC,eC,hf x y]
  by_cases h:f x y=0
  ·rw[if_pos (by omega),if_pos h];exact oT hf a b
  ·rw[if_neg (by omega),if_neg h]
theorem AT (a b:Bool):p6 b a=-p6 a b:=by cases a<;>cases b<;>rfl
theorem AU (a b:dE):eB b a=-eB a b:=by
 unfold eB
 rw[←rz,oT AX a.bo,oT oS a.mem,AT a.ended];rfl
theorem u9 {l:List Int}:jU l=0↔∀x∈l,x=0:=by
 induction l with
 |nil=>simp[jU]
 |cons x l ih=>
  rw[jU]
  by_cases h:x=0
  ·rw[if_pos h,ih];simp[h]
  ·rw[if_neg h];simp[h]
theorem iW {x y:Int}:eF x y=0↔x=y:=by
 constructor
 ·unfold eF;intro h;revert h;repeat' (first|omega|split)
 ·rintro rfl;exact xE _
theorem ma {p q:cY}:ef p q=0↔p=q:=by
 unfold ef
 rw[u9]
 simp only[List.mem_cons,List.not_mem_nil,or_false,forall_eq_or_imp,forall_eq,iW]
 constructor
 ·rintro⟨h1,h2⟩;cases p;cases q;simp_all
 ·rintro rfl;exact⟨rfl,rfl⟩
theorem iX {α:Type} {f:α→α→Int} (hf:∀x y,f x y=0↔x=y):∀a b:List α,eC f a b=0↔a=b
 |[],[]=>by simp[eC]
 |[],_::_=>by simp[eC]
 |_::_,[]=>by simp[eC]
 |x::a,y::b=>by
  rw[eC]
  by_cases h:f x y=0
  ·rw[if_pos h,iX hf a b]
   have:=(hf x y).1 h
   simp[this]
  ·rw[if_neg h]
   have:x≠y:=fun e=>h ((hf x y).2 e)
   simp[h,this]
theorem qD {a b:dE}:eB a b=0↔a=b:=by
 unfold eB
 rw[u9]
 simp only[List.mem_cons,List.not_mem_nil,or_false,forall_eq_or_imp,forall_eq,iX (fun x y=>ma),iX (fun x y=>iW)]
 constructor
 ·rintro⟨h1,h2,h3⟩
  obtain⟨ap,am,ae⟩:=a
  obtain⟨bp,bm,be⟩:=b
  cases ae<;>cases be<;>simp_all[p6]
 ·rintro rfl
  exact⟨rfl,rfl,by cases a.ended<;>rfl⟩
end Go.Proofs.YtekfmjjmihomlaaGreat
end
section
/- Count; the closures that ends, ways and what is shown hand to the exploring. -/
namespace Go.Proofs.YtekfmjjmihomlaaGreat
open Go Go.cN Go.Proofs
set_option linter.unusedSimpArgs false
set_option linter.unusedVariables false
set_option maxRecDepth 8000
open Classical in
noncomputable def fg (u:bf) (most:Int):Int×List cD:=
 if ¬ch u then(60,[]) else if ¬(1≤most∧most≤65536) then(2,[]) else match fD u most.toNat with
  |none=>(3,[])
  |some l=>(0,l)
theorem lX {u:bf} {most:Int} (h:¬ch u):fg u most=(60,[]):=by unfold fg;rw[if_pos h]
theorem jH {u:bf} {most:Int} (h:ch u) (hm:¬(1≤most∧most≤65536)):fg u most=(2,[]):=by unfold fg;rw[if_neg (fun e=>e h),if_pos hm]
theorem gL {u:bf} {most:Int} (h:ch u) (hm:1≤most∧most≤65536):fg u most=(match fD u most.toNat with|none=>(3,[])|some l=>(0,l)):=by unfold fg;rw[if_neg (fun e=>e h),if_neg (fun e=>e hm)]
theorem AZ (a b:AV) (H:Hp) (nx:Nat):cC Tryz.prog 33 [a,b] H nx (fun r H' n=>H'=H∧n=nx):=by
 refine aQ B8 rfl ?_
 refine cU ?_
 exact⟨⟨rfl,rfl⟩⟩
theorem oU (u:bf) (hu:u.Wf) (most:Int):Pure Tryz.prog 11 [u.av,i64 most] (fun r=>r= .da [i64 (fg u most).2.length,i64 (fg u most).1]):=by
 refine eo ?_ (by simp[cA,cM])
 refine aQ BX rfl ?_
 by_cases hr:ch u
 ·by_cases hm:1≤most∧most≤65536
  ·rw[gL hr hm]
   refine cU ?_
   refine aJ (oF u hu hr most hm _ [] _ _ (fun _ _=>True) trivial (fun _ _ _ _ _=>trivial) ?_) ?_
   ·intro l hl k H n hk hn _
    refine(AZ _ _ H n).mono ?_
    rintro r H' n' ⟨rfl,rfl⟩
    exact⟨trivial,Nat.le_refl _,fun y _ _=>rfl⟩
   rintro r H' n' ⟨hn,hA⟩
   revert hA
   cases fD u most.toNat with
   |none=>
    rintro⟨rfl,_⟩
    refine cU ?_
    exact⟨rfl⟩
   |some l=>
    rintro⟨rfl,_⟩
    refine cU ?_
    exact⟨rfl⟩
  ·rw[jH hr hm]
   refine cU ?_
   refine aJ (mW u hu hr most hm _ [] _ _) ?_
   rintro r H' n' ⟨rfl,hn,_⟩
   refine cU ?_
   exact⟨rfl⟩
 ·rw[lX hr]
  refine cU ?_
  refine aJ (rC u hu hr most _ [] _ _) ?_
  rintro r H' n' ⟨rfl,hn,_⟩
  refine cU ?_
  exact⟨rfl⟩
def dP (u:bf) (l:List cD) (k:Nat):List dE:=(l.take k).filterMap fun f=>if f.m.stuck u then some (f.m.end_ u) else none
theorem sj {u:bf} {l:List cD} {k:Nat} (hk:k<l.length):dP u l (k+1)=dP u l k++(if(l.getD k default).m.stuck u then[(l.getD k default).m.end_ u] else[]):=by
 unfold dP
 rw[List.take_succ_eq_append_getElem hk,List.filterMap_append,show l.getD k default=l[k] by simp[List.getD,hk]]
 congr 1
 simp only[List.filterMap_cons,List.filterMap_nil]
 split
 ·rename_i h;split at h<;>simp_all
 ·rename_i h;split at h<;>simp_all
theorem oZ (u:bf) (l:List cD) (k:Nat):(dP u l k).length≤k:=by
 unfold dP
 refine Nat.le_trans (List.length_filterMap_le _ _) ?_
 rw[List.length_take];omega
set_option maxHeartbeats 1000000 in
theorem EW {u:bf} (hr:ch u) {l:List cD} (hf:gJ u l) (hl:l.length≤65536) {k:Nat} (hk:k<l.length) {ub ob o:Nat} {H:Hp} {nx:Nat} (h1:ub<nx) (h2:ob<nx) (h3:o<nx) (hne:ob≠o)
 (r1:∃d,bd H ub=some (.row 25 3 d [u.av])) (r2:∃d,bd H ob=some (.row 30 1 d [.sl o (dP u l k).length])) (r3:∃d,bd H o=some (.row 40 3 d ((dP u l k).map dE.av))):
 cC Tryz.prog 35 [ic u l,i64 k, .pt ub 1 0 0, .pt ob 1 0 0] H nx (fun _ H' n=>(∃d,bd H' ob=some (.row 30 1 d [.sl o (dP u l (k+1)).length]))∧(∃d,bd H' o=some (.row 40 3 d ((dP u l (k+1)).map dE.av)))∧nx≤n∧∀y,y<nx→y≠ob→y≠o→bd H' y=bd H y):=by
 obtain⟨d1,r1⟩:=r1
 obtain⟨d2,r2⟩:=r2
 obtain⟨d3,r3⟩:=r3
 have hel:=oZ u l k
 obtain⟨hm,hp⟩:=hf.ok k hk
 have e0:∀d,(l.map (cD.av u)).getD ((k:Int)).toNat d= .agg [(l.getD k default).m.fz u,i64 (l.getD k default).from_,i64 (l.getD k default).cT]:=fun d=>by rw[Int.toNat_natCast];exact dJ (cD.av u) l k d hk
 have a0:(l.map (cD.av u)).length=l.length:=by simp
 have a1:((dP u l k).map dE.av).length=(dP u l k).length:=by simp
 have c0:=qc u hr (l.getD k default).m hm (by omega) (by have:=hm.ml;have:=hr.A8;omega)
 rw[sj hk]
 generalize (l.getD k default).m=m at *
 cases hs:m.stuck u with
 |true=>
  rw[jV,hs] at c0
  refine aQ zK rfl ?_
  refine cU ?_
  refine⟨⟨⟨_,by simp only[List.length_append,if_true,List.length_cons,List.length_nil];exact bg⟩,⟨_,by simp only[List.map_append,if_true,List.map_cons,List.map_nil];exact bg⟩,cZ,fun y y1 y2 y3=>br⟩⟩
 |false=>
  rw[jV,hs] at c0
  refine aQ zK rfl ?_
  refine cU ?_
  refine⟨⟨⟨_,by rw[if_neg (by decide),List.append_nil];exact bg⟩,⟨_,by rw[if_neg (by decide),List.append_nil];exact bg⟩,cZ,fun y y1 y2 y3=>br⟩⟩
end Go.Proofs.YtekfmjjmihomlaaGreat
end
section
/- Shows: the walk. -/
namespace Go.Proofs.YtekfmjjmihomlaaGreat
open Go Go.cN Go.Proofs
set_option linter.unusedSimpArgs false
set_option linter.unusedVariables false
set_option maxRecDepth 8000
end Go.Proofs.YtekfmjjmihomlaaGreat
end
