import Derived.Test.YtjopoheligmmoaaGreatDoorM34
import Derived.Test.YtjopoheligmmoaaGreatDoorM36
import Derived.Test.YtjopoheligmmoaaGreatDoorM37
import Derived.Lib.ItoaLen
import Derived.Test.YtjopoheligmmoaaGreatDoorM32
section
/- A machine in rows told by value, within a list of what was found. -/
namespace Go.Proofs.YtjopoheligmmoaaGreatDoor
open Go Go.cY Go.Proofs
set_option linter.unusedSimpArgs false
set_option linter.unusedVariables false
set_option maxRecDepth 8000
def jh (S:List Nat) (H:Hp):Hp:=S.map fun y=>(y,bt H y)
theorem AN {S:List Nat} {H:Hp} {y:Nat} (h:y∈S):bt (jh S H) y=bt H y:=by
 induction S with
 |nil=>cases h
 |cons x S ih=>
  rw[jh,List.map_cons]
  by_cases e:y=x
  ·subst e;exact cp _ _ _
  ·rw[cX e]
   exact ih (by simpa[e] using h)
theorem qO {S:List Nat} {H:Hp} {y:Nat} {q:eT} (h:bt (jh S H) y=some q):bt H y=some q:=by
 have:y∈S:=by
  have:=mf h
  simpa[jh] using this
 rw[AN this] at h;exact h
theorem dy {S:List Nat} {H H2:Hp} {y:Nat} (h:y∉S):bt (lR (jh S H) H2) y=bt H2 y:=fV (by simpa[jh] using h)
section
variable {u:bu} {m:MS} {L:ML} {H:Hp}
theorem ML.At.ta (h:L.At u m H) (k:Nat):Go.cY.gl (jh L.all H) (k+4) (.pt L.mr 1 0 0)=m.fz u:=by
 have h:=h.cQ (H':=jh L.all H) fun y hy=>AN hy
 generalize jh L.all H=G at *
 obtain⟨d1,h1⟩:=h.rM
 obtain⟨d2,h2⟩:=h.rA
 obtain⟨d3,h3⟩:=h.rS
 obtain⟨d4,h4⟩:=h.rE
 obtain⟨d5,h5⟩:=h.rH
 obtain⟨d6,h6⟩:=h.rP
 have hsl:(eS L.ids m.bz).length=m.bz.length:=vG h.len
 have hs:(eS L.ids m.bz).map (Go.cY.gl G (k+1))=m.bz.map cO:=by
  apply List.ext_getElem (by simp[hsl])
  intro t q1 q2
  have ht:t<m.bz.length:=by simpa using q2
  have hti:t<L.ids.length:=by rw[h.len];exact ht
  obtain⟨d,hd⟩:=h.rL t ht
  rw[show L.ids.getD t 0=L.ids[t] by simp[List.getD,hti],show m.bz.getD t []=m.bz[t] by simp[List.getD,ht]] at hd
  rw[List.getElem_map,List.getElem_map]
  simp only[eS,List.getElem_map,List.getElem_zip]
  rw[mg hd (by simp),ft _ ((cC _ _).2 fun _ _=>by simp[cK])]
 rw[show Go.cY.gl G (k+4) (.pt L.mr 1 0 0)= .ip 8 .any ([m.rows u L.a L.s L.me L.ho L.pr].map (Go.cY.gl G (k+3))) 0 0 from RH h1 rfl]
 simp only[List.map_cons,List.map_nil,MS.rows]
 rw[yB]
 simp only[List.map_cons,List.map_nil]
 rw[mg h2 (by simp),mg h3 hsl,mg h4 (by simp),mg h5 (by simp),mg h6 (by simp),hs]
 rw[ft _ ((cC _ _).2 fun _ _=>by simp[cK]),ft _ ((cC _ _).2 fun _ _=>by simp[cK]),ft _ ((cC _ _).2 fun _ _=>by simp[cK]),ft _ ((cC _ _).2 fun _ _=>by simp[cK])]
 rw[kT _ (show cK 0 (cr u.shared) by simp[cK,cC]),kT _ (show cK 0 (cr u.cE) by simp[cK,cC]),kT _ (show cK 0 (de u.bw) by simp[cK,cC])]
 rfl
end
def cU.cells (u:bu) (f:cU):List AV:=[f.m.fz u,i64 f.from_,i64 f.db]
abbrev cU.av (u:bu) (f:cU):AV:= .agg (f.cells u)
abbrev kL (u:bu) (l:List cU):AV:= .im 3 .any (l.map (cU.av u))
@[simp] theorem IK (n:Nat) (u:bu) (f:cU):cZ n (f.cells u):=by
  have:=ng n u f.m
  simp[cU.cells,cZ,cK]
theorem B3 (u:bu) (l:List cU):cZ 0 (l.map (cU.av u)):=(cC _ _).2 fun _ _=>by simp only[cU.av,cK];exact IK _ _ _
theorem u9 {u:bu} {m:MS} {L:ML} {H:Hp} {lb nx:Nat} {d:AV} {l:List cU} {fr th:Int} (hM:L.At u m H) (hl:bt H lb=some (.row 163 3 d (l.map (cU.av u)++[.agg [.pt L.mr 1 0 0,i64 fr,i64 th]]))) (hlb:lb∉L.all):
 Wk .any H nx .any (lR (jh L.all H) ((lb,some (.row 163 3 .any ((l++[(⟨m,fr,th⟩:cU)]).map (cU.av u))))::H)) nx:=by
 have:=Wk.gl (nx:=nx) (jh L.all H) 5 .any hl (fun b q hq=>qO hq)
 rw[List.map_append,ft _ (B3 u l),List.map_cons,List.map_nil,yB,List.map_cons,List.map_cons,List.map_cons,List.map_nil,hM.ta 0,kT _ (show cK 0 (i64 fr) by simp[cK]),kT _ (show cK 0 (i64 th) by simp[cK])] at this
 rw[List.map_append]
 exact this
end Go.Proofs.YtjopoheligmmoaaGreatDoor
end
section
/- Keys are short, and tell situations apart as texts do. -/
namespace Go.Proofs.YtjopoheligmmoaaGreatDoor
open Go Go.cY Go.Proofs
set_option linter.unusedSimpArgs false
set_option linter.unusedVariables false
theorem ma {α:Type} (f:α→List UInt8) (k:Nat):∀l:List α,(∀a∈l,(f a).length≤k)→(l.flatMap f).length≤l.length * k
 |[],_=>by simp
 |a::l,h=>by
  have h1:=ma f k l fun b hb=>h b (by simp[hb])
  have h2:=h a (by simp)
  rw[List.flatMap_cons,List.length_append,List.length_cons,Nat.add_mul]
  omega
theorem my {x:Int} (e:List UInt8) (h:eN x):(eo x e).length≤21+e.length:=by
 have:=Go.Lib.itoa_length_le x h.1 (by have:=h.2;omega)
 unfold eo
 rw[List.length_append]
 omega
theorem eO.VW {u:bu} {m:MS} (hr:cT u) (h:eO u m):(gm m).length≤100000000+m.cN.length * 50:=by
 have hf:=hr.qn
 have hal:=h.oH
 have hml:=h.ml
 have hhl:=h.hl
 have hn:∀t,t<u.bw.length→(u.gr t).nodes.length≤4096∧(u.gr t).bz≤4160:=fun t ht=>⟨(hr.gr ht).len.2,(hr.gr ht).bz.2⟩
 have h1:((List.range m.at_.length).flatMap (wj m)).length≤(List.range m.at_.length).length * 100000:=by
  refine ma _ _ _ fun t ht=> ?_
  have ht:=List.mem_range.1 ht
  have hat:=h.gU t (by omega)
  obtain⟨n1,n2⟩:=hn t (by omega)
  have hs:=h.DX t (by omega)
  have a1:=my (x:=m.at_.getD t 0) [44] ⟨by omega,by omega⟩
  have a2:=ma (fun w=>eo w [44]) 22 (m.bz.getD t []) fun w hw=>my [44] (h.DY t (by omega) w hw)
  have e:(wj m t).length=(eo (m.at_.getD t 0) [44]).length+((m.bz.getD t []).flatMap (fun w=>eo w [44])).length+1:=by simp only[wj,List.length_append,List.length_cons,List.length_nil]
  simp only[List.length_cons,List.length_nil] at a1
  rw[e]
  omega
 rw[List.length_range] at h1
 have h2:=ma (fun w=>eo w [44]) 22 m.mem fun w hw=>my [44] (h.mw w hw)
 have h3:=ma (fun w=>eo w [44]) 22 m.hold fun w hw=>my [44] (by have:=h.hw w hw;exact⟨by omega,by omega⟩)
 have h4:=ma J8 50 m.cN fun p hp=>by
  obtain⟨p1,p2,p3⟩:=h.pw p hp
  have a1:=my (x:=p.db) [58] ⟨by omega,by omega⟩
  have a2:=my (x:=p.word) [44] p3
  simp only[List.length_cons,List.length_nil] at a1 a2
  unfold J8
  rw[List.length_append]
  omega
 rw[wI]
 omega
theorem eO.ZF {u:bu} {m:MS} (hr:cT u) (h:eO u m) (hp:m.cN.length≤1048576):Z6 m:=by
 have hf:=hr.qn
 refine⟨fun w hw=> ?_,by rw[h.sl,h.oH],fun l hl w hw=> ?_,h.mw,fun w hw=> ?_,fun p hp=> ?_, ?_⟩
 ·obtain⟨t,ht,rfl⟩:=List.mem_iff_getElem.1 hw
  have h1:=h.gU t (by rw[←h.oH];exact ht)
  have h2:=(hr.gr (t:=t) (by rw[←h.oH];exact ht)).len.2
  rw[show m.at_.getD t 0=m.at_[t] by simp[List.getD,ht]] at h1
  exact⟨by omega,by omega⟩
 ·obtain⟨t,ht,rfl⟩:=List.mem_iff_getElem.1 hl
  have:=h.DY t (by rw[←h.sl];exact ht) w
  rw[show m.bz.getD t []=m.bz[t] by simp[List.getD,ht]] at this
  exact this hw
 ·have:=h.hw w hw
  exact⟨by omega,by omega⟩
 ·obtain⟨p1,p2,p3⟩:=h.pw p hp
  exact⟨⟨by omega,by omega⟩,p3⟩
 ·have:=h.VW hr
  omega
theorem TY {a b:List UInt8} (h:kg a=kg b):a=b:=by
 have:=congrArg (fun x:ByteArray=>x.data.toList) h
 simpa[kg] using this
abbrev jM (l:List cU):List (ByteArray×Int):=l.map fun f=>(kg (gm f.m),1)
abbrev nt (l:List cU):List AV:=qF (fun s:ByteArray=>Value.string s) i64 (jM l)
theorem s7 (l:List cU) (k:List UInt8):ej (jM l) (kg k)=if k∈jL l then some 1 else none:=by
 split
 ·rename_i h
  cases hl:ej (jM l) (kg k) with
  |none=>
   exfalso
   refine(qA _ _).1 hl ?_
   rw[List.map_map]
   obtain⟨f,h1,h2⟩:=List.mem_map.1 h
   exact List.mem_map.2 ⟨f,h1,by simp only[Function.comp];rw[h2]⟩
  |some v=>
   have hv:∀(l:List cU),ej (jM l) (kg k)=some v→v=1:=by
    intro l
    induction l with
    |nil=>intro h;cases h
    |cons f l ih=>
     intro h
     rw[jM,List.map_cons,ej] at h
     split at h
     ·cases h;rfl
     ·exact ih h
   rw[hv l hl]
 ·rename_i h
  refine(qA _ _).2 fun hm=>h ?_
  rw[List.map_map] at hm
  obtain⟨f,h1,h2⟩:=List.mem_map.1 hm
  simp only[Function.comp] at h2
  exact List.mem_map.2 ⟨f,h1,TY h2⟩
theorem JD {l:List cU} {m:MS} {a b:Int} (h:gm m∉jL l):ij (jM l) (kg (gm m)) 1=jM (l++[⟨m,a,b⟩]):=by
 have key:∀E:List (ByteArray×Int),ej E (kg (gm m))=none→ij E (kg (gm m)) 1=E++[(kg (gm m),1)]:=by
  intro E
  induction E with
  |nil=>intro _;rfl
  |cons p E ih=>
   intro hn
   obtain⟨x,y⟩:=p
   rw[ej] at hn
   rw[ij]
   split at hn
   ·cases hn
   ·rename_i hx
    rw[if_neg hx,ih hn];rfl
 rw[key _ (by rw[s7,if_neg h]),jM,jM,List.map_append];rfl
end Go.Proofs.YtjopoheligmmoaaGreatDoor
end
section
/- All situations: the walk. -/
namespace Go.Proofs.YtjopoheligmmoaaGreatDoor
open Go Go.cY Go.Proofs
set_option linter.unusedSimpArgs false
set_option linter.unusedVariables false
set_option maxRecDepth 8000
theorem EN (u:bu) (hu:u.Wf) (hr:¬cT u) (most:Int) (g:Nat) (caps:List AV) (H0:Hp) (nx:Nat):cJ Tryz.prog 92 [u.av,i64 most, .fn (.func g) [] caps] H0 nx (fun r H n=>r= .dP [i64 0,i64 60]∧nx≤n∧∀y,y<nx→bt H y=bt H0 y):=by
 have c0:=wR u hu hr
 refine aL CT rfl ?_
 refine cV ?_
 exact⟨⟨rfl,c8,fun y hy=>cA⟩⟩
theorem uC (u:bu) (hu:u.Wf) (hr:cT u) (most:Int) (hm:¬(1≤most∧most≤65536)) (g:Nat) (caps:List AV) (H0:Hp) (nx:Nat):cJ Tryz.prog 92 [u.av,i64 most, .fn (.func g) [] caps] H0 nx (fun r H n=>r= .dP [i64 0,i64 2]∧nx≤n∧∀y,y<nx→bt H y=bt H0 y):=by
 refine aL CT rfl ?_
 refine cV ?_
 refine aJ (kV u hu hr _ _) ?_
 rintro r H1 n1 ⟨L,rfl,hM,hlt,hn1,hk1⟩
 by_cases h1:most<1
 ·refine cV ?_
  exact⟨⟨rfl,c8,fun y hy=>Eq.trans cA ((hk1 y c8).trans cA)⟩⟩
 ·have h2:65536<most:=by omega
  refine cV ?_
  exact⟨⟨rfl,c8,fun y hy=>Eq.trans cA ((hk1 y c8).trans cA)⟩⟩
theorem BQ (u:bu) (hr:cT u) (m:MS) (h:eO u m) (hp:m.cN.length≤1048576) (H0:Hp) (nx:Nat):cJ Tryz.prog 146 [m.fz u] H0 nx (fun r H n=>∃L:ML,r= .pt L.mr 1 0 0∧L.At u m H∧(∀x∈L.all,nx≤x∧x<n)∧nx≤n∧∀y,y<nx→bt H y=bt H0 y):=by
 have hgl:=hr.qn
 refine(BR u m (by have:=h.oH;omega) (by have:=h.ml;omega) (by have:=h.hl;omega) hp (by have:=h.sl;omega) (fun x hx=> ?_) H0 nx).mono ?_
 ·obtain⟨s,hs,rfl⟩:=List.mem_iff_getElem.1 hx
  have h1:=h.DX s (by rw[←h.sl];exact hs)
  have h2:=(hr.gr (t:=s) (by rw[←h.sl];exact hs)).bz.2
  rw[show m.bz.getD s []=m.bz[s] by simp[List.getD,hs]] at h1
  omega
 ·rintro r H n ⟨mr,a,s,me,ho,pr,ids,rfl,h1,h2,h3,h4⟩
  exact⟨⟨mr,a,s,me,ho,pr,ids⟩,rfl,h1,h2,h3,h4⟩
def QC (u:bu) (most:Int) (I:Nat→Hp→Prop) (nx:Nat) (H0:Hp) (r:AV) (H:Hp) (n:Nat):Prop:=
 nx≤n∧match gT u most.toNat with
 |none=>r= .dP [i64 0,i64 3]∧∀y,y<nx→bt H y=bt H0 y
 |some l=>r= .dP [i64 l.length,i64 0]∧I l.length H
set_option maxHeartbeats 4000000 in
theorem rW (u:bu) (hu:u.Wf) (hr:cT u) (most:Int) (hm:1≤most∧most≤65536) (g:Nat) (caps:List AV) (H0:Hp) (nx:Nat) (I:Nat→Hp→Prop) (hI0:I 0 H0) (hst:∀k H H',I k H→(∀y,y<nx→bt H' y=bt H y)→I k H')
 (hcl:∀l,gT u most.toNat=some l→∀k H n,k<l.length→nx≤n→I k H→cJ Tryz.prog g ([kL u l,i64 k]++caps) H n (fun _ H' n'=>I (k+1) H'∧n≤n'∧∀y,nx≤y→y<n→bt H' y=bt H y)):
 cJ Tryz.prog 92 [u.av,i64 most, .fn (.func g) [] caps] H0 nx (QC u most I nx H0):=by
 obtain⟨mo,rfl⟩:∃mo:Nat,most=mo:=⟨most.toNat,by omega⟩
 have hgl:=hr.qn
 unfold QC
 rw[Int.toNat_natCast] at hcl ⊢
 refine aL CT rfl ?_
 refine cV ?_
 refine aJ (kV u hu hr _ _) ?_
 rintro r H1 n1 ⟨L,rfl,hM,hlt,hn1,hk1⟩
 have hF:=gz.init u hu hr
 have hm0:=(hF.ok 0 hF.pos).1
 have hm0':(List.getD (jq u) 0 default).m=dK u:=rfl
 rw[hm0'] at hm0
 have g0:oy true (Value.string (kg (gm (dK u)))) [] (i64 1)=some (nt (jq u)):=rfl
 have h65:(65536:Int)<mo→False:=by omega
 refine cV ?_
 refine aS (wH u (dK u) (hm0.ZF hr (by simp[dK]))) (args2:=[(dK u).fz u]) ?_ (by simp[cZ,ng]) trivial ?_
 ·rw[List.map_cons,List.map_nil]
  congr 1
  exact(hM.cQ fun y hy=>by have:=hlt y hy;exact cA).IP 2
 refine cV ?_
 have hno:∀y,y<nx+1∨n1≤y→y∉L.all:=fun y hy hm=>by have:=hlt y hm;omega
 refine aU (fun σ:Nat×List cU=>[(1,i64 mo),(2, .fn (.func g) [] caps),(3, .pt nx 1 0 0),(10, .sl (n1+15) σ.2.length),(11, .mp (n1+17)),(12,i64 σ.1)])
  (fun σ H n=>σ.1≤σ.2.length∧σ.2.length≤mo∧gz u σ.2∧xJ u mo (mo - σ.1) σ.1 σ.2=gT u mo∧n1+23≤n∧(∃d,bt H nx=some (.row 25 3 d [u.av]))∧(∃d,bt H (n1+15)=some (.row 163 3 d (σ.2.map (cU.av u))))∧(∃e d,bt H (n1+17)=some (.row e 0 d (mapA (nt σ.2))))∧∀y,y<nx→bt H y=bt H0 y) (fun σ=>mo - σ.1) (0,jq u)
  ⟨_,_,_,Rt.wk (u9 (lb:=n1+15) (l:=[]) (fr:=-1) (th:=0) (hM.cQ ?_) bx (hno _ (by omega))),cH,Nat.zero_le _,by show 1≤mo;omega,hF,rfl,c8,⟨_,(dy (hno _ (by omega))).trans (Eq.trans cA ((hk1 nx (by omega)).trans bx))⟩,⟨_,(dy (hno _ (by omega))).trans bx⟩,⟨_,_,(dy (hno _ (by omega))).trans bx⟩,fun y hy=>(dy (hno _ (by omega))).trans (Eq.trans cA ((hk1 y c8).trans cA))⟩ ?_
 ·intro y hy
  have:=hlt y hy
  exact cA
 clear hM hlt hk1 hno
 rintro⟨k,l⟩ H n ⟨hk,hl,hfs,hall,hn,⟨d0,r0'⟩,⟨d1,r1'⟩,⟨e2,d2,r2'⟩,hkp⟩
 dsimp only at hk hl hfs hall r1' r2' ⊢
 by_cases hkl:k<l.length
 ·have e0:∀d,(l.map (cU.av u)).getD ((k:Int)).toNat d=(l.getD k default).av u:=fun d=>by rw[Int.toNat_natCast];exact dO (cU.av u) l k d hkl
  have a0:(l.map (cU.av u)).length=l.length:=by simp
  have hgeq:∀l':List cU,l<+:l'→l'.getD k default=l.getD k default:=fun l' ⟨q,hq⟩=>by rw[←hq];simp[List.getD,List.getElem?_append,hkl]
  have hmk:mo - k=(mo - (k+1))+1:=by omega
  rw[hmk,xJ,if_pos hkl] at hall
  obtain⟨hmok,hpl⟩:=hfs.ok k hkl
  have hmdef:(l.getD k default).m=(l.getD k default).m:=rfl
  generalize hmm:(l.getD k default).m=m at hmok hpl
  have e0':∀d,(l.map (cU.av u)).getD ((k:Int)).toNat d= .agg [m.fz u,i64 (l.getD k default).from_,i64 (l.getD k default).db]:=fun d=>by rw[e0 d,←hmm];rfl
  clear e0
  have e0:=e0'
  refine cV ?_
  rw[List.length_map]
  refine aU (fun σ:Nat×List cU=>[(1,i64 mo),(2, .fn (.func g) [] caps),(3, .pt nx 1 0 0),(10, .sl (n1+15) σ.2.length),(11, .mp (n1+17)),(12,i64 k),(13,m.fz u),(52,i64 u.bw.length),(53,i64 σ.1)])
   (fun σ H n=>σ.1≤u.bw.length∧k<σ.2.length∧σ.2.length≤mo∧gz u σ.2∧(σ.2.getD k default).m=m∧(match DO u mo k ((List.range u.bw.length).drop σ.1) σ.2 with
    |none=>none
    |some l2=>xJ u mo (mo - (k+1)) (k+1) l2)=gT u mo∧n1+23≤n∧(∃d,bt H nx=some (.row 25 3 d [u.av]))∧(∃d,bt H (n1+15)=some (.row 163 3 d (σ.2.map (cU.av u))))∧(∃e d,bt H (n1+17)=some (.row e 0 d (mapA (nt σ.2))))∧∀y,y<nx→bt H y=bt H0 y) (fun σ=>u.bw.length - σ.1) (0,l)
   ⟨_,_,_,Rt.refl _ _ _,cH,Nat.zero_le _,hkl,hl,hfs,hmm,hall,c8,⟨_,bx⟩,⟨_,bx⟩,⟨_,_,bx⟩,fun y hy=>Eq.trans cA (hkp y hy)⟩ ?_
  clear e0 e0' a0 r0' r1' r2' hkp hall hfs hl hkl hgeq hn hmm
  rintro⟨t,l⟩ H n ⟨ht,hkl,hl,hfs,hmm,hall,hn,⟨d0,r0'⟩,⟨d1,r1'⟩,⟨e2,d2,r2'⟩,hkp⟩
  dsimp only at ht hkl hl hfs hmm hall r1' r2' ⊢
  have a0:(l.map (cU.av u)).length=l.length:=by simp
  by_cases htl:t<u.bw.length
  ·rw[show(List.range u.bw.length).drop t=t::(List.range u.bw.length).drop (t+1) by rw[List.drop_eq_getElem_cons (by simpa using htl)];simp,DO] at hall
   have c0:=BH u hr m hmok t
   by_cases hb:m.kA u t=0
   ·have hal:=hmok.oH
    refine cV ?_
    refine aJ (BQ u hr m hmok (by omega) _ _) ?_
    rintro r H2 n2 ⟨L2,rfl,hM2,hlt2,hn2,hk2⟩
    have hlt2:∀x∈L2.all,n+7≤x∧x<n2:=hlt2
    refine cV ?_
    refine aJ (vI hu hr hmok (L:=L2) (hM2.cQ ?_) ?_ (by omega) htl hb) ?_
    ·intro y hy
     have:=hlt2 y hy
     exact cA
    ·intro y hy
     have:=hlt2 y hy
     exact c8
    rintro r H3 n3 ⟨rfl,hM3,hn3,hk3⟩
    have hno:∀y,y<n+7∨n2≤y→y∉L2.all:=fun y hy hm=>by have:=hlt2 y hm;omega
    have hold:∀y,y<n→bt H3 y=bt H y:=fun y hy=>(hk3 y c8 (hno y (by omega))).trans (Eq.trans cA ((hk2 y c8).trans cA))
    have hlt3:∀x∈L2.all,x<n3:=fun x hx=>by have:=hlt2 x hx;exact Nat.lt_of_lt_of_le this.2 c8
    obtain⟨hk9,_⟩:=kH hmok htl hb
    have hm2:=wc hu hr hmok htl hk9
    have hp2:=mL u m t
    have htry:EB u mo k t l=if gm (m.step u t).1∈jL l then some l else if l.length=mo then none else some (l++[⟨(m.step u t).1,k,t⟩]):=by
     unfold EB
     rw[hmm,if_neg (by omega)]
    rw[htry] at hall
    have hput:=fun(h:gm (m.step u t).1∉jL l)=>JD (l:=l) (m:=(m.step u t).1) (a:=k) (b:=t) h
    have hadd:=fun(h:gm (m.step u t).1∉jL l)=>hfs.add hu hr hkl htl (by rw[hmm];exact hb) (by rw[hmm];exact h)
    rw[hmm] at hadd
    generalize (m.step u t).1=m2 at *
    have hkp3:∀y,y<nx→bt H3 y=bt H0 y:=fun y hy=>(hold y (by omega)).trans (hkp y hy)
    have q0:=(hold nx (by omega)).trans r0'
    have q1:=(hold (n1+15) (by omega)).trans r1'
    have q2:=(hold (n1+17) (by omega)).trans r2'
    have hget:=CX wG i64 (kg (gm m2)) (jM l) (i64 0)
    rw[s7] at hget
    clear hk2 hk3 hM2 r0' r1' r2' hold hkp
    by_cases hin:gm m2∈jL l
    ·rw[if_pos hin] at hget hall
     have g0:mE true (Value.string (kg (gm m2))) (nt l) (i64 0)=some (i64 1,true):=hget
     refine cV ?_
     refine aS (wH u m2 (hm2.ZF hr (by omega))) (args2:=[m2.fz u]) ?_ (by simp[cZ,ng]) trivial ?_
     ·rw[List.map_cons,List.map_nil]
      congr 1
      exact(hM3.cQ fun y hy=>by have:=hlt3 y hy;exact cA).IP 2
     refine cV ?_
     exact⟨(t+1,l),by dsimp only;omega,_,_,_,Rt.refl _ _ _,cH,by dsimp only;omega,hkl,hl,hfs,hmm,hall,c8,⟨_,bx⟩,⟨_,bx⟩,⟨_,_,bx⟩,fun y hy=>Eq.trans cA (hkp3 y hy)⟩
    ·rw[if_neg hin] at hget hall
     have g0:mE true (Value.string (kg (gm m2))) (nt l) (i64 0)=some (i64 0,false):=hget
     by_cases hfull:l.length=mo
     ·rw[if_pos hfull] at hall
      refine cV ?_
      refine aS (wH u m2 (hm2.ZF hr (by omega))) (args2:=[m2.fz u]) ?_ (by simp[cZ,ng]) trivial ?_
      ·rw[List.map_cons,List.map_nil]
       congr 1
       exact(hM3.cQ fun y hy=>by have:=hlt3 y hy;exact cA).IP 2
      refine cV ?_
      have hall2:none=gT u mo:=hall
      rw[←hall2]
      exact⟨⟨c8,rfl,fun y hy=>Eq.trans cA (hkp3 y hy)⟩⟩
     ·rw[if_neg hfull] at hall
      have g1:oy true (Value.string (kg (gm m2))) (nt l) (i64 1)=some (nt (l++[⟨m2,k,t⟩])):=by
       have:=CY wG i64 (kg (gm m2)) 1 (jM l)
       rw[hput hin] at this
       exact this
      refine cV ?_
      refine aS (wH u m2 (hm2.ZF hr (by omega))) (args2:=[m2.fz u]) ?_ (by simp[cZ,ng]) trivial ?_
      ·rw[List.map_cons,List.map_nil]
       congr 1
       exact(hM3.cQ fun y hy=>by have:=hlt3 y hy;exact cA).IP 2
      refine cV ?_
      have hout:=hno
      refine⟨(t+1,l++[⟨m2,k,t⟩]),by dsimp only;omega,_,_,_,Rt.wk (u9 (L:=L2) (lb:=n1+15) (m:=m2) (l:=l) (fr:=k) (th:=t) (hM3.cQ ?_) bx (hno _ (by omega))),cH,by dsimp only;omega,by dsimp only;rw[List.length_append];omega,by dsimp only;simp only[List.length_append,List.length_cons,List.length_nil];omega,hadd hin,by dsimp only;rw[fk hkl];exact hmm,hall,c8,⟨_,(dy (hno _ (by omega))).trans bx⟩,⟨_,(dy (hno _ (by omega))).trans bx⟩,⟨_,_,(dy (hno _ (by omega))).trans bx⟩,fun y hy=>(dy (hno _ (by omega))).trans (Eq.trans cA (hkp3 y hy))⟩
      intro y hy
      have:=hlt2 y hy
      have:=hlt3 y hy
      exact cA
   ·have htry:EB u mo k t l=some l:=by
     unfold EB
     rw[hmm,if_pos hb]
    rw[htry] at hall
    refine cV ?_
    exact⟨(t+1,l),by dsimp only;omega,_,_,_,Rt.refl _ _ _,cH,by dsimp only;omega,hkl,hl,hfs,hmm,hall,c8,⟨_,bx⟩,⟨_,bx⟩,⟨_,_,bx⟩,fun y hy=>Eq.trans cA (hkp y hy)⟩
  ·have htG:t=u.bw.length:=by omega
   subst htG
   rw[List.drop_of_length_le (by simp),DO] at hall
   refine cV ?_
   exact⟨(k+1,l),by dsimp only;omega,_,_,_,Rt.refl _ _ _,cH,by dsimp only;omega,hl,hfs,hall,c8,⟨_,bx⟩,⟨_,bx⟩,⟨_,_,bx⟩,fun y hy=>Eq.trans cA (hkp y hy)⟩
 ·have hk2:k=l.length:=by omega
  refine cV ?_
  have hl2:gT u mo=some l:=by
   rw[←hall]
   subst hk2
   cases h:mo - l.length with
   |zero=>rfl
   |succ q=>rw[xJ,if_neg (by omega)]
  have hw:=fun(H':Hp) (n':Nat) (hr:bt H' (n1+15)=some (.row 163 3 d1 (l.map (cU.av u))))=>Wk.X0 (r:= .sl (n1+15) l.length) (H:=H') (nx:=n') [(n1+15,some (.row 163 3 d1 (l.map (cU.av u))))] 1 (fun b q hq=>by
   by_cases hb:b=n1+15
   ·subst hb;rw[cp] at hq;rw[←hq];exact hr
   ·rw[cX hb] at hq;cases hq)
  rw[NM (cp _ _ _) (by simp),sX] at hw
  rw[hl2]
  refine aU (fun i:Nat=>[(2, .fn (.func g) [] caps),(10,kL u l),(86,i64 l.length),(87,i64 i)])
   (fun i H n=>i≤l.length∧nx≤n∧I i H) (fun i=>l.length - i) 0
   ⟨_,_,_,Rt.slot 10 rfl (hw _ _ bx),cH,Nat.zero_le _,c8,hst 0 _ _ hI0 fun y hy=>(cX (by omega)).trans (Eq.trans cA (hkp y hy))⟩ ?_
  clear r0' r1' r2' hkp hw hn
  rintro i H n ⟨hi,hn,hI⟩
  by_cases hil:i<l.length
  ·refine cV ?_
   refine Eq.mpr (iD caps _) ?_
   show iH Tryz.prog g (kL u l::i64 i::caps) _ _ _
   refine aJ (hcl l hl2 i _ _ hil c8 (hst i H _ hI fun y hy=>cA)) ?_
   rintro _ H2 n2 ⟨hI2,hn2,_⟩
   refine cV ?_
   exact⟨i+1,by omega,_,_,_,Rt.refl _ _ _,cH,by omega,c8,hst _ _ _ hI2 fun y hy=>cA⟩
  ·obtain rfl:i=l.length:=by omega
   refine cV ?_
   exact⟨⟨c8,by rw[List.length_map],hst _ _ _ hI fun y hy=>cA⟩⟩
end Go.Proofs.YtjopoheligmmoaaGreatDoor
end
section
/- Ends compared: the code's Compare and Same. -/
namespace Go.Proofs.YtjopoheligmmoaaGreatDoor
open Go Go.cY Go.Proofs
set_option linter.unusedSimpArgs false
set_option linter.unusedVariables false
theorem H6 (p q:dV):Pure Tryz.prog 151 [p.av,q.av] (fun r=>r=i64 (jH p q)):=by
 have c0:=rn p.db q.db
 have c1:=uN p.word q.word
 have c2:=wW [eX p.db q.db,eX p.word q.word] (by simp)
 refine aI yg rfl ?_
 refine cV ?_
 refine aS (args2:=[cO [eX p.db q.db,eX p.word q.word]]) (r:=i64 (jH p q)) c2 rfl (by simp[cZ,cK]) trivial ?_
 refine cV ?_
 first|exact rfl|trivial
theorem vC {l:List dV} {i:Nat} (h:i<l.length) (d:AV):(l.map dV.av).getD ((i:Int)).toNat d=(l.getD i default).av:=by
 rw[Int.toNat_natCast];exact dO dV.av l i d h
theorem BO (a b:List dV) (ha:a.length<9223372036854775807):Pure Tryz.prog 150 [fp a,fp b, .fn (.func 151) [] []] (fun r=>r=i64 (e8 jH a b)):=by
 refine aI yf rfl ?_
 refine cV ?_
 rw[List.length_map]
 refine aM (fun i:Nat=>[(0,fp a),(1,fp b),(2, .fn (.func 151) [] []),(11,fp a),(12,i64 a.length),(13,i64 i)]) (fun i H n=>i≤a.length∧i≤b.length∧e8 jH a b=e8 jH (a.drop i) (b.drop i)) (fun i=>a.length - i) 0 cH ⟨Nat.zero_le _,Nat.zero_le _,rfl⟩ ?_
 rintro i H n ⟨hi,hib,ho⟩
 rw[ho]
 have a0:(a.map dV.av).length=a.length:=by simp
 have a1:(b.map dV.av).length=b.length:=by simp
 by_cases hil:i<a.length
 ·have e0:=fun d=>vC hil d
  by_cases hbl:i<b.length
  ·have e1:=fun d=>vC hbl d
   have hd:=vq jH default hil hbl
   have c0:=H6 (a.getD i default) (b.getD i default)
   generalize a.getD i default=p at *
   generalize b.getD i default=q at *
   by_cases hz:jH p q=0
   ·have r0:=hz
    rw[if_pos hz] at hd
    refine cV ?_
    exact⟨i+1,by omega,cH,by omega,by omega,hd⟩
   ·have r0:=decide_eq_true hz
    rw[if_neg hz] at hd
    refine cV ?_
    rw[hd]
  ·rw[rz jH hil (by omega)]
   refine cV ?_
   first|exact rfl|trivial
 ·obtain rfl:i=a.length:=by omega
  rw[rv jH (Nat.le_refl _) hib]
  by_cases h:a.length<b.length
  ·rw[if_pos h]
   refine cV ?_
   first|exact rfl|trivial
  ·rw[if_neg h]
   refine cV ?_
   first|exact rfl|trivial
theorem BM (a b:List Int) (ha:a.length<9223372036854775807):Pure Tryz.prog 153 [cO a,cO b] (fun r=>r=i64 (e8 eX a b)):=by
 refine aI yh rfl ?_
 refine cV ?_
 rw[List.length_map]
 refine aM (fun i:Nat=>[(0,cO a),(1,cO b),(9,cO a),(10,i64 a.length),(11,i64 i)]) (fun i H n=>i≤a.length∧i≤b.length∧e8 eX a b=e8 eX (a.drop i) (b.drop i)) (fun i=>a.length - i) 0 cH ⟨Nat.zero_le _,Nat.zero_le _,rfl⟩ ?_
 rintro i H n ⟨hi,hib,ho⟩
 rw[ho]
 have a0:(a.map i64).length=a.length:=by simp
 have a1:(b.map i64).length=b.length:=by simp
 by_cases hil:i<a.length
 ·have e0:=fun d=>ints_at hil d
  by_cases hbl:i<b.length
  ·have e1:=fun d=>ints_at hbl d
   have hd:=vq eX 0 hil hbl
   have c0:=uN (a.getD i 0) (b.getD i 0)
   generalize a.getD i 0=p at *
   generalize b.getD i 0=q at *
   by_cases hz:eX p q=0
   ·have r0:=hz
    rw[if_pos hz] at hd
    refine cV ?_
    exact⟨i+1,by omega,cH,by omega,by omega,hd⟩
   ·have r0:=decide_eq_true hz
    rw[if_neg hz] at hd
    refine cV ?_
    rw[hd]
  ·rw[rz eX hil (by omega)]
   refine cV ?_
   first|exact rfl|trivial
 ·obtain rfl:i=a.length:=by omega
  rw[rv eX (Nat.le_refl _) hib]
  by_cases h:a.length<b.length
  ·rw[if_pos h]
   refine cV ?_
   first|exact rfl|trivial
  ·rw[if_neg h]
   refine cV ?_
   first|exact rfl|trivial
theorem uM (a b:cm) (h1:a.cN.length<9223372036854775807) (h2:a.mem.length<9223372036854775807):Pure Tryz.prog 96 [a.av,b.av] (fun r=>r=i64 (fq a b)):=by
 have c0:=BO a.cN b.cN h1
 have c1:=BM a.mem b.mem h2
 have c2:=wW [e8 jH a.cN b.cN,e8 eX a.mem b.mem,vo a.ended b.ended] (by simp)
 obtain⟨ap,am,ae⟩:=a
 obtain⟨bp,bm,be⟩:=b
 cases ae<;>cases be<;>(refine aI OP rfl ?_;refine cV ?_;refine aS (args2:=[cO [e8 jH ap bp,e8 eX am bm,_]]) (r:=i64 (su [e8 jH ap bp,e8 eX am bm,_])) c2 rfl (by simp[cZ,cK]) trivial ?_;refine cV ?_;first|exact rfl|trivial)
theorem oA (a b:cm) (h1:a.cN.length<9223372036854775807) (h2:a.mem.length<9223372036854775807):Pure Tryz.prog 98 [a.av,b.av] (fun r=>r=bl (decide (fq a b=0))):=by
 have c0:=uM a b h1 h2
 refine aI OQ rfl ?_
 refine cV ?_
 refine ez ?_
 simp
end Go.Proofs.YtjopoheligmmoaaGreatDoor
end
section
/- Ends compared: the document's Compare; the plain laws. -/
namespace Go.Proofs.YtjopoheligmmoaaGreatDoor
open Go Go.cY Go.Proofs
set_option linter.unusedSimpArgs false
set_option linter.unusedVariables false
theorem QV (x:Int):eX x x=0:=by unfold eX;simp
end Go.Proofs.YtjopoheligmmoaaGreatDoor
end
section
/- Ends compared: the order's plain laws. -/
namespace Go.Proofs.YtjopoheligmmoaaGreatDoor
open Go Go.cY Go.Proofs
set_option linter.unusedSimpArgs false
set_option linter.unusedVariables false
theorem ru (x y:Int):eX y x=-eX x y:=by
 unfold eX
 repeat' (first|omega|split)
theorem wV:∀l:List Int,su (l.map (-·))=-su l
 |[]=>rfl
 |x::l=>by
  simp only[List.map_cons,su]
  by_cases h:x=0
  ·rw[if_pos (by omega),if_pos h];exact wV l
  ·rw[if_neg (by omega),if_neg h]
theorem L4 (p q:dV):jH q p=-jH p q:=by
 unfold jH
 rw[←wV,ru p.db,ru p.word];rfl
theorem ry {α:Type} {f:α→α→Int} (hf:∀x y,f y x=-f x y):∀a b:List α,e8 f b a=-e8 f a b
 |[],[]=>rfl
 |[],_::_=>rfl
 |_::_,[]=>rfl
 |x::a,y::b=>by
  rw[e8,e8,hf x y]
  by_cases h:f x y=0
  ·rw[if_pos (by omega),if_pos h];exact ry hf a b
  ·rw[if_neg (by omega),if_neg h]
theorem L1 (a b:Bool):vo b a=-vo a b:=by cases a<;>cases b<;>rfl
theorem L3 (a b:cm):fq b a=-fq a b:=by
 unfold fq
 rw[←wV,ry L4 a.cN,ry ru a.mem,L1 a.ended];rfl
theorem zp {l:List Int}:su l=0↔∀x∈l,x=0:=by
 induction l with
 |nil=>simp[su]
 |cons x l ih=>
  rw[su]
  by_cases h:x=0
  ·rw[if_pos h,ih];simp[h]
  ·rw[if_neg h];simp[h]
theorem kJ {x y:Int}:eX x y=0↔x=y:=by
 constructor
 ·unfold eX;intro h;revert h;repeat' (first|omega|split)
 ·rintro rfl;exact QV _
theorem pf {p q:dV}:jH p q=0↔p=q:=by
 unfold jH
 rw[zp]
 simp only[List.mem_cons,List.not_mem_nil,or_false,forall_eq_or_imp,forall_eq,kJ]
 constructor
 ·rintro⟨h1,h2⟩;cases p;cases q;simp_all
 ·rintro rfl;exact⟨rfl,rfl⟩
theorem kK {α:Type} {f:α→α→Int} (hf:∀x y,f x y=0↔x=y):∀a b:List α,e8 f a b=0↔a=b
 |[],[]=>by simp[e8]
 |[],_::_=>by simp[e8]
 |_::_,[]=>by simp[e8]
 |x::a,y::b=>by
  rw[e8]
  by_cases h:f x y=0
  ·rw[if_pos h,kK hf a b]
   have:=(hf x y).1 h
   simp[this]
  ·rw[if_neg h]
   have:x≠y:=fun e=>h ((hf x y).2 e)
   simp[h,this]
theorem pe {a b:cm}:fq a b=0↔a=b:=by
 unfold fq
 rw[zp]
 simp only[List.mem_cons,List.not_mem_nil,or_false,forall_eq_or_imp,forall_eq,kK (fun x y=>pf),kK (fun x y=>kJ)]
 constructor
 ·rintro⟨h1,h2,h3⟩
  obtain⟨ap,am,ae⟩:=a
  obtain⟨bp,bm,be⟩:=b
  cases ae<;>cases be<;>simp_all[vo]
 ·rintro rfl
  exact⟨rfl,rfl,by cases a.ended<;>rfl⟩
end Go.Proofs.YtjopoheligmmoaaGreatDoor
end
section
/- Count; the closures that ends, ways and what is shown hand to the exploring. -/
namespace Go.Proofs.YtjopoheligmmoaaGreatDoor
open Go Go.cY Go.Proofs
set_option linter.unusedSimpArgs false
set_option linter.unusedVariables false
set_option maxRecDepth 8000
open Classical in
noncomputable def eG (u:bu) (most:Int):Int×List cU:=
 if ¬cT u then(60,[]) else if ¬(1≤most∧most≤65536) then(2,[]) else match gT u most.toNat with
  |none=>(3,[])
  |some l=>(0,l)
theorem oP {u:bu} {most:Int} (h:¬cT u):eG u most=(60,[]):=by unfold eG;rw[if_pos h]
theorem kn {u:bu} {most:Int} (h:cT u) (hm:¬(1≤most∧most≤65536)):eG u most=(2,[]):=by unfold eG;rw[if_neg (fun e=>e h),if_pos hm]
theorem oQ {u:bu} {most:Int} (h:cT u) (hm:1≤most∧most≤65536):eG u most=(match gT u most.toNat with|none=>(3,[])|some l=>(0,l)):=by unfold eG;rw[if_neg (fun e=>e h),if_neg (fun e=>e hm)]
def dS (u:bu) (l:List cU) (k:Nat):List cm:=(l.take k).filterMap fun f=>if f.m.stuck u then some (f.m.end_ u) else none
theorem xc {u:bu} {l:List cU} {k:Nat} (hk:k<l.length):dS u l (k+1)=dS u l k++(if(l.getD k default).m.stuck u then[(l.getD k default).m.end_ u] else[]):=by
 unfold dS
 rw[List.take_succ_eq_append_getElem hk,List.filterMap_append,show l.getD k default=l[k] by simp[List.getD,hk]]
 congr 1
 simp only[List.filterMap_cons,List.filterMap_nil]
 split
 ·rename_i h;split at h<;>simp_all
 ·rename_i h;split at h<;>simp_all
theorem kz (u:bu) (l:List cU) (k:Nat):(dS u l k).length≤k:=by
 unfold dS
 refine Nat.le_trans (List.length_filterMap_le _ _) ?_
 rw[List.length_take];omega
set_option maxHeartbeats 1000000 in
theorem EY {u:bu} (hr:cT u) {l:List cU} (hf:gz u l) (hl:l.length≤65536) {k:Nat} (hk:k<l.length) {ub ob o:Nat} {H:Hp} {nx:Nat} (h1:ub<nx) (h2:ob<nx) (h3:o<nx) (hne:ob≠o)
 (r1:∃d,bt H ub=some (.row 25 3 d [u.av])) (r2:∃d,bt H ob=some (.row 41 1 d [.sl o (dS u l k).length])) (r3:∃d,bt H o=some (.row 105 3 d ((dS u l k).map cm.av))):
 cJ Tryz.prog 93 [kL u l,i64 k, .pt ub 1 0 0, .pt ob 1 0 0] H nx (fun _ H' n=>(∃d,bt H' ob=some (.row 41 1 d [.sl o (dS u l (k+1)).length]))∧(∃d,bt H' o=some (.row 105 3 d ((dS u l (k+1)).map cm.av)))∧nx≤n∧∀y,y<nx→y≠ob→y≠o→bt H' y=bt H y):=by
 obtain⟨d1,r1⟩:=r1
 obtain⟨d2,r2⟩:=r2
 obtain⟨d3,r3⟩:=r3
 have hel:=kz u l k
 obtain⟨hm,hp⟩:=hf.ok k hk
 have e0:∀d,(l.map (cU.av u)).getD ((k:Int)).toNat d= .agg [(l.getD k default).m.fz u,i64 (l.getD k default).from_,i64 (l.getD k default).db]:=fun d=>by rw[Int.toNat_natCast];exact dO (cU.av u) l k d hk
 have a0:(l.map (cU.av u)).length=l.length:=by simp
 have a1:((dS u l k).map cm.av).length=(dS u l k).length:=by simp
 have c0:=vA u hr (l.getD k default).m hm (by omega) (by have:=hm.ml;have:=hr.qn;omega)
 rw[xc hk]
 generalize (l.getD k default).m=m at *
 cases hs:m.stuck u with
 |true=>
  rw[lJ,hs] at c0
  refine aL JQ rfl ?_
  refine cV ?_
  refine⟨⟨⟨_,by simp only[List.length_append,if_true,List.length_cons,List.length_nil];exact bx⟩,⟨_,by simp only[List.map_append,if_true,List.map_cons,List.map_nil];exact bx⟩,c8,fun y y1 y2 y3=>cA⟩⟩
 |false=>
  rw[lJ,hs] at c0
  refine aL JQ rfl ?_
  refine cV ?_
  refine⟨⟨⟨_,by rw[if_neg (by decide),List.append_nil];exact bx⟩,⟨_,by rw[if_neg (by decide),List.append_nil];exact bx⟩,c8,fun y y1 y2 y3=>cA⟩⟩
end Go.Proofs.YtjopoheligmmoaaGreatDoor
end
section
/- Shows: the walk. -/
namespace Go.Proofs.YtjopoheligmmoaaGreatDoor
open Go Go.cY Go.Proofs
set_option linter.unusedSimpArgs false
set_option linter.unusedVariables false
set_option maxRecDepth 8000
end Go.Proofs.YtjopoheligmmoaaGreatDoor
end
section
/- Way: what it does to its list; the way back. -/
namespace Go.Proofs.YtjopoheligmmoaaGreatDoor
open Go Go.cY Go.Proofs
set_option linter.unusedSimpArgs false
set_option linter.unusedVariables false
set_option maxRecDepth 8000
def kY (l:List Int) (i:Nat):List Int:=(List.range l.length).map fun q=>if q<i∨l.length≤q+i then l.getD (l.length - 1 - q) 0 else l.getD q 0
theorem gk (l:List Int) (i:Nat):(kY l i).length=l.length:=by simp[kY]
theorem mz {l:List Int} {i q:Nat} (h:q<l.length):(kY l i).getD q 0=if q<i∨l.length≤q+i then l.getD (l.length - 1 - q) 0 else l.getD q 0:=by simp[kY,List.getD,h]
theorem KE (l:List Int):kY l 0=l:=by
 apply List.ext_getElem (gk l 0)
 intro q h1 h2
 have:=mz (l:=l) (i:=0) h2
 rw[if_neg (by omega)] at this
 simpa[List.getD,h1,h2] using this
theorem PH {l:List Int} {i:Nat} (h:l.length≤2 * i+1):kY l i=l.reverse:=by
 apply List.ext_getElem (by simp[gk])
 intro q h1 h2
 have hq:q<l.length:=by simpa using h2
 have:=mz (l:=l) (i:=i) hq
 rw[show(kY l i).getD q 0=(kY l i)[q] by simp[List.getD,h1]] at this
 rw[this,List.getElem_reverse]
 split
 ·simp[List.getD,show l.length - 1 - q<l.length by omega]
 ·have:q=l.length - 1 - q:=by omega
  conv=>lhs;rw[this]
  simp[List.getD,show l.length - 1 - q<l.length by omega]
theorem KD {l:List Int} {i:Nat} (h:2 * i+1<l.length):((kY l i).set i (l.getD (l.length - 1 - i) 0)).set (l.length - 1 - i) (l.getD i 0)=kY l (i+1):=by
 apply List.ext_getElem (by simp[gk])
 intro q h1 h2
 have hq:q<l.length:=by simpa[gk] using h2
 have e1:=mz (l:=l) (i:=i) hq
 have e2:=mz (l:=l) (i:=i+1) hq
 rw[show(kY l (i+1)).getD q 0=(kY l (i+1))[q] by simp[List.getD,h2]] at e2
 rw[show(kY l i).getD q 0=(kY l i)[q]'(by rw[gk];exact hq) by simp[List.getD,gk,hq]] at e1
 rw[e2,List.getElem_set,List.getElem_set,e1]
 by_cases c1:l.length - 1 - i=q
 ·subst c1
  rw[if_pos rfl,if_pos (by omega),show l.length - 1 - (l.length - 1 - i)=i by omega]
 ·rw[if_neg c1]
  by_cases c2:i=q
  ·subst c2
   rw[if_pos rfl,if_pos (by omega)]
  ·rw[if_neg c2]
   by_cases c3:q<i∨l.length≤q+i
   ·rw[if_pos c3,if_pos (by omega)]
   ·rw[if_neg c3,if_neg (by omega)]
set_option maxHeartbeats 1000000 in
theorem pL {b:Nat} {l:List Int} {H:Hp} {nx:Nat} (hb:b<nx) (hl:l.length≤1048576) (r:∃d,bt H b=some (.row 3 1 d (l.map i64))):
 cJ Tryz.prog 83 [.sl b l.length] H nx (fun _ H' n=>(∃d,bt H' b=some (.row 3 1 d (l.reverse.map i64)))∧nx≤n∧∀y,y<nx→y≠b→bt H' y=bt H y):=by
 obtain⟨d0,r0'⟩:=r
 refine aL OL rfl ?_
 have a0:(l.map i64).length=l.length:=by simp
 refine cV ?_
 refine aM (fun σ:Nat×Int=>[(0, .sl b l.length),(2,i64 σ.1),(3,i64 σ.2)]) (fun σ H2 n=>σ.2=(l.length:Int) - 1 - σ.1∧2 * σ.1≤l.length+1∧nx≤n∧(∃d,bt H2 b=some (.row 3 1 d ((kY l σ.1).map i64)))∧∀y,y<nx→y≠b→bt H2 y=bt H y) (fun σ=>l.length - σ.1) (0,(l.length:Int) - 1) cH ⟨by simp,by dsimp only;omega,c8,⟨d0,by rw[KE];exact bx⟩,fun y h1 h2=>cA⟩ ?_
 clear r0' a0
 rintro⟨i,j⟩ H2 n ⟨hj,hi,hn,⟨d,r1⟩,hk⟩
 dsimp only at hj hi r1 ⊢
 have a0:((kY l i).map i64).length=l.length:=by simp[gk]
 by_cases hc:2 * i+1<l.length
 ·obtain⟨jn,rfl⟩:∃jn:Nat,j=jn:=⟨j.toNat,by omega⟩
  have hjn:jn=l.length - 1 - i:=by omega
  have e0:=fun d=>ints_at (l:=kY l i) (k:=i) (by rw[gk];omega) d
  have e1:=fun d=>ints_at (l:=kY l i) (k:=jn) (by rw[gk];omega) d
  have e2:∀x d,(((kY l i).map i64).set ((i:Int)).toNat x).getD ((jn:Int)).toNat d=i64 ((kY l i).getD jn 0):=fun x d=>by
   rw[getD_set_ne (by omega)];exact e1 d
  have v0:=mz (l:=l) (i:=i) (q:=i) (by omega)
  rw[if_neg (by omega)] at v0
  have v1:=mz (l:=l) (i:=i) (q:=jn) (by omega)
  rw[if_neg (by omega)] at v1
  rw[v0] at e0
  rw[v1] at e1 e2
  have e3:=e2 (i64 (l.getD jn 0))
  clear e2
  have hnx:=KD hc
  rw[←hjn] at hnx
  refine cV ?_
  refine⟨(i+1,(jn:Int) - 1),by dsimp only;omega,cH,by dsimp only;omega,by dsimp only;omega,c8,⟨_,by dsimp only;rw[←hnx,List.map_set,List.map_set];exact bx⟩,fun y h1 h2=>Eq.trans cA (hk y h1 h2)⟩
 ·refine cV ?_
  rw[PH (by omega)] at r1
  exact⟨⟨d,bx⟩,c8,fun y h1 h2=>Eq.trans cA (hk y h1 h2)⟩
def iV (l:List cU):Nat→Nat→List Int
 |0,_=>[]
 |f+1,k=>if 0≤(l.getD k default).from_ then(l.getD k default).db::iV l f (l.getD k default).from_.toNat else[]
theorem gz.vz {u:bu} {l:List cU} (h:gz u l) {k:Nat} (hk:k<l.length) (h0:0≤(l.getD k default).from_):(l.getD k default).from_.toNat<k∧0<k:=by
 rcases Nat.eq_zero_or_pos k with e|e
 ·subst e;rw[h.first] at h0;exact absurd h0 (by simp)
 ·obtain⟨k',t,h1,_,_,h2⟩:=h.HX k e hk
  rw[h2]
  exact⟨by dsimp only;omega,e⟩
theorem re {u:bu} {l:List cU} (h:gz u l):∀{f g k:Nat},k<l.length→k≤f→k≤g→iV l f k=iV l g k
 |0,0,k,hk,hf,hg=>rfl
 |0,g+1,k,hk,hf,hg=>by
  obtain rfl:k=0:=by omega
  rw[iV,iV,h.first];rfl
 |f+1,0,k,hk,hf,hg=>by
  obtain rfl:k=0:=by omega
  rw[iV,iV,h.first];rfl
 |f+1,g+1,k,hk,hf,hg=>by
  rw[iV,iV]
  split
  ·rename_i h0
   obtain⟨h1,h2⟩:=h.vz hk h0
   rw[re h (f:=f) (g:=g) (by omega) (by omega) (by omega)]
  ·rfl
abbrev lP (l:List cU) (k:Nat):List Int:=iV l k k
theorem rf {u:bu} {l:List cU} (h:gz u l) {k:Nat} (hk:k<l.length) (h0:0≤(l.getD k default).from_):lP l k=(l.getD k default).db::lP l (l.getD k default).from_.toNat:=by
 obtain⟨h1,h2⟩:=h.vz hk h0
 obtain⟨f,rfl⟩:∃f,k=f+1:=⟨k - 1,by omega⟩
 show iV l (f+1) (f+1)=_
 rw[iV,if_pos h0]
 congr 1
 exact re h (by omega) (by omega) (Nat.le_refl _)
theorem uH {l:List cU} {k:Nat} (h0:¬0≤(l.getD k default).from_):lP l k=[]:=by
 show iV l k k=[]
 cases k with
 |zero=>rfl
 |succ f=>rw[iV,if_neg h0]
theorem uG (l:List cU):∀f k,(iV l f k).length≤f
 |0,k=>Nat.le_refl _
 |f+1,k=>by
  rw[iV]
  split
  ·rw[List.length_cons];have:=uG l f (l.getD k default).from_.toNat;omega
  ·simp
def fM (u:bu) (l:List cU) (e:cm) (k:Nat):Option Nat:=(List.range k).find? fun i=>(l.getD i default).m.stuck u&&decide (fq ((l.getD i default).m.end_ u) e=0)
theorem CG (u:bu) (l:List cU) (e:cm) (k:Nat):fM u l e (k+1)=match fM u l e k with
 |some i=>some i
 |none=>if(l.getD k default).m.stuck u&&decide (fq ((l.getD k default).m.end_ u) e=0) then some k else none:=by
 unfold fM
 rw[List.range_succ,List.find?_append]
 cases(List.range k).find? fun i=>(l.getD i default).m.stuck u&&decide (fq ((l.getD i default).m.end_ u) e=0) with
 |some i=>rfl
 |none=>
  simp only[Option.none_or,List.find?_cons,List.find?_nil]
  split<;>simp_all
theorem NJ {u:bu} {l:List cU} {e:cm} {k i:Nat} (h:fM u l e k=some i):i<k:=by
 have:=List.mem_of_find?_eq_some h
 exact List.mem_range.1 this
def gw (l:List cU):Option Nat→List Int
 |none=>[]
 |some i=>(lP l i).reverse
set_option maxHeartbeats 2000000 in
theorem WV {u:bu} (hr:cT u) {l:List cU} (hf:gz u l) (hl:l.length≤65536) {e:cm} (he1:e.cN.length * 16≤140737488355328) (he2:e.mem.length * 8≤140737488355328) {k:Nat} (hk:k<l.length) {ub ib eb wb W:Nat} {H:Hp} {nx:Nat} (hn:ub<nx∧ib<nx∧eb<nx∧wb<nx∧W<nx) (hne:ub≠ib∧ub≠wb∧ub≠W∧ib≠eb∧ib≠wb∧ib≠W∧eb≠wb∧eb≠W∧wb≠W)
 (r0:∃d,bt H ub=some (.row 25 3 d [u.av])) (r1:∃d,bt H ib=some (.row 4 1 d [bl (fM u l e k).isSome])) (r2:∃d,bt H eb=some (.row 105 3 d [e.av])) (r3:∃d,bt H wb=some (.row 31 1 d [.sl W (gw l (fM u l e k)).length])) (r4:∃d,bt H W=some (.row 3 1 d ((gw l (fM u l e k)).map i64))):
 cJ Tryz.prog 103 [kL u l,i64 k, .pt ub 1 0 0, .pt ib 1 0 0, .pt eb 1 0 0, .pt wb 1 0 0] H nx (fun _ H' n=>(∃d,bt H' ib=some (.row 4 1 d [bl (fM u l e (k+1)).isSome]))∧(∃d,bt H' wb=some (.row 31 1 d [.sl W (gw l (fM u l e (k+1))).length]))∧(∃d,bt H' W=some (.row 3 1 d ((gw l (fM u l e (k+1))).map i64)))∧nx≤n∧∀y,y<nx→y≠ib→y≠wb→y≠W→bt H' y=bt H y):=by
 obtain⟨d0,r0'⟩:=r0
 obtain⟨d1,r1'⟩:=r1
 obtain⟨d2,r2'⟩:=r2
 obtain⟨d3,r3'⟩:=r3
 obtain⟨d4,r4'⟩:=r4
 obtain⟨n0,n1,n2,n3,n4⟩:=hn
 obtain⟨m0,m1,m2,m3,m4,m5,m6,m7,m8⟩:=hne
 obtain⟨hm,hp⟩:=hf.ok k hk
 have e0:∀d,(l.map (cU.av u)).getD ((k:Int)).toNat d= .agg [(l.getD k default).m.fz u,i64 (l.getD k default).from_,i64 (l.getD k default).db]:=fun d=>by rw[Int.toNat_natCast];exact dO (cU.av u) l k d hk
 have a0:(l.map (cU.av u)).length=l.length:=by simp
 have hgl:=hr.qn
 have hml:=hm.ml
 have c0:=vA u hr (l.getD k default).m hm (by omega) (by omega)
 have c1:=oA ((l.getD k default).m.end_ u) e (by show(l.getD k default).m.cN.length<_;omega) (by show(l.getD k default).m.mem.length<_;omega)
 rw[CG]
 cases hh:fM u l e k with
 |some i=>
  rw[hh] at r1' r3' r4'
  dsimp only
  generalize (l.getD k default).m=m at *
  cases hs:m.stuck u with
  |true=>
   rw[lJ,hs] at c0
   refine aL oq rfl ?_
   refine cV ?_
   exact⟨⟨_,bx⟩,⟨_,bx⟩,⟨_,bx⟩,c8,fun y y1 y2 y3 y4=>cA⟩
  |false=>
   rw[lJ,hs] at c0
   refine aL oq rfl ?_
   refine cV ?_
   exact⟨⟨_,bx⟩,⟨_,bx⟩,⟨_,bx⟩,c8,fun y y1 y2 y3 y4=>cA⟩
 |none=>
  rw[hh] at r1' r3' r4'
  dsimp only
  by_cases hs:(l.getD k default).m.stuck u=true
  ·rw[lJ,hs] at c0
   by_cases hc:fq ((l.getD k default).m.end_ u) e=0
   ·rw[hs,decide_eq_true hc,if_pos (by rfl)]
    rw[decide_eq_true hc] at c1
    refine aL oq rfl ?_
    refine cV ?_
    clear c0 c1 e0 r0' r2'
    have hway:gw l none=[]:=rfl
    rw[hway] at r3' r4'
    refine aM (fun σ:Nat×List Int=>[(0,kL u l),(5, .pt wb 1 0 0),(10,i64 σ.1)])
     (fun σ H2 n=>σ.1<l.length∧σ.2++lP l σ.1=lP l k∧nx≤n∧(∃d,bt H2 ib=some (.row 4 1 d [bl true]))∧(∃d,bt H2 wb=some (.row 31 1 d [.sl W σ.2.length]))∧(∃d,bt H2 W=some (.row 3 1 d (σ.2.map i64)))∧∀y,y<nx→y≠ib→y≠wb→y≠W→bt H2 y=bt H y) (fun σ=>σ.1) (k,[]) cH
     ⟨hk,rfl,c8,⟨_,bx⟩,⟨_,bx⟩,⟨_,bx⟩,fun y y1 y2 y3 y4=>cA⟩ ?_
    clear r1' r3' r4'
    rintro⟨at_,acc⟩ H2 n ⟨hat,hacc,hn2,⟨d1,r1'⟩,⟨d3,r3'⟩,⟨d4,r4'⟩,hkp⟩
    dsimp only at hat hacc r3' r4' ⊢
    have hbl:=uG l k k
    have hal:acc.length≤65536:=by
     have:=congrArg List.length hacc
     rw[List.length_append] at this
     have:(lP l k).length≤k:=hbl
     omega
    have a1:(acc.map i64).length=acc.length:=by simp
    have e0:∀d,(l.map (cU.av u)).getD ((at_:Int)).toNat d= .agg [(l.getD at_ default).m.fz u,i64 (l.getD at_ default).from_,i64 (l.getD at_ default).db]:=fun d=>by rw[Int.toNat_natCast];exact dO (cU.av u) l at_ d hat
    by_cases h0:0≤(l.getD at_ default).from_
    ·obtain⟨hlt,hpos⟩:=hf.vz hat h0
     have hon:=rf hf hat h0
     obtain⟨q,hq⟩:∃q:Nat,(l.getD at_ default).from_=q:=⟨_,(Int.toNat_of_nonneg h0).symm⟩
     rw[hq] at e0 hlt hon
     rw[Int.toNat_natCast] at hlt hon
     have hge:¬(q:Int)<0:=by omega
     refine cV ?_
     refine⟨(q,acc++[(l.getD at_ default).db]),hlt,cH,by dsimp only;omega,by dsimp only;rw[List.append_assoc,List.singleton_append,←hon];exact hacc,c8,⟨_,bx⟩,⟨_,by dsimp only;rw[List.length_append];exact bx⟩,⟨_,by dsimp only;rw[List.map_append];exact bx⟩,fun y y1 y2 y3 y4=>Eq.trans cA (hkp y y1 y2 y3 y4)⟩
    ·have hon:=uH h0
     rw[hon,List.append_nil] at hacc
     subst hacc
     refine cV ?_
     refine aJ (pL (b:=W) (l:=lP l k) ?_ (by omega) ?_) ?_
     ·exact c8
     ·exact⟨_,bx⟩
     rintro _ H3 n3 ⟨⟨d5,r5⟩,hn3,hk3⟩
     have q1:=hk3 ib c8 (by omega)
     have q2:=hk3 wb c8 (by omega)
     refine cV ?_
     exact⟨⟨d1,q1.trans bx⟩,⟨d3,by simp only[gw,List.length_reverse];exact q2.trans bx⟩,⟨d5,bx⟩,c8,fun y y1 y2 y3 y4=>(hk3 y c8 y4).trans (Eq.trans cA (hkp y y1 y2 y3 y4))⟩
   ·rw[hs,decide_eq_false hc,if_neg (by decide)]
    rw[decide_eq_false hc] at c1
    refine aL oq rfl ?_
    refine cV ?_
    exact⟨⟨_,bx⟩,⟨_,bx⟩,⟨_,bx⟩,c8,fun y y1 y2 y3 y4=>cA⟩
  ·have hs2:(l.getD k default).m.stuck u=false:=by simpa using hs
   rw[lJ,hs2] at c0
   rw[hs2,Bool.false_and,if_neg (by decide)]
   refine aL oq rfl ?_
   refine cV ?_
   exact⟨⟨_,bx⟩,⟨_,bx⟩,⟨_,bx⟩,c8,fun y y1 y2 y3 y4=>cA⟩
end Go.Proofs.YtjopoheligmmoaaGreatDoor
end
