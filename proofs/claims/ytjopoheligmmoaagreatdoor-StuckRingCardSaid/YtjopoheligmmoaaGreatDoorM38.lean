import Derived.Test.YtjopoheligmmoaaGreatDoorM34
import Derived.Test.YtjopoheligmmoaaGreatDoorM36
import Derived.Test.YtjopoheligmmoaaGreatDoorM37
import Derived.Lib.ItoaLen
import Derived.Test.YtjopoheligmmoaaGreatDoorM32
section
/- A machine in rows told by value, within a list of what was found. -/
namespace Go.Proofs.YtjopoheligmmoaaGreatDoor
open Go Go.cY Go.Proofs
set_option linter.unusedSimpArgs false
set_option linter.unusedVariables false
set_option maxRecDepth 8000
def ja (S:List Nat) (H:Hp):Hp:=S.map fun y=>(y,bt H y)
theorem zp {S:List Nat} {H:Hp} {y:Nat} (h:y∈S):bt (ja S H) y=bt H y:=by
 induction S with
 |nil=>cases h
 |cons x S ih=>
  rw[ja,List.map_cons]
  by_cases e:y=x
  ·subst e;exact cp _ _ _
  ·rw[cW e]
   exact ih (by simpa[e] using h)
theorem qF {S:List Nat} {H:Hp} {y:Nat} {q:eR} (h:bt (ja S H) y=some q):bt H y=some q:=by
 have:y∈S:=by
  have:=mU h
  simpa[ja] using this
 rw[zp this] at h;exact h
theorem eF {S:List Nat} {H H2:Hp} {y:Nat} (h:y∉S):bt (lF (ja S H) H2) y=bt H2 y:=fQ (by simpa[ja] using h)
section
variable {u:bu} {m:MS} {L:ML} {H:Hp}
theorem ML.At.tG (h:L.At u m H) (k:Nat):Go.cY.gk (ja L.all H) (k+4) (.pt L.mr 1 0 0)=m.fz u:=by
 have h:=h.cQ (H':=ja L.all H) fun y hy=>zp hy
 generalize ja L.all H=G at *
 obtain⟨d1,h1⟩:=h.rM
 obtain⟨d2,h2⟩:=h.rA
 obtain⟨d3,h3⟩:=h.rS
 obtain⟨d4,h4⟩:=h.rE
 obtain⟨d5,h5⟩:=h.rH
 obtain⟨d6,h6⟩:=h.rP
 have hsl:(eQ L.ids m.bz).length=m.bz.length:=ui h.len
 have hs:(eQ L.ids m.bz).map (Go.cY.gk G (k+1))=m.bz.map cS:=by
  apply List.ext_getElem (by simp[hsl])
  intro t q1 q2
  have ht:t<m.bz.length:=by simpa using q2
  have hti:t<L.ids.length:=by rw[h.len];exact ht
  obtain⟨d,hd⟩:=h.rL t ht
  rw[show L.ids.getD t 0=L.ids[t] by simp[List.getD,hti],show m.bz.getD t []=m.bz[t] by simp[List.getD,ht]] at hd
  rw[List.getElem_map,List.getElem_map]
  simp only[eQ,List.getElem_map,List.getElem_zip]
  rw[mV hd (by simp),fm _ ((cC _ _).2 fun _ _=>by simp[cL])]
 rw[show Go.cY.gk G (k+4) (.pt L.mr 1 0 0)= .ip 8 .any ([m.rows u L.a L.s L.me L.ho L.pr].map (Go.cY.gk G (k+3))) 0 0 from QS h1 rfl]
 simp only[List.map_cons,List.map_nil,MS.rows]
 rw[xh]
 simp only[List.map_cons,List.map_nil]
 rw[mV h2 (by simp),mV h3 hsl,mV h4 (by simp),mV h5 (by simp),mV h6 (by simp),hs]
 rw[fm _ ((cC _ _).2 fun _ _=>by simp[cL]),fm _ ((cC _ _).2 fun _ _=>by simp[cL]),fm _ ((cC _ _).2 fun _ _=>by simp[cL]),fm _ ((cC _ _).2 fun _ _=>by simp[cL])]
 rw[kJ _ (show cL 0 (cr u.shared) by simp[cL,cC]),kJ _ (show cL 0 (cr u.cD) by simp[cL,cC]),kJ _ (show cL 0 (dc u.bx) by simp[cL,cC])]
 rfl
end
def cT.cells (u:bu) (f:cT):List AV:=[f.m.fz u,i64 f.from_,i64 f.da]
abbrev cT.av (u:bu) (f:cT):AV:= .agg (f.cells u)
abbrev kB (u:bu) (l:List cT):AV:= .im 3 .any (l.map (cT.av u))
@[simp] theorem HJ (n:Nat) (u:bu) (f:cT):cX n (f.cells u):=by
  have:=nV n u f.m
  simp[cT.cells,cX,cL]
theorem BE (u:bu) (l:List cT):cX 0 (l.map (cT.av u)):=(cC _ _).2 fun _ _=>by simp only[cT.av,cL];exact HJ _ _ _
theorem uN {u:bu} {m:MS} {L:ML} {H:Hp} {lb nx:Nat} {d:AV} {l:List cT} {fr th:Int} (hM:L.At u m H) (hl:bt H lb=some (.row 163 3 d (l.map (cT.av u)++[.agg [.pt L.mr 1 0 0,i64 fr,i64 th]]))) (hlb:lb∉L.all):
 Wk .any H nx .any (lF (ja L.all H) ((lb,some (.row 163 3 .any ((l++[(⟨m,fr,th⟩:cT)]).map (cT.av u))))::H)) nx:=by
 have:=Wk.gk (nx:=nx) (ja L.all H) 5 .any hl (fun b q hq=>qF hq)
 rw[List.map_append,fm _ (BE u l),List.map_cons,List.map_nil,xh,List.map_cons,List.map_cons,List.map_cons,List.map_nil,hM.tG 0,kJ _ (show cL 0 (i64 fr) by simp[cL]),kJ _ (show cL 0 (i64 th) by simp[cL])] at this
 rw[List.map_append]
 exact this
end Go.Proofs.YtjopoheligmmoaaGreatDoor
end
section
/- Keys are short, and tell situations apart as texts do. -/
namespace Go.Proofs.YtjopoheligmmoaaGreatDoor
open Go Go.cY Go.Proofs
set_option linter.unusedSimpArgs false
set_option linter.unusedVariables false
theorem mS {α:Type} (f:α→List UInt8) (k:Nat):∀l:List α,(∀a∈l,(f a).length≤k)→(l.flatMap f).length≤l.length * k
 |[],_=>by simp
 |a::l,h=>by
  have h1:=mS f k l fun b hb=>h b (by simp[hb])
  have h2:=h a (by simp)
  rw[List.flatMap_cons,List.length_append,List.length_cons,Nat.add_mul]
  omega
theorem mg {x:Int} (e:List UInt8) (h:eM x):(ee x e).length≤21+e.length:=by
 have:=Go.Lib.itoa_length_le x h.1 (by have:=h.2;omega)
 unfold ee
 rw[List.length_append]
 omega
theorem eN.VA {u:bu} {m:MS} (hr:cZ u) (h:eN u m):(gl m).length≤100000000+m.cN.length * 50:=by
 have hf:=hr.qO
 have hal:=h.pW
 have hml:=h.ml
 have hhl:=h.hl
 have hn:∀t,t<u.bx.length→(u.gr t).nodes.length≤4096∧(u.gr t).bz≤4160:=fun t ht=>⟨(hr.gr ht).len.2,(hr.gr ht).bz.2⟩
 have h1:((List.range m.at_.length).flatMap (wX m)).length≤(List.range m.at_.length).length * 100000:=by
  refine mS _ _ _ fun t ht=> ?_
  have ht:=List.mem_range.1 ht
  have hat:=h.gR t (by omega)
  obtain⟨n1,n2⟩:=hn t (by omega)
  have hs:=h.C7 t (by omega)
  have a1:=mg (x:=m.at_.getD t 0) [44] ⟨by omega,by omega⟩
  have a2:=mS (fun w=>ee w [44]) 22 (m.bz.getD t []) fun w hw=>mg [44] (h.C8 t (by omega) w hw)
  have e:(wX m t).length=(ee (m.at_.getD t 0) [44]).length+((m.bz.getD t []).flatMap (fun w=>ee w [44])).length+1:=by simp only[wX,List.length_append,List.length_cons,List.length_nil]
  simp only[List.length_cons,List.length_nil] at a1
  rw[e]
  omega
 rw[List.length_range] at h1
 have h2:=mS (fun w=>ee w [44]) 22 m.mem fun w hw=>mg [44] (h.mw w hw)
 have h3:=mS (fun w=>ee w [44]) 22 m.hold fun w hw=>mg [44] (by have:=h.hw w hw;exact⟨by omega,by omega⟩)
 have h4:=mS JH 50 m.cN fun p hp=>by
  obtain⟨p1,p2,p3⟩:=h.pw p hp
  have a1:=mg (x:=p.da) [58] ⟨by omega,by omega⟩
  have a2:=mg (x:=p.word) [44] p3
  simp only[List.length_cons,List.length_nil] at a1 a2
  unfold JH
  rw[List.length_append]
  omega
 rw[vq]
 omega
theorem eN.YR {u:bu} {m:MS} (hr:cZ u) (h:eN u m) (hp:m.cN.length≤1048576):ZI m:=by
 have hf:=hr.qO
 refine⟨fun w hw=> ?_,by rw[h.sl,h.pW],fun l hl w hw=> ?_,h.mw,fun w hw=> ?_,fun p hp=> ?_, ?_⟩
 ·obtain⟨t,ht,rfl⟩:=List.mem_iff_getElem.1 hw
  have h1:=h.gR t (by rw[←h.pW];exact ht)
  have h2:=(hr.gr (t:=t) (by rw[←h.pW];exact ht)).len.2
  rw[show m.at_.getD t 0=m.at_[t] by simp[List.getD,ht]] at h1
  exact⟨by omega,by omega⟩
 ·obtain⟨t,ht,rfl⟩:=List.mem_iff_getElem.1 hl
  have:=h.C8 t (by rw[←h.sl];exact ht) w
  rw[show m.bz.getD t []=m.bz[t] by simp[List.getD,ht]] at this
  exact this hw
 ·have:=h.hw w hw
  exact⟨by omega,by omega⟩
 ·obtain⟨p1,p2,p3⟩:=h.pw p hp
  exact⟨⟨by omega,by omega⟩,p3⟩
 ·have:=h.VA hr
  omega
theorem TA {a b:List UInt8} (h:kV a=kV b):a=b:=by
 have:=congrArg (fun x:ByteArray=>x.data.toList) h
 simpa[kV] using this
abbrev jI (l:List cT):List (ByteArray×Int):=l.map fun f=>(kV (gl f.m),1)
abbrev ng (l:List cT):List AV:=px (fun s:ByteArray=>Value.string s) i64 (jI l)
theorem sJ (l:List cT) (k:List UInt8):ed (jI l) (kV k)=if k∈jH l then some 1 else none:=by
 split
 ·rename_i h
  cases hl:ed (jI l) (kV k) with
  |none=>
   exfalso
   refine(pj _ _).1 hl ?_
   rw[List.map_map]
   obtain⟨f,h1,h2⟩:=List.mem_map.1 h
   exact List.mem_map.2 ⟨f,h1,by simp only[Function.comp];rw[h2]⟩
  |some v=>
   have hv:∀(l:List cT),ed (jI l) (kV k)=some v→v=1:=by
    intro l
    induction l with
    |nil=>intro h;cases h
    |cons f l ih=>
     intro h
     rw[jI,List.map_cons,ed] at h
     split at h
     ·cases h;rfl
     ·exact ih h
   rw[hv l hl]
 ·rename_i h
  refine(pj _ _).2 fun hm=>h ?_
  rw[List.map_map] at hm
  obtain⟨f,h1,h2⟩:=List.mem_map.1 hm
  simp only[Function.comp] at h2
  exact List.mem_map.2 ⟨f,h1,TA h2⟩
theorem IJ {l:List cT} {m:MS} {a b:Int} (h:gl m∉jH l):iY (jI l) (kV (gl m)) 1=jI (l++[⟨m,a,b⟩]):=by
 have key:∀E:List (ByteArray×Int),ed E (kV (gl m))=none→iY E (kV (gl m)) 1=E++[(kV (gl m),1)]:=by
  intro E
  induction E with
  |nil=>intro _;rfl
  |cons p E ih=>
   intro hn
   obtain⟨x,y⟩:=p
   rw[ed] at hn
   rw[iY]
   split at hn
   ·cases hn
   ·rename_i hx
    rw[if_neg hx,ih hn];rfl
 rw[key _ (by rw[sJ,if_neg h]),jI,jI,List.map_append];rfl
end Go.Proofs.YtjopoheligmmoaaGreatDoor
end
section
/- All situations: the walk. -/
namespace Go.Proofs.YtjopoheligmmoaaGreatDoor
open Go Go.cY Go.Proofs
set_option linter.unusedSimpArgs false
set_option linter.unusedVariables false
set_option maxRecDepth 8000
theorem DV (u:bu) (hu:u.Wf) (hr:¬cZ u) (most:Int) (g:Nat) (caps:List AV) (H0:Hp) (nx:Nat):cJ Tryz.prog 92 [u.av,i64 most, .fn (.func g) [] caps] H0 nx (fun r H n=>r= .dQ [i64 0,i64 60]∧nx≤n∧∀y,y<nx→bt H y=bt H0 y):=by
 have c0:=R9 u hu hr
 refine aM B1 rfl ?_
 refine cU ?_
 exact⟨⟨rfl,c8,fun y hy=>cB⟩⟩
theorem tW (u:bu) (hu:u.Wf) (hr:cZ u) (most:Int) (hm:¬(1≤most∧most≤65536)) (g:Nat) (caps:List AV) (H0:Hp) (nx:Nat):cJ Tryz.prog 92 [u.av,i64 most, .fn (.func g) [] caps] H0 nx (fun r H n=>r= .dQ [i64 0,i64 2]∧nx≤n∧∀y,y<nx→bt H y=bt H0 y):=by
 refine aM B1 rfl ?_
 refine cU ?_
 refine aJ (sV u hu hr _ _) ?_
 rintro r H1 n1 ⟨L,rfl,hM,hlt,hn1,hk1⟩
 by_cases h1:most<1
 ·refine cU ?_
  exact⟨⟨rfl,c8,fun y hy=>Eq.trans cB ((hk1 y c8).trans cB)⟩⟩
 ·have h2:65536<most:=by omega
  refine cU ?_
  exact⟨⟨rfl,c8,fun y hy=>Eq.trans cB ((hk1 y c8).trans cB)⟩⟩
theorem AY (u:bu) (hr:cZ u) (m:MS) (h:eN u m) (hp:m.cN.length≤1048576) (H0:Hp) (nx:Nat):cJ Tryz.prog 146 [m.fz u] H0 nx (fun r H n=>∃L:ML,r= .pt L.mr 1 0 0∧L.At u m H∧(∀x∈L.all,nx≤x∧x<n)∧nx≤n∧∀y,y<nx→bt H y=bt H0 y):=by
 have hgl:=hr.qO
 refine(AZ u m (by have:=h.pW;omega) (by have:=h.ml;omega) (by have:=h.hl;omega) hp (by have:=h.sl;omega) (fun x hx=> ?_) H0 nx).mono ?_
 ·obtain⟨s,hs,rfl⟩:=List.mem_iff_getElem.1 hx
  have h1:=h.C7 s (by rw[←h.sl];exact hs)
  have h2:=(hr.gr (t:=s) (by rw[←h.sl];exact hs)).bz.2
  rw[show m.bz.getD s []=m.bz[s] by simp[List.getD,hs]] at h1
  omega
 ·rintro r H n ⟨mr,a,s,me,ho,pr,ids,rfl,h1,h2,h3,h4⟩
  exact⟨⟨mr,a,s,me,ho,pr,ids⟩,rfl,h1,h2,h3,h4⟩
def PK (u:bu) (most:Int) (I:Nat→Hp→Prop) (nx:Nat) (H0:Hp) (r:AV) (H:Hp) (n:Nat):Prop:=
 nx≤n∧match gQ u most.toNat with
 |none=>r= .dQ [i64 0,i64 3]∧∀y,y<nx→bt H y=bt H0 y
 |some l=>r= .dQ [i64 l.length,i64 0]∧I l.length H
set_option maxHeartbeats 4000000 in
theorem rD (u:bu) (hu:u.Wf) (hr:cZ u) (most:Int) (hm:1≤most∧most≤65536) (g:Nat) (caps:List AV) (H0:Hp) (nx:Nat) (I:Nat→Hp→Prop) (hI0:I 0 H0) (hst:∀k H H',I k H→(∀y,y<nx→bt H' y=bt H y)→I k H')
 (hcl:∀l,gQ u most.toNat=some l→∀k H n,k<l.length→nx≤n→I k H→cJ Tryz.prog g ([kB u l,i64 k]++caps) H n (fun _ H' n'=>I (k+1) H'∧n≤n'∧∀y,nx≤y→y<n→bt H' y=bt H y)):
 cJ Tryz.prog 92 [u.av,i64 most, .fn (.func g) [] caps] H0 nx (PK u most I nx H0):=by
 obtain⟨mo,rfl⟩:∃mo:Nat,most=mo:=⟨most.toNat,by omega⟩
 have hgl:=hr.qO
 unfold PK
 rw[Int.toNat_natCast] at hcl ⊢
 refine aM B1 rfl ?_
 refine cU ?_
 refine aJ (sV u hu hr _ _) ?_
 rintro r H1 n1 ⟨L,rfl,hM,hlt,hn1,hk1⟩
 have hF:=iJ.init u hu hr
 have hm0:=(hF.ok 0 hF.pos).1
 have hm0':(List.getD (jh u) 0 default).m=du u:=rfl
 rw[hm0'] at hm0
 have g0:og true (Value.string (kV (gl (du u)))) [] (i64 1)=some (ng (jh u)):=rfl
 have h65:(65536:Int)<mo→False:=by omega
 refine cU ?_
 refine aS (vp u (du u) (hm0.YR hr (by simp[du]))) (args2:=[(du u).fz u]) ?_ (by simp[cX,nV]) trivial ?_
 ·rw[List.map_cons,List.map_nil]
  congr 1
  exact(hM.cQ fun y hy=>by have:=hlt y hy;exact cB).HM 2
 refine cU ?_
 have hno:∀y,y<nx+1∨n1≤y→y∉L.all:=fun y hy hm=>by have:=hlt y hm;omega
 refine aU (fun σ:Nat×List cT=>[(1,i64 mo),(2, .fn (.func g) [] caps),(3, .pt nx 1 0 0),(10, .sl (n1+15) σ.2.length),(11, .mp (n1+17)),(12,i64 σ.1)])
  (fun σ H n=>σ.1≤σ.2.length∧σ.2.length≤mo∧iJ u σ.2∧wm u mo (mo - σ.1) σ.1 σ.2=gQ u mo∧n1+23≤n∧(∃d,bt H nx=some (.row 25 3 d [u.av]))∧(∃d,bt H (n1+15)=some (.row 163 3 d (σ.2.map (cT.av u))))∧(∃e d,bt H (n1+17)=some (.row e 0 d (mapA (ng σ.2))))∧∀y,y<nx→bt H y=bt H0 y) (fun σ=>mo - σ.1) (0,jh u)
  ⟨_,_,_,Rt.wk (uN (lb:=n1+15) (l:=[]) (fr:=-1) (th:=0) (hM.cQ ?_) bw (hno _ (by omega))),cG,Nat.zero_le _,by show 1≤mo;omega,hF,rfl,c8,⟨_,(eF (hno _ (by omega))).trans (Eq.trans cB ((hk1 nx (by omega)).trans bw))⟩,⟨_,(eF (hno _ (by omega))).trans bw⟩,⟨_,_,(eF (hno _ (by omega))).trans bw⟩,fun y hy=>(eF (hno _ (by omega))).trans (Eq.trans cB ((hk1 y c8).trans cB))⟩ ?_
 ·intro y hy
  have:=hlt y hy
  exact cB
 clear hM hlt hk1 hno
 rintro⟨k,l⟩ H n ⟨hk,hl,hfs,hall,hn,⟨d0,r0'⟩,⟨d1,r1'⟩,⟨e2,d2,r2'⟩,hkp⟩
 dsimp only at hk hl hfs hall r1' r2' ⊢
 by_cases hkl:k<l.length
 ·have e0:∀d,(l.map (cT.av u)).getD ((k:Int)).toNat d=(l.getD k default).av u:=fun d=>by rw[Int.toNat_natCast];exact cz (cT.av u) l k d hkl
  have a0:(l.map (cT.av u)).length=l.length:=by simp
  have hgeq:∀l':List cT,l<+:l'→l'.getD k default=l.getD k default:=fun l' ⟨q,hq⟩=>by rw[←hq];simp[List.getD,List.getElem?_append,hkl]
  have hmk:mo - k=(mo - (k+1))+1:=by omega
  rw[hmk,wm,if_pos hkl] at hall
  obtain⟨hmok,hpl⟩:=hfs.ok k hkl
  have hmdef:(l.getD k default).m=(l.getD k default).m:=rfl
  generalize hmm:(l.getD k default).m=m at hmok hpl
  have e0':∀d,(l.map (cT.av u)).getD ((k:Int)).toNat d= .agg [m.fz u,i64 (l.getD k default).from_,i64 (l.getD k default).da]:=fun d=>by rw[e0 d,←hmm];rfl
  clear e0
  have e0:=e0'
  refine cU ?_
  rw[List.length_map]
  refine aU (fun σ:Nat×List cT=>[(1,i64 mo),(2, .fn (.func g) [] caps),(3, .pt nx 1 0 0),(10, .sl (n1+15) σ.2.length),(11, .mp (n1+17)),(12,i64 k),(13,m.fz u),(52,i64 u.bx.length),(53,i64 σ.1)])
   (fun σ H n=>σ.1≤u.bx.length∧k<σ.2.length∧σ.2.length≤mo∧iJ u σ.2∧(σ.2.getD k default).m=m∧(match CY u mo k ((List.range u.bx.length).drop σ.1) σ.2 with
    |none=>none
    |some l2=>wm u mo (mo - (k+1)) (k+1) l2)=gQ u mo∧n1+23≤n∧(∃d,bt H nx=some (.row 25 3 d [u.av]))∧(∃d,bt H (n1+15)=some (.row 163 3 d (σ.2.map (cT.av u))))∧(∃e d,bt H (n1+17)=some (.row e 0 d (mapA (ng σ.2))))∧∀y,y<nx→bt H y=bt H0 y) (fun σ=>u.bx.length - σ.1) (0,l)
   ⟨_,_,_,Rt.refl _ _ _,cG,Nat.zero_le _,hkl,hl,hfs,hmm,hall,c8,⟨_,bw⟩,⟨_,bw⟩,⟨_,_,bw⟩,fun y hy=>Eq.trans cB (hkp y hy)⟩ ?_
  clear e0 e0' a0 r0' r1' r2' hkp hall hfs hl hkl hgeq hn hmm
  rintro⟨t,l⟩ H n ⟨ht,hkl,hl,hfs,hmm,hall,hn,⟨d0,r0'⟩,⟨d1,r1'⟩,⟨e2,d2,r2'⟩,hkp⟩
  dsimp only at ht hkl hl hfs hmm hall r1' r2' ⊢
  have a0:(l.map (cT.av u)).length=l.length:=by simp
  by_cases htl:t<u.bx.length
  ·rw[show(List.range u.bx.length).drop t=t::(List.range u.bx.length).drop (t+1) by rw[List.drop_eq_getElem_cons (by simpa using htl)];simp,CY] at hall
   have c0:=K4 u hr m hmok t
   by_cases hb:m.mJ u t=0
   ·have hal:=hmok.pW
    refine cU ?_
    refine aJ (AY u hr m hmok (by omega) _ _) ?_
    rintro r H2 n2 ⟨L2,rfl,hM2,hlt2,hn2,hk2⟩
    have hlt2:∀x∈L2.all,n+7≤x∧x<n2:=hlt2
    refine cU ?_
    refine aJ (uk hu hr hmok (L:=L2) (hM2.cQ ?_) ?_ (by omega) htl hb) ?_
    ·intro y hy
     have:=hlt2 y hy
     exact cB
    ·intro y hy
     have:=hlt2 y hy
     exact c8
    rintro r H3 n3 ⟨rfl,hM3,hn3,hk3⟩
    have hno:∀y,y<n+7∨n2≤y→y∉L2.all:=fun y hy hm=>by have:=hlt2 y hm;omega
    have hold:∀y,y<n→bt H3 y=bt H y:=fun y hy=>(hk3 y c8 (hno y (by omega))).trans (Eq.trans cB ((hk2 y c8).trans cB))
    have hlt3:∀x∈L2.all,x<n3:=fun x hx=>by have:=hlt2 x hx;exact Nat.lt_of_lt_of_le this.2 c8
    obtain⟨hk9,_⟩:=jw hmok htl hb
    have hm2:=wR hu hr hmok htl hk9
    have hp2:=mA u m t
    have htry:DJ u mo k t l=if gl (m.step u t).1∈jH l then some l else if l.length=mo then none else some (l++[⟨(m.step u t).1,k,t⟩]):=by
     unfold DJ
     rw[hmm,if_neg (by omega)]
    rw[htry] at hall
    have hput:=fun(h:gl (m.step u t).1∉jH l)=>IJ (l:=l) (m:=(m.step u t).1) (a:=k) (b:=t) h
    have hadd:=fun(h:gl (m.step u t).1∉jH l)=>hfs.add hu hr hkl htl (by rw[hmm];exact hb) (by rw[hmm];exact h)
    rw[hmm] at hadd
    generalize (m.step u t).1=m2 at *
    have hkp3:∀y,y<nx→bt H3 y=bt H0 y:=fun y hy=>(hold y (by omega)).trans (hkp y hy)
    have q0:=(hold nx (by omega)).trans r0'
    have q1:=(hold (n1+15) (by omega)).trans r1'
    have q2:=(hold (n1+17) (by omega)).trans r2'
    have hget:=B6 vo i64 (kV (gl m2)) (jI l) (i64 0)
    rw[sJ] at hget
    clear hk2 hk3 hM2 r0' r1' r2' hold hkp
    by_cases hin:gl m2∈jH l
    ·rw[if_pos hin] at hget hall
     have g0:lj true (Value.string (kV (gl m2))) (ng l) (i64 0)=some (i64 1,true):=hget
     refine cU ?_
     refine aS (vp u m2 (hm2.YR hr (by omega))) (args2:=[m2.fz u]) ?_ (by simp[cX,nV]) trivial ?_
     ·rw[List.map_cons,List.map_nil]
      congr 1
      exact(hM3.cQ fun y hy=>by have:=hlt3 y hy;exact cB).HM 2
     refine cU ?_
     exact⟨(t+1,l),by dsimp only;omega,_,_,_,Rt.refl _ _ _,cG,by dsimp only;omega,hkl,hl,hfs,hmm,hall,c8,⟨_,bw⟩,⟨_,bw⟩,⟨_,_,bw⟩,fun y hy=>Eq.trans cB (hkp3 y hy)⟩
    ·rw[if_neg hin] at hget hall
     have g0:lj true (Value.string (kV (gl m2))) (ng l) (i64 0)=some (i64 0,false):=hget
     by_cases hfull:l.length=mo
     ·rw[if_pos hfull] at hall
      refine cU ?_
      refine aS (vp u m2 (hm2.YR hr (by omega))) (args2:=[m2.fz u]) ?_ (by simp[cX,nV]) trivial ?_
      ·rw[List.map_cons,List.map_nil]
       congr 1
       exact(hM3.cQ fun y hy=>by have:=hlt3 y hy;exact cB).HM 2
      refine cU ?_
      have hall2:none=gQ u mo:=hall
      rw[←hall2]
      exact⟨⟨c8,rfl,fun y hy=>Eq.trans cB (hkp3 y hy)⟩⟩
     ·rw[if_neg hfull] at hall
      have g1:og true (Value.string (kV (gl m2))) (ng l) (i64 1)=some (ng (l++[⟨m2,k,t⟩])):=by
       have:=B7 vo i64 (kV (gl m2)) 1 (jI l)
       rw[hput hin] at this
       exact this
      refine cU ?_
      refine aS (vp u m2 (hm2.YR hr (by omega))) (args2:=[m2.fz u]) ?_ (by simp[cX,nV]) trivial ?_
      ·rw[List.map_cons,List.map_nil]
       congr 1
       exact(hM3.cQ fun y hy=>by have:=hlt3 y hy;exact cB).HM 2
      refine cU ?_
      have hout:=hno
      refine⟨(t+1,l++[⟨m2,k,t⟩]),by dsimp only;omega,_,_,_,Rt.wk (uN (L:=L2) (lb:=n1+15) (m:=m2) (l:=l) (fr:=k) (th:=t) (hM3.cQ ?_) bw (hno _ (by omega))),cG,by dsimp only;omega,by dsimp only;rw[List.length_append];omega,by dsimp only;simp only[List.length_append,List.length_cons,List.length_nil];omega,hadd hin,by dsimp only;rw[ff hkl];exact hmm,hall,c8,⟨_,(eF (hno _ (by omega))).trans bw⟩,⟨_,(eF (hno _ (by omega))).trans bw⟩,⟨_,_,(eF (hno _ (by omega))).trans bw⟩,fun y hy=>(eF (hno _ (by omega))).trans (Eq.trans cB (hkp3 y hy))⟩
      intro y hy
      have:=hlt2 y hy
      have:=hlt3 y hy
      exact cB
   ·have htry:DJ u mo k t l=some l:=by
     unfold DJ
     rw[hmm,if_pos hb]
    rw[htry] at hall
    refine cU ?_
    exact⟨(t+1,l),by dsimp only;omega,_,_,_,Rt.refl _ _ _,cG,by dsimp only;omega,hkl,hl,hfs,hmm,hall,c8,⟨_,bw⟩,⟨_,bw⟩,⟨_,_,bw⟩,fun y hy=>Eq.trans cB (hkp y hy)⟩
  ·have htG:t=u.bx.length:=by omega
   subst htG
   rw[List.drop_of_length_le (by simp),CY] at hall
   refine cU ?_
   exact⟨(k+1,l),by dsimp only;omega,_,_,_,Rt.refl _ _ _,cG,by dsimp only;omega,hl,hfs,hall,c8,⟨_,bw⟩,⟨_,bw⟩,⟨_,_,bw⟩,fun y hy=>Eq.trans cB (hkp y hy)⟩
 ·have hk2:k=l.length:=by omega
  refine cU ?_
  have hl2:gQ u mo=some l:=by
   rw[←hall]
   subst hk2
   cases h:mo - l.length with
   |zero=>rfl
   |succ q=>rw[wm,if_neg (by omega)]
  have hw:=fun(H':Hp) (n':Nat) (hr:bt H' (n1+15)=some (.row 163 3 d1 (l.map (cT.av u))))=>Wk.XE (r:= .sl (n1+15) l.length) (H:=H') (nx:=n') [(n1+15,some (.row 163 3 d1 (l.map (cT.av u))))] 1 (fun b q hq=>by
   by_cases hb:b=n1+15
   ·subst hb;rw[cp] at hq;rw[←hq];exact hr
   ·rw[cW hb] at hq;cases hq)
  rw[MU (cp _ _ _) (by simp),sG] at hw
  rw[hl2]
  refine aU (fun i:Nat=>[(2, .fn (.func g) [] caps),(10,kB u l),(86,i64 l.length),(87,i64 i)])
   (fun i H n=>i≤l.length∧nx≤n∧I i H) (fun i=>l.length - i) 0
   ⟨_,_,_,Rt.slot 10 rfl (hw _ _ bw),cG,Nat.zero_le _,c8,hst 0 _ _ hI0 fun y hy=>(cW (by omega)).trans (Eq.trans cB (hkp y hy))⟩ ?_
  clear r0' r1' r2' hkp hw hn
  rintro i H n ⟨hi,hn,hI⟩
  by_cases hil:i<l.length
  ·refine cU ?_
   refine Eq.mpr (hP caps _) ?_
   show iA Tryz.prog g (kB u l::i64 i::caps) _ _ _
   refine aJ (hcl l hl2 i _ _ hil c8 (hst i H _ hI fun y hy=>cB)) ?_
   rintro _ H2 n2 ⟨hI2,hn2,_⟩
   refine cU ?_
   exact⟨i+1,by omega,_,_,_,Rt.refl _ _ _,cG,by omega,c8,hst _ _ _ hI2 fun y hy=>cB⟩
  ·obtain rfl:i=l.length:=by omega
   refine cU ?_
   exact⟨⟨c8,by rw[List.length_map],hst _ _ _ hI fun y hy=>cB⟩⟩
end Go.Proofs.YtjopoheligmmoaaGreatDoor
end
section
/- Ends compared: the code's Compare and Same. -/
namespace Go.Proofs.YtjopoheligmmoaaGreatDoor
open Go Go.cY Go.Proofs
set_option linter.unusedSimpArgs false
set_option linter.unusedVariables false
theorem G4 (p q:dS):Pure Tryz.prog 151 [p.av,q.av] (fun r=>r=i64 (jD p q)):=by
 have c0:=rR p.da q.da
 have c1:=tq p.word q.word
 have c2:=wF [eV p.da q.da,eV p.word q.word] (by simp)
 refine aI yR rfl ?_
 refine cU ?_
 refine aS (args2:=[cS [eV p.da q.da,eV p.word q.word]]) (r:=i64 (jD p q)) c2 rfl (by simp[cX,cL]) trivial ?_
 refine cU ?_
 first|exact rfl|trivial
theorem ud {l:List dS} {i:Nat} (h:i<l.length) (d:AV):(l.map dS.av).getD ((i:Int)).toNat d=(l.getD i default).av:=by
 rw[Int.toNat_natCast];exact cz dS.av l i d h
theorem AX (a b:List dS) (ha:a.length<9223372036854775807):Pure Tryz.prog 150 [fi a,fi b, .fn (.func 151) [] []] (fun r=>r=i64 (eY jD a b)):=by
 refine aI yQ rfl ?_
 refine cU ?_
 rw[List.length_map]
 refine aL (fun i:Nat=>[(0,fi a),(1,fi b),(2, .fn (.func 151) [] []),(11,fi a),(12,i64 a.length),(13,i64 i)]) (fun i H n=>i≤a.length∧i≤b.length∧eY jD a b=eY jD (a.drop i) (b.drop i)) (fun i=>a.length - i) 0 cG ⟨Nat.zero_le _,Nat.zero_le _,rfl⟩ ?_
 rintro i H n ⟨hi,hib,ho⟩
 rw[ho]
 have a0:(a.map dS.av).length=a.length:=by simp
 have a1:(b.map dS.av).length=b.length:=by simp
 by_cases hil:i<a.length
 ·have e0:=fun d=>ud hil d
  by_cases hbl:i<b.length
  ·have e1:=fun d=>ud hbl d
   have hd:=vY jD default hil hbl
   have c0:=G4 (a.getD i default) (b.getD i default)
   generalize a.getD i default=p at *
   generalize b.getD i default=q at *
   by_cases hz:jD p q=0
   ·have r0:=hz
    rw[if_pos hz] at hd
    refine cU ?_
    exact⟨i+1,by omega,cG,by omega,by omega,hd⟩
   ·have r0:=decide_eq_true hz
    rw[if_neg hz] at hd
    refine cU ?_
    rw[hd]
  ·rw[rW jD hil (by omega)]
   refine cU ?_
   first|exact rfl|trivial
 ·obtain rfl:i=a.length:=by omega
  rw[rU jD (Nat.le_refl _) hib]
  by_cases h:a.length<b.length
  ·rw[if_pos h]
   refine cU ?_
   first|exact rfl|trivial
  ·rw[if_neg h]
   refine cU ?_
   first|exact rfl|trivial
theorem AU (a b:List Int) (ha:a.length<9223372036854775807):Pure Tryz.prog 153 [cS a,cS b] (fun r=>r=i64 (eY eV a b)):=by
 refine aI yS rfl ?_
 refine cU ?_
 rw[List.length_map]
 refine aL (fun i:Nat=>[(0,cS a),(1,cS b),(9,cS a),(10,i64 a.length),(11,i64 i)]) (fun i H n=>i≤a.length∧i≤b.length∧eY eV a b=eY eV (a.drop i) (b.drop i)) (fun i=>a.length - i) 0 cG ⟨Nat.zero_le _,Nat.zero_le _,rfl⟩ ?_
 rintro i H n ⟨hi,hib,ho⟩
 rw[ho]
 have a0:(a.map i64).length=a.length:=by simp
 have a1:(b.map i64).length=b.length:=by simp
 by_cases hil:i<a.length
 ·have e0:=fun d=>ints_at hil d
  by_cases hbl:i<b.length
  ·have e1:=fun d=>ints_at hbl d
   have hd:=vY eV 0 hil hbl
   have c0:=tq (a.getD i 0) (b.getD i 0)
   generalize a.getD i 0=p at *
   generalize b.getD i 0=q at *
   by_cases hz:eV p q=0
   ·have r0:=hz
    rw[if_pos hz] at hd
    refine cU ?_
    exact⟨i+1,by omega,cG,by omega,by omega,hd⟩
   ·have r0:=decide_eq_true hz
    rw[if_neg hz] at hd
    refine cU ?_
    rw[hd]
  ·rw[rW eV hil (by omega)]
   refine cU ?_
   first|exact rfl|trivial
 ·obtain rfl:i=a.length:=by omega
  rw[rU eV (Nat.le_refl _) hib]
  by_cases h:a.length<b.length
  ·rw[if_pos h]
   refine cU ?_
   first|exact rfl|trivial
  ·rw[if_neg h]
   refine cU ?_
   first|exact rfl|trivial
theorem tn (a b:cm) (h1:a.cN.length<9223372036854775807) (h2:a.mem.length<9223372036854775807):Pure Tryz.prog 96 [a.av,b.av] (fun r=>r=i64 (fk a b)):=by
 have c0:=AX a.cN b.cN h1
 have c1:=AU a.mem b.mem h2
 have c2:=wF [eY jD a.cN b.cN,eY eV a.mem b.mem,vW a.ended b.ended] (by simp)
 obtain⟨ap,am,ae⟩:=a
 obtain⟨bp,bm,be⟩:=b
 cases ae<;>cases be<;>(refine aI NY rfl ?_;refine cU ?_;refine aS (args2:=[cS [eY jD ap bp,eY eV am bm,_]]) (r:=i64 (sY [eY jD ap bp,eY eV am bm,_])) c2 rfl (by simp[cX,cL]) trivial ?_;refine cU ?_;first|exact rfl|trivial)
theorem nq (a b:cm) (h1:a.cN.length<9223372036854775807) (h2:a.mem.length<9223372036854775807):Pure Tryz.prog 98 [a.av,b.av] (fun r=>r=bl (decide (fk a b=0))):=by
 have c0:=tn a b h1 h2
 refine aI NZ rfl ?_
 refine cU ?_
 refine ef ?_
 simp
end Go.Proofs.YtjopoheligmmoaaGreatDoor
end
section
/- Ends compared: the document's Compare; the plain laws. -/
namespace Go.Proofs.YtjopoheligmmoaaGreatDoor
open Go Go.cY Go.Proofs
set_option linter.unusedSimpArgs false
set_option linter.unusedVariables false
theorem P5 (x:Int):eV x x=0:=by unfold eV;simp
end Go.Proofs.YtjopoheligmmoaaGreatDoor
end
section
/- Ends compared: the order's plain laws. -/
namespace Go.Proofs.YtjopoheligmmoaaGreatDoor
open Go Go.cY Go.Proofs
set_option linter.unusedSimpArgs false
set_option linter.unusedVariables false
theorem rT (x y:Int):eV y x=-eV x y:=by
 unfold eV
 repeat' (first|omega|split)
theorem wE:∀l:List Int,sY (l.map (-·))=-sY l
 |[]=>rfl
 |x::l=>by
  simp only[List.map_cons,sY]
  by_cases h:x=0
  ·rw[if_pos (by omega),if_pos h];exact wE l
  ·rw[if_neg (by omega),if_neg h]
theorem K7 (p q:dS):jD q p=-jD p q:=by
 unfold jD
 rw[←wE,rT p.da,rT p.word];rfl
theorem rV {α:Type} {f:α→α→Int} (hf:∀x y,f y x=-f x y):∀a b:List α,eY f b a=-eY f a b
 |[],[]=>rfl
 |[],_::_=>rfl
 |_::_,[]=>rfl
 |x::a,y::b=>by
  rw[eY,eY,hf x y]
  by_cases h:f x y=0
  ·rw[if_pos (by omega),if_pos h];exact rV hf a b
  ·rw[if_neg (by omega),if_neg h]
theorem K5 (a b:Bool):vW b a=-vW a b:=by cases a<;>cases b<;>rfl
theorem K6 (a b:cm):fk b a=-fk a b:=by
 unfold fk
 rw[←wE,rV K7 a.cN,rV rT a.mem,K5 a.ended];rfl
theorem zZ {l:List Int}:sY l=0↔∀x∈l,x=0:=by
 induction l with
 |nil=>simp[sY]
 |cons x l ih=>
  rw[sY]
  by_cases h:x=0
  ·rw[if_pos h,ih];simp[h]
  ·rw[if_neg h];simp[h]
theorem jz {x y:Int}:eV x y=0↔x=y:=by
 constructor
 ·unfold eV;intro h;revert h;repeat' (first|omega|split)
 ·rintro rfl;exact P5 _
theorem p6 {p q:dS}:jD p q=0↔p=q:=by
 unfold jD
 rw[zZ]
 simp only[List.mem_cons,List.not_mem_nil,or_false,forall_eq_or_imp,forall_eq,jz]
 constructor
 ·rintro⟨h1,h2⟩;cases p;cases q;simp_all
 ·rintro rfl;exact⟨rfl,rfl⟩
theorem kA {α:Type} {f:α→α→Int} (hf:∀x y,f x y=0↔x=y):∀a b:List α,eY f a b=0↔a=b
 |[],[]=>by simp[eY]
 |[],_::_=>by simp[eY]
 |_::_,[]=>by simp[eY]
 |x::a,y::b=>by
  rw[eY]
  by_cases h:f x y=0
  ·rw[if_pos h,kA hf a b]
   have:=(hf x y).1 h
   simp[this]
  ·rw[if_neg h]
   have:x≠y:=fun e=>h ((hf x y).2 e)
   simp[h,this]
theorem pZ {a b:cm}:fk a b=0↔a=b:=by
 unfold fk
 rw[zZ]
 simp only[List.mem_cons,List.not_mem_nil,or_false,forall_eq_or_imp,forall_eq,kA (fun x y=>p6),kA (fun x y=>jz)]
 constructor
 ·rintro⟨h1,h2,h3⟩
  obtain⟨ap,am,ae⟩:=a
  obtain⟨bp,bm,be⟩:=b
  cases ae<;>cases be<;>simp_all[vW]
 ·rintro rfl
  exact⟨rfl,rfl,by cases a.ended<;>rfl⟩
end Go.Proofs.YtjopoheligmmoaaGreatDoor
end
section
/- Count; the closures that ends, ways and what is shown hand to the exploring. -/
namespace Go.Proofs.YtjopoheligmmoaaGreatDoor
open Go Go.cY Go.Proofs
set_option linter.unusedSimpArgs false
set_option linter.unusedVariables false
set_option maxRecDepth 8000
open Classical in
noncomputable def eH (u:bu) (most:Int):Int×List cT:=
 if ¬cZ u then(60,[]) else if ¬(1≤most∧most≤65536) then(2,[]) else match gQ u most.toNat with
  |none=>(3,[])
  |some l=>(0,l)
theorem oF {u:bu} {most:Int} (h:¬cZ u):eH u most=(60,[]):=by unfold eH;rw[if_pos h]
theorem kX {u:bu} {most:Int} (h:cZ u) (hm:¬(1≤most∧most≤65536)):eH u most=(2,[]):=by unfold eH;rw[if_neg (fun e=>e h),if_pos hm]
theorem oG {u:bu} {most:Int} (h:cZ u) (hm:1≤most∧most≤65536):eH u most=(match gQ u most.toNat with|none=>(3,[])|some l=>(0,l)):=by unfold eH;rw[if_neg (fun e=>e h),if_neg (fun e=>e hm)]
def dO (u:bu) (l:List cT) (k:Nat):List cm:=(l.take k).filterMap fun f=>if f.m.stuck u then some (f.m.end_ u) else none
theorem xN {u:bu} {l:List cT} {k:Nat} (hk:k<l.length):dO u l (k+1)=dO u l k++(if(l.getD k default).m.stuck u then[(l.getD k default).m.end_ u] else[]):=by
 unfold dO
 rw[List.take_succ_eq_append_getElem hk,List.filterMap_append,show l.getD k default=l[k] by simp[List.getD,hk]]
 congr 1
 simp only[List.filterMap_cons,List.filterMap_nil]
 split
 ·rename_i h;split at h<;>simp_all
 ·rename_i h;split at h<;>simp_all
theorem kb (u:bu) (l:List cT) (k:Nat):(dO u l k).length≤k:=by
 unfold dO
 refine Nat.le_trans (List.length_filterMap_le _ _) ?_
 rw[List.length_take];omega
set_option maxHeartbeats 1000000 in
theorem D5 {u:bu} (hr:cZ u) {l:List cT} (hf:iJ u l) (hl:l.length≤65536) {k:Nat} (hk:k<l.length) {ub ob o:Nat} {H:Hp} {nx:Nat} (h1:ub<nx) (h2:ob<nx) (h3:o<nx) (hne:ob≠o)
 (r1:∃d,bt H ub=some (.row 25 3 d [u.av])) (r2:∃d,bt H ob=some (.row 41 1 d [.sl o (dO u l k).length])) (r3:∃d,bt H o=some (.row 105 3 d ((dO u l k).map cm.av))):
 cJ Tryz.prog 93 [kB u l,i64 k, .pt ub 1 0 0, .pt ob 1 0 0] H nx (fun _ H' n=>(∃d,bt H' ob=some (.row 41 1 d [.sl o (dO u l (k+1)).length]))∧(∃d,bt H' o=some (.row 105 3 d ((dO u l (k+1)).map cm.av)))∧nx≤n∧∀y,y<nx→y≠ob→y≠o→bt H' y=bt H y):=by
 obtain⟨d1,r1⟩:=r1
 obtain⟨d2,r2⟩:=r2
 obtain⟨d3,r3⟩:=r3
 have hel:=kb u l k
 obtain⟨hm,hp⟩:=hf.ok k hk
 have e0:∀d,(l.map (cT.av u)).getD ((k:Int)).toNat d= .agg [(l.getD k default).m.fz u,i64 (l.getD k default).from_,i64 (l.getD k default).da]:=fun d=>by rw[Int.toNat_natCast];exact cz (cT.av u) l k d hk
 have a0:(l.map (cT.av u)).length=l.length:=by simp
 have a1:((dO u l k).map cm.av).length=(dO u l k).length:=by simp
 have c0:=ua u hr (l.getD k default).m hm (by omega) (by have:=hm.ml;have:=hr.qO;omega)
 rw[xN hk]
 generalize (l.getD k default).m=m at *
 cases hs:m.stuck u with
 |true=>
  rw[ky,hs] at c0
  refine aM IX rfl ?_
  refine cU ?_
  refine⟨⟨⟨_,by simp only[List.length_append,if_true,List.length_cons,List.length_nil];exact bw⟩,⟨_,by simp only[List.map_append,if_true,List.map_cons,List.map_nil];exact bw⟩,c8,fun y y1 y2 y3=>cB⟩⟩
 |false=>
  rw[ky,hs] at c0
  refine aM IX rfl ?_
  refine cU ?_
  refine⟨⟨⟨_,by rw[if_neg (by decide),List.append_nil];exact bw⟩,⟨_,by rw[if_neg (by decide),List.append_nil];exact bw⟩,c8,fun y y1 y2 y3=>cB⟩⟩
end Go.Proofs.YtjopoheligmmoaaGreatDoor
end
section
/- Shows: the walk. -/
namespace Go.Proofs.YtjopoheligmmoaaGreatDoor
open Go Go.cY Go.Proofs
set_option linter.unusedSimpArgs false
set_option linter.unusedVariables false
set_option maxRecDepth 8000
end Go.Proofs.YtjopoheligmmoaaGreatDoor
end
section
/- Way: what it does to its list; the way back. -/
namespace Go.Proofs.YtjopoheligmmoaaGreatDoor
open Go Go.cY Go.Proofs
set_option linter.unusedSimpArgs false
set_option linter.unusedVariables false
set_option maxRecDepth 8000
def kN (l:List Int) (i:Nat):List Int:=(List.range l.length).map fun q=>if q<i∨l.length≤q+i then l.getD (l.length - 1 - q) 0 else l.getD q 0
theorem gb (l:List Int) (i:Nat):(kN l i).length=l.length:=by simp[kN]
theorem mh {l:List Int} {i q:Nat} (h:q<l.length):(kN l i).getD q 0=if q<i∨l.length≤q+i then l.getD (l.length - 1 - q) 0 else l.getD q 0:=by simp[kN,List.getD,h]
theorem JN (l:List Int):kN l 0=l:=by
 apply List.ext_getElem (gb l 0)
 intro q h1 h2
 have:=mh (l:=l) (i:=0) h2
 rw[if_neg (by omega)] at this
 simpa[List.getD,h1,h2] using this
theorem OO {l:List Int} {i:Nat} (h:l.length≤2 * i+1):kN l i=l.reverse:=by
 apply List.ext_getElem (by simp[gb])
 intro q h1 h2
 have hq:q<l.length:=by simpa using h2
 have:=mh (l:=l) (i:=i) hq
 rw[show(kN l i).getD q 0=(kN l i)[q] by simp[List.getD,h1]] at this
 rw[this,List.getElem_reverse]
 split
 ·simp[List.getD,show l.length - 1 - q<l.length by omega]
 ·have:q=l.length - 1 - q:=by omega
  conv=>lhs;rw[this]
  simp[List.getD,show l.length - 1 - q<l.length by omega]
theorem JM {l:List Int} {i:Nat} (h:2 * i+1<l.length):((kN l i).set i (l.getD (l.length - 1 - i) 0)).set (l.length - 1 - i) (l.getD i 0)=kN l (i+1):=by
 apply List.ext_getElem (by simp[gb])
 intro q h1 h2
 have hq:q<l.length:=by simpa[gb] using h2
 have e1:=mh (l:=l) (i:=i) hq
 have e2:=mh (l:=l) (i:=i+1) hq
 rw[show(kN l (i+1)).getD q 0=(kN l (i+1))[q] by simp[List.getD,h2]] at e2
 rw[show(kN l i).getD q 0=(kN l i)[q]'(by rw[gb];exact hq) by simp[List.getD,gb,hq]] at e1
 rw[e2,List.getElem_set,List.getElem_set,e1]
 by_cases c1:l.length - 1 - i=q
 ·subst c1
  rw[if_pos rfl,if_pos (by omega),show l.length - 1 - (l.length - 1 - i)=i by omega]
 ·rw[if_neg c1]
  by_cases c2:i=q
  ·subst c2
   rw[if_pos rfl,if_pos (by omega)]
  ·rw[if_neg c2]
   by_cases c3:q<i∨l.length≤q+i
   ·rw[if_pos c3,if_pos (by omega)]
   ·rw[if_neg c3,if_neg (by omega)]
set_option maxHeartbeats 1000000 in
theorem pB {b:Nat} {l:List Int} {H:Hp} {nx:Nat} (hb:b<nx) (hl:l.length≤1048576) (r:∃d,bt H b=some (.row 3 1 d (l.map i64))):
 cJ Tryz.prog 83 [.sl b l.length] H nx (fun _ H' n=>(∃d,bt H' b=some (.row 3 1 d (l.reverse.map i64)))∧nx≤n∧∀y,y<nx→y≠b→bt H' y=bt H y):=by
 obtain⟨d0,r0'⟩:=r
 refine aM NU rfl ?_
 have a0:(l.map i64).length=l.length:=by simp
 refine cU ?_
 refine aL (fun σ:Nat×Int=>[(0, .sl b l.length),(2,i64 σ.1),(3,i64 σ.2)]) (fun σ H2 n=>σ.2=(l.length:Int) - 1 - σ.1∧2 * σ.1≤l.length+1∧nx≤n∧(∃d,bt H2 b=some (.row 3 1 d ((kN l σ.1).map i64)))∧∀y,y<nx→y≠b→bt H2 y=bt H y) (fun σ=>l.length - σ.1) (0,(l.length:Int) - 1) cG ⟨by simp,by dsimp only;omega,c8,⟨d0,by rw[JN];exact bw⟩,fun y h1 h2=>cB⟩ ?_
 clear r0' a0
 rintro⟨i,j⟩ H2 n ⟨hj,hi,hn,⟨d,r1⟩,hk⟩
 dsimp only at hj hi r1 ⊢
 have a0:((kN l i).map i64).length=l.length:=by simp[gb]
 by_cases hc:2 * i+1<l.length
 ·obtain⟨jn,rfl⟩:∃jn:Nat,j=jn:=⟨j.toNat,by omega⟩
  have hjn:jn=l.length - 1 - i:=by omega
  have e0:=fun d=>ints_at (l:=kN l i) (k:=i) (by rw[gb];omega) d
  have e1:=fun d=>ints_at (l:=kN l i) (k:=jn) (by rw[gb];omega) d
  have e2:∀x d,(((kN l i).map i64).set ((i:Int)).toNat x).getD ((jn:Int)).toNat d=i64 ((kN l i).getD jn 0):=fun x d=>by
   rw[getD_set_ne (by omega)];exact e1 d
  have v0:=mh (l:=l) (i:=i) (q:=i) (by omega)
  rw[if_neg (by omega)] at v0
  have v1:=mh (l:=l) (i:=i) (q:=jn) (by omega)
  rw[if_neg (by omega)] at v1
  rw[v0] at e0
  rw[v1] at e1 e2
  have e3:=e2 (i64 (l.getD jn 0))
  clear e2
  have hnx:=JM hc
  rw[←hjn] at hnx
  refine cU ?_
  refine⟨(i+1,(jn:Int) - 1),by dsimp only;omega,cG,by dsimp only;omega,by dsimp only;omega,c8,⟨_,by dsimp only;rw[←hnx,List.map_set,List.map_set];exact bw⟩,fun y h1 h2=>Eq.trans cB (hk y h1 h2)⟩
 ·refine cU ?_
  rw[OO (by omega)] at r1
  exact⟨⟨d,bw⟩,c8,fun y h1 h2=>Eq.trans cB (hk y h1 h2)⟩
def iR (l:List cT):Nat→Nat→List Int
 |0,_=>[]
 |f+1,k=>if 0≤(l.getD k default).from_ then(l.getD k default).da::iR l f (l.getD k default).from_.toNat else[]
theorem iJ.vg {u:bu} {l:List cT} (h:iJ u l) {k:Nat} (hk:k<l.length) (h0:0≤(l.getD k default).from_):(l.getD k default).from_.toNat<k∧0<k:=by
 rcases Nat.eq_zero_or_pos k with e|e
 ·subst e;rw[h.first] at h0;exact absurd h0 (by simp)
 ·obtain⟨k',t,h1,_,_,h2⟩:=h.K3 k e hk
  rw[h2]
  exact⟨by dsimp only;omega,e⟩
theorem rK {u:bu} {l:List cT} (h:iJ u l):∀{f g k:Nat},k<l.length→k≤f→k≤g→iR l f k=iR l g k
 |0,0,k,hk,hf,hg=>rfl
 |0,g+1,k,hk,hf,hg=>by
  obtain rfl:k=0:=by omega
  rw[iR,iR,h.first];rfl
 |f+1,0,k,hk,hf,hg=>by
  obtain rfl:k=0:=by omega
  rw[iR,iR,h.first];rfl
 |f+1,g+1,k,hk,hf,hg=>by
  rw[iR,iR]
  split
  ·rename_i h0
   obtain⟨h1,h2⟩:=h.vg hk h0
   rw[rK h (f:=f) (g:=g) (by omega) (by omega) (by omega)]
  ·rfl
abbrev nB (l:List cT) (k:Nat):List Int:=iR l k k
theorem wx {u:bu} {l:List cT} (h:iJ u l) {k:Nat} (hk:k<l.length) (h0:0≤(l.getD k default).from_):nB l k=(l.getD k default).da::nB l (l.getD k default).from_.toNat:=by
 obtain⟨h1,h2⟩:=h.vg hk h0
 obtain⟨f,rfl⟩:∃f,k=f+1:=⟨k - 1,by omega⟩
 show iR l (f+1) (f+1)=_
 rw[iR,if_pos h0]
 congr 1
 exact rK h (by omega) (by omega) (Nat.le_refl _)
theorem tc {l:List cT} {k:Nat} (h0:¬0≤(l.getD k default).from_):nB l k=[]:=by
 show iR l k k=[]
 cases k with
 |zero=>rfl
 |succ f=>rw[iR,if_neg h0]
theorem ta (l:List cT):∀f k,(iR l f k).length≤f
 |0,k=>Nat.le_refl _
 |f+1,k=>by
  rw[iR]
  split
  ·rw[List.length_cons];have:=ta l f (l.getD k default).from_.toNat;omega
  ·simp
def fH (u:bu) (l:List cT) (e:cm) (k:Nat):Option Nat:=(List.range k).find? fun i=>(l.getD i default).m.stuck u&&decide (fk ((l.getD i default).m.end_ u) e=0)
theorem BQ (u:bu) (l:List cT) (e:cm) (k:Nat):fH u l e (k+1)=match fH u l e k with
 |some i=>some i
 |none=>if(l.getD k default).m.stuck u&&decide (fk ((l.getD k default).m.end_ u) e=0) then some k else none:=by
 unfold fH
 rw[List.range_succ,List.find?_append]
 cases(List.range k).find? fun i=>(l.getD i default).m.stuck u&&decide (fk ((l.getD i default).m.end_ u) e=0) with
 |some i=>rfl
 |none=>
  simp only[Option.none_or,List.find?_cons,List.find?_nil]
  split<;>simp_all
theorem MQ {u:bu} {l:List cT} {e:cm} {k i:Nat} (h:fH u l e k=some i):i<k:=by
 have:=List.mem_of_find?_eq_some h
 exact List.mem_range.1 this
def jb (l:List cT):Option Nat→List Int
 |none=>[]
 |some i=>(nB l i).reverse
set_option maxHeartbeats 2000000 in
theorem V2 {u:bu} (hr:cZ u) {l:List cT} (hf:iJ u l) (hl:l.length≤65536) {e:cm} (he1:e.cN.length * 16≤140737488355328) (he2:e.mem.length * 8≤140737488355328) {k:Nat} (hk:k<l.length) {ub ib eb wb W:Nat} {H:Hp} {nx:Nat} (hn:ub<nx∧ib<nx∧eb<nx∧wb<nx∧W<nx) (hne:ub≠ib∧ub≠wb∧ub≠W∧ib≠eb∧ib≠wb∧ib≠W∧eb≠wb∧eb≠W∧wb≠W)
 (r0:∃d,bt H ub=some (.row 25 3 d [u.av])) (r1:∃d,bt H ib=some (.row 4 1 d [bl (fH u l e k).isSome])) (r2:∃d,bt H eb=some (.row 105 3 d [e.av])) (r3:∃d,bt H wb=some (.row 31 1 d [.sl W (jb l (fH u l e k)).length])) (r4:∃d,bt H W=some (.row 3 1 d ((jb l (fH u l e k)).map i64))):
 cJ Tryz.prog 103 [kB u l,i64 k, .pt ub 1 0 0, .pt ib 1 0 0, .pt eb 1 0 0, .pt wb 1 0 0] H nx (fun _ H' n=>(∃d,bt H' ib=some (.row 4 1 d [bl (fH u l e (k+1)).isSome]))∧(∃d,bt H' wb=some (.row 31 1 d [.sl W (jb l (fH u l e (k+1))).length]))∧(∃d,bt H' W=some (.row 3 1 d ((jb l (fH u l e (k+1))).map i64)))∧nx≤n∧∀y,y<nx→y≠ib→y≠wb→y≠W→bt H' y=bt H y):=by
 obtain⟨d0,r0'⟩:=r0
 obtain⟨d1,r1'⟩:=r1
 obtain⟨d2,r2'⟩:=r2
 obtain⟨d3,r3'⟩:=r3
 obtain⟨d4,r4'⟩:=r4
 obtain⟨n0,n1,n2,n3,n4⟩:=hn
 obtain⟨m0,m1,m2,m3,m4,m5,m6,m7,m8⟩:=hne
 obtain⟨hm,hp⟩:=hf.ok k hk
 have e0:∀d,(l.map (cT.av u)).getD ((k:Int)).toNat d= .agg [(l.getD k default).m.fz u,i64 (l.getD k default).from_,i64 (l.getD k default).da]:=fun d=>by rw[Int.toNat_natCast];exact cz (cT.av u) l k d hk
 have a0:(l.map (cT.av u)).length=l.length:=by simp
 have hgl:=hr.qO
 have hml:=hm.ml
 have c0:=ua u hr (l.getD k default).m hm (by omega) (by omega)
 have c1:=nq ((l.getD k default).m.end_ u) e (by show(l.getD k default).m.cN.length<_;omega) (by show(l.getD k default).m.mem.length<_;omega)
 rw[BQ]
 cases hh:fH u l e k with
 |some i=>
  rw[hh] at r1' r3' r4'
  dsimp only
  generalize (l.getD k default).m=m at *
  cases hs:m.stuck u with
  |true=>
   rw[ky,hs] at c0
   refine aM oZ rfl ?_
   refine cU ?_
   exact⟨⟨_,bw⟩,⟨_,bw⟩,⟨_,bw⟩,c8,fun y y1 y2 y3 y4=>cB⟩
  |false=>
   rw[ky,hs] at c0
   refine aM oZ rfl ?_
   refine cU ?_
   exact⟨⟨_,bw⟩,⟨_,bw⟩,⟨_,bw⟩,c8,fun y y1 y2 y3 y4=>cB⟩
 |none=>
  rw[hh] at r1' r3' r4'
  dsimp only
  by_cases hs:(l.getD k default).m.stuck u=true
  ·rw[ky,hs] at c0
   by_cases hc:fk ((l.getD k default).m.end_ u) e=0
   ·rw[hs,decide_eq_true hc,if_pos (by rfl)]
    rw[decide_eq_true hc] at c1
    refine aM oZ rfl ?_
    refine cU ?_
    clear c0 c1 e0 r0' r2'
    have hway:jb l none=[]:=rfl
    rw[hway] at r3' r4'
    refine aL (fun σ:Nat×List Int=>[(0,kB u l),(5, .pt wb 1 0 0),(10,i64 σ.1)])
     (fun σ H2 n=>σ.1<l.length∧σ.2++nB l σ.1=nB l k∧nx≤n∧(∃d,bt H2 ib=some (.row 4 1 d [bl true]))∧(∃d,bt H2 wb=some (.row 31 1 d [.sl W σ.2.length]))∧(∃d,bt H2 W=some (.row 3 1 d (σ.2.map i64)))∧∀y,y<nx→y≠ib→y≠wb→y≠W→bt H2 y=bt H y) (fun σ=>σ.1) (k,[]) cG
     ⟨hk,rfl,c8,⟨_,bw⟩,⟨_,bw⟩,⟨_,bw⟩,fun y y1 y2 y3 y4=>cB⟩ ?_
    clear r1' r3' r4'
    rintro⟨at_,acc⟩ H2 n ⟨hat,hacc,hn2,⟨d1,r1'⟩,⟨d3,r3'⟩,⟨d4,r4'⟩,hkp⟩
    dsimp only at hat hacc r3' r4' ⊢
    have hbl:=ta l k k
    have hal:acc.length≤65536:=by
     have:=congrArg List.length hacc
     rw[List.length_append] at this
     have:(nB l k).length≤k:=hbl
     omega
    have a1:(acc.map i64).length=acc.length:=by simp
    have e0:∀d,(l.map (cT.av u)).getD ((at_:Int)).toNat d= .agg [(l.getD at_ default).m.fz u,i64 (l.getD at_ default).from_,i64 (l.getD at_ default).da]:=fun d=>by rw[Int.toNat_natCast];exact cz (cT.av u) l at_ d hat
    by_cases h0:0≤(l.getD at_ default).from_
    ·obtain⟨hlt,hpos⟩:=hf.vg hat h0
     have hon:=wx hf hat h0
     obtain⟨q,hq⟩:∃q:Nat,(l.getD at_ default).from_=q:=⟨_,(Int.toNat_of_nonneg h0).symm⟩
     rw[hq] at e0 hlt hon
     rw[Int.toNat_natCast] at hlt hon
     have hge:¬(q:Int)<0:=by omega
     refine cU ?_
     refine⟨(q,acc++[(l.getD at_ default).da]),hlt,cG,by dsimp only;omega,by dsimp only;rw[List.append_assoc,List.singleton_append,←hon];exact hacc,c8,⟨_,bw⟩,⟨_,by dsimp only;rw[List.length_append];exact bw⟩,⟨_,by dsimp only;rw[List.map_append];exact bw⟩,fun y y1 y2 y3 y4=>Eq.trans cB (hkp y y1 y2 y3 y4)⟩
    ·have hon:=tc h0
     rw[hon,List.append_nil] at hacc
     subst hacc
     refine cU ?_
     refine aJ (pB (b:=W) (l:=nB l k) ?_ (by omega) ?_) ?_
     ·exact c8
     ·exact⟨_,bw⟩
     rintro _ H3 n3 ⟨⟨d5,r5⟩,hn3,hk3⟩
     have q1:=hk3 ib c8 (by omega)
     have q2:=hk3 wb c8 (by omega)
     refine cU ?_
     exact⟨⟨d1,q1.trans bw⟩,⟨d3,by simp only[jb,List.length_reverse];exact q2.trans bw⟩,⟨d5,bw⟩,c8,fun y y1 y2 y3 y4=>(hk3 y c8 y4).trans (Eq.trans cB (hkp y y1 y2 y3 y4))⟩
   ·rw[hs,decide_eq_false hc,if_neg (by decide)]
    rw[decide_eq_false hc] at c1
    refine aM oZ rfl ?_
    refine cU ?_
    exact⟨⟨_,bw⟩,⟨_,bw⟩,⟨_,bw⟩,c8,fun y y1 y2 y3 y4=>cB⟩
  ·have hs2:(l.getD k default).m.stuck u=false:=by simpa using hs
   rw[ky,hs2] at c0
   rw[hs2,Bool.false_and,if_neg (by decide)]
   refine aM oZ rfl ?_
   refine cU ?_
   exact⟨⟨_,bw⟩,⟨_,bw⟩,⟨_,bw⟩,c8,fun y y1 y2 y3 y4=>cB⟩
end Go.Proofs.YtjopoheligmmoaaGreatDoor
end
