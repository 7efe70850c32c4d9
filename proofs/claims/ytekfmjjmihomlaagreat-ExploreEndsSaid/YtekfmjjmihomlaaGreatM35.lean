import Derived.Test.YtekfmjjmihomlaaGreatM32
import Derived.Test.YtekfmjjmihomlaaGreatM33
import Derived.Test.YtekfmjjmihomlaaGreatM34
import Derived.Lib.ItoaLen
import Derived.Test.YtekfmjjmihomlaaGreatM30
section
/- A machine in rows told by value, within a list of what was found. -/
namespace Go.Proofs.YtekfmjjmihomlaaGreat
open Go Go.cZ Go.Proofs
set_option linter.unusedSimpArgs false
set_option linter.unusedVariables false
set_option maxRecDepth 8000
def lj (S:List Nat) (H:Hp):Hp:=S.map fun y=>(y,bn H y)
theorem yH {S:List Nat} {H:Hp} {y:Nat} (h:y∈S):bn (lj S H) y=bn H y:=by
 induction S with
 |nil=>cases h
 |cons x S ih=>
  rw[lj,List.map_cons]
  by_cases e:y=x
  ·subst e;exact cO _ _ _
  ·rw[cG e]
   exact ih (by simpa[e] using h)
theorem EU {S:List Nat} {H:Hp} {y:Nat} {q:eV} (h:bn (lj S H) y=some q):bn H y=some q:=by
 have:y∈S:=by
  have:=ny h
  simpa[lj] using this
 rw[yH this] at h;exact h
theorem eP {S:List Nat} {H H2:Hp} {y:Nat} (h:y∉S):bn (ma (lj S H) H2) y=bn H2 y:=gS (by simpa[lj] using h)
section
variable {u:bt} {m:MS} {L:ML} {H:Hp}
theorem ML.At.nY (h:L.At u m H) (k:Nat):Go.cZ.iU (lj L.all H) (k+4) (.pt L.mr 1 0 0)=m.fz u:=by
 have h:=h.cS (H':=lj L.all H) fun y hy=>yH hy
 generalize lj L.all H=G at *
 obtain⟨d1,h1⟩:=h.rM
 obtain⟨d2,h2⟩:=h.rA
 obtain⟨d3,h3⟩:=h.rS
 obtain⟨d4,h4⟩:=h.rE
 obtain⟨d5,h5⟩:=h.rH
 obtain⟨d6,h6⟩:=h.rP
 have hsl:(dG L.ids m.br).length=m.br.length:=pL h.len
 have hs:(dG L.ids m.br).map (Go.cZ.iU G (k+1))=m.br.map cm:=by
  apply List.ext_getElem (by simp[hsl])
  intro t q1 q2
  have ht:t<m.br.length:=by simpa using q2
  have hti:t<L.ids.length:=by rw[h.len];exact ht
  obtain⟨d,hd⟩:=h.rL t ht
  rw[show L.ids.getD t 0=L.ids[t] by simp[List.getD,hti],show m.br.getD t []=m.br[t] by simp[List.getD,ht]] at hd
  rw[List.getElem_map,List.getElem_map]
  simp only[dG,List.getElem_map,List.getElem_zip]
  rw[mD hd (by simp),fq _ ((cC _ _).2 fun _ _=>by simp[cE])]
 rw[show Go.cZ.iU G (k+4) (.pt L.mr 1 0 0)= .ip 8 .any ([m.rows u L.a L.s L.me L.ho L.pr].map (Go.cZ.iU G (k+3))) 0 0 from LH h1 rfl]
 simp only[List.map_cons,List.map_nil,MS.rows]
 rw[wP]
 simp only[List.map_cons,List.map_nil]
 rw[mD h2 (by simp),mD h3 hsl,mD h4 (by simp),mD h5 (by simp),mD h6 (by simp),hs]
 rw[fq _ ((cC _ _).2 fun _ _=>by simp[cE]),fq _ ((cC _ _).2 fun _ _=>by simp[cE]),fq _ ((cC _ _).2 fun _ _=>by simp[cE]),fq _ ((cC _ _).2 fun _ _=>by simp[cE])]
 rw[kF _ (show cE 0 (bw u.shared) by simp[cE,cC]),kF _ (show cE 0 (bw u.bx) by simp[cE,cC]),kF _ (show cE 0 (cR u.bo) by simp[cE,cC])]
 rfl
end
def cQ.cells (u:bt) (f:cQ):List AV:=[f.m.fz u,i64 f.from_,i64 f.ch]
abbrev cQ.av (u:bt) (f:cQ):AV:= .agg (f.cells u)
abbrev jz (u:bt) (l:List cQ):AV:= .im 3 .any (l.map (cQ.av u))
@[simp] theorem C5 (n:Nat) (u:bt) (f:cQ):cT n (f.cells u):=by
  have:=oy n u f.m
  simp[cQ.cells,cT,cE]
theorem yq (u:bt) (l:List cQ):cT 0 (l.map (cQ.av u)):=(cC _ _).2 fun _ _=>by simp only[cQ.av,cE];exact C5 _ _ _
theorem tS {u:bt} {m:MS} {L:ML} {H:Hp} {lb nx:Nat} {d:AV} {l:List cQ} {fr th:Int} (hM:L.At u m H) (hl:bn H lb=some (.row 75 3 d (l.map (cQ.av u)++[.agg [.pt L.mr 1 0 0,i64 fr,i64 th]]))) (hlb:lb∉L.all):
 Wk .any H nx .any (ma (lj L.all H) ((lb,some (.row 75 3 .any ((l++[(⟨m,fr,th⟩:cQ)]).map (cQ.av u))))::H)) nx:=by
 have:=Wk.iU (nx:=nx) (lj L.all H) 5 .any hl (fun b q hq=>EU hq)
 rw[List.map_append,fq _ (yq u l),List.map_cons,List.map_nil,wP,List.map_cons,List.map_cons,List.map_cons,List.map_nil,hM.nY 0,kF _ (show cE 0 (i64 fr) by simp[cE]),kF _ (show cE 0 (i64 th) by simp[cE])] at this
 rw[List.map_append]
 exact this
end Go.Proofs.YtekfmjjmihomlaaGreat
end
section
/- Keys are short, and tell situations apart as texts do. -/
namespace Go.Proofs.YtekfmjjmihomlaaGreat
open Go Go.cZ Go.Proofs
set_option linter.unusedSimpArgs false
set_option linter.unusedVariables false
theorem mC {α:Type} (f:α→List UInt8) (k:Nat):∀l:List α,(∀a∈l,(f a).length≤k)→(l.flatMap f).length≤l.length * k
 |[],_=>by simp
 |a::l,h=>by
  have h1:=mC f k l fun b hb=>h b (by simp[hb])
  have h2:=h a (by simp)
  rw[List.flatMap_cons,List.length_append,List.length_cons,Nat.add_mul]
  omega
theorem mL {x:Int} (e:List UInt8) (h:eM x):(dH x e).length≤21+e.length:=by
 have:=Go.Lib.itoa_length_le x h.1 (by have:=h.2;omega)
 unfold dH
 rw[List.length_append]
 omega
theorem eU.OX {u:bt} {m:MS} (hr:dC u) (h:eU u m):(ee m).length≤100000000+m.bu.length * 50:=by
 have hf:=hr.vO
 have hal:=h.nX
 have hml:=h.ml
 have hhl:=h.hl
 have hn:∀t,t<u.bo.length→(u.gr t).nodes.length≤4096∧(u.gr t).br≤4160:=fun t ht=>⟨(hr.gr ht).len.2,(hr.gr ht).br.2⟩
 have h1:((List.range m.at_.length).flatMap (ll m)).length≤(List.range m.at_.length).length * 100000:=by
  refine mC _ _ _ fun t ht=> ?_
  have ht:=List.mem_range.1 ht
  have hat:=h.gy t (by omega)
  obtain⟨n1,n2⟩:=hn t (by omega)
  have hs:=h.yR t (by omega)
  have a1:=mL (x:=m.at_.getD t 0) [44] ⟨by omega,by omega⟩
  have a2:=mC (fun w=>dH w [44]) 22 (m.br.getD t []) fun w hw=>mL [44] (h.AG t (by omega) w hw)
  have e:(ll m t).length=(dH (m.at_.getD t 0) [44]).length+((m.br.getD t []).flatMap (fun w=>dH w [44])).length+1:=by simp only[ll,List.length_append,List.length_cons,List.length_nil]
  simp only[List.length_cons,List.length_nil] at a1
  rw[e]
  omega
 rw[List.length_range] at h1
 have h2:=mC (fun w=>dH w [44]) 22 m.mem fun w hw=>mL [44] (h.mw w hw)
 have h3:=mC (fun w=>dH w [44]) 22 m.hold fun w hw=>mL [44] (by have:=h.hw w hw;exact⟨by omega,by omega⟩)
 have h4:=mC sN 50 m.bu fun p hp=>by
  obtain⟨p1,p2,p3⟩:=h.pw p hp
  have a1:=mL (x:=p.ch) [58] ⟨by omega,by omega⟩
  have a2:=mL (x:=p.word) [44] p3
  simp only[List.length_cons,List.length_nil] at a1 a2
  unfold sN
  rw[List.length_append]
  omega
 rw[qP]
 omega
theorem eU.P0 {u:bt} {m:MS} (hr:dC u) (h:eU u m) (hp:m.bu.length≤1048576):RT m:=by
 have hf:=hr.vO
 refine⟨fun w hw=> ?_,by rw[h.sl,h.nX],fun l hl w hw=> ?_,h.mw,fun w hw=> ?_,fun p hp=> ?_, ?_⟩
 ·obtain⟨t,ht,rfl⟩:=List.mem_iff_getElem.1 hw
  have h1:=h.gy t (by rw[←h.nX];exact ht)
  have h2:=(hr.gr (t:=t) (by rw[←h.nX];exact ht)).len.2
  rw[show m.at_.getD t 0=m.at_[t] by simp[List.getD,ht]] at h1
  exact⟨by omega,by omega⟩
 ·obtain⟨t,ht,rfl⟩:=List.mem_iff_getElem.1 hl
  have:=h.AG t (by rw[←h.sl];exact ht) w
  rw[show m.br.getD t []=m.br[t] by simp[List.getD,ht]] at this
  exact this hw
 ·have:=h.hw w hw
  exact⟨by omega,by omega⟩
 ·obtain⟨p1,p2,p3⟩:=h.pw p hp
  exact⟨⟨by omega,by omega⟩,p3⟩
 ·have:=h.OX hr
  omega
theorem CB {a b:List UInt8} (h:eR a=eR b):a=b:=by
 have:=congrArg (fun x:ByteArray=>x.data.toList) h
 simpa[eR] using this
abbrev jO (l:List cQ):List (ByteArray×Int):=l.map fun f=>(eR (ee f.m),1)
abbrev nH (l:List cQ):List AV:=pI (fun s:ByteArray=>Value.string s) i64 (jO l)
theorem rK (l:List cQ) (k:List UInt8):ef (jO l) (eR k)=if k∈gz l then some 1 else none:=by
 split
 ·rename_i h
  cases hl:ef (jO l) (eR k) with
  |none=>
   exfalso
   refine(pF _ _).1 hl ?_
   rw[List.map_map]
   obtain⟨f,h1,h2⟩:=List.mem_map.1 h
   exact List.mem_map.2 ⟨f,h1,by simp only[Function.comp];rw[h2]⟩
  |some v=>
   have hv:∀(l:List cQ),ef (jO l) (eR k)=some v→v=1:=by
    intro l
    induction l with
    |nil=>intro h;cases h
    |cons f l ih=>
     intro h
     rw[jO,List.map_cons,ef] at h
     split at h
     ·cases h;rfl
     ·exact ih h
   rw[hv l hl]
 ·rename_i h
  refine(pF _ _).2 fun hm=>h ?_
  rw[List.map_map] at hm
  obtain⟨f,h1,h2⟩:=List.mem_map.1 hm
  simp only[Function.comp] at h2
  exact List.mem_map.2 ⟨f,h1,CB h2⟩
theorem DN {l:List cQ} {m:MS} {a b:Int} (h:ee m∉gz l):ej (jO l) (eR (ee m)) 1=jO (l++[⟨m,a,b⟩]):=by
 have key:∀E:List (ByteArray×Int),ef E (eR (ee m))=none→ej E (eR (ee m)) 1=E++[(eR (ee m),1)]:=by
  intro E
  induction E with
  |nil=>intro _;rfl
  |cons p E ih=>
   intro hn
   obtain⟨x,y⟩:=p
   rw[ef] at hn
   rw[ej]
   split at hn
   ·cases hn
   ·rename_i hx
    rw[if_neg hx,ih hn];rfl
 rw[key _ (by rw[rK,if_neg h]),jO,jO,List.map_append];rfl
end Go.Proofs.YtekfmjjmihomlaaGreat
end
section
/- All situations: the walk. -/
namespace Go.Proofs.YtekfmjjmihomlaaGreat
open Go Go.cZ Go.Proofs
set_option linter.unusedSimpArgs false
set_option linter.unusedVariables false
set_option maxRecDepth 8000
theorem uP (u:bt) (hu:u.Wf) (hr:¬dC u) (most:Int) (g:Nat) (caps:List AV) (H0:Hp) (nx:Nat):cP Tryz.prog 32 [u.av,i64 most, .fn (.func g) [] caps] H0 nx (fun r H n=>r= .dV [i64 0,i64 60]∧nx≤n∧∀y,y<nx→bn H y=bn H0 y):=by
 have c0:=L8 u hu hr
 refine aQ zJ rfl ?_
 refine cV ?_
 exact⟨⟨rfl,c8,fun y hy=>cB⟩⟩
theorem oi (u:bt) (hu:u.Wf) (hr:dC u) (most:Int) (hm:¬(1≤most∧most≤65536)) (g:Nat) (caps:List AV) (H0:Hp) (nx:Nat):cP Tryz.prog 32 [u.av,i64 most, .fn (.func g) [] caps] H0 nx (fun r H n=>r= .dV [i64 0,i64 2]∧nx≤n∧∀y,y<nx→bn H y=bn H0 y):=by
 refine aQ zJ rfl ?_
 refine cV ?_
 refine aO (xe u hu hr _ _) ?_
 rintro r H1 n1 ⟨L,rfl,hM,hlt,hn1,hk1⟩
 by_cases h1:most<1
 ·refine cV ?_
  exact⟨⟨rfl,c8,fun y hy=>Eq.trans cB ((hk1 y c8).trans cB)⟩⟩
 ·have h2:65536<most:=by omega
  refine cV ?_
  exact⟨⟨rfl,c8,fun y hy=>Eq.trans cB ((hk1 y c8).trans cB)⟩⟩
theorem yg (u:bt) (hr:dC u) (m:MS) (h:eU u m) (hp:m.bu.length≤1048576) (H0:Hp) (nx:Nat):cP Tryz.prog 65 [m.fz u] H0 nx (fun r H n=>∃L:ML,r= .pt L.mr 1 0 0∧L.At u m H∧(∀x∈L.all,nx≤x∧x<n)∧nx≤n∧∀y,y<nx→bn H y=bn H0 y):=by
 have hgl:=hr.vO
 refine(yh u m (by have:=h.nX;omega) (by have:=h.ml;omega) (by have:=h.hl;omega) hp (by have:=h.sl;omega) (fun x hx=> ?_) H0 nx).mono ?_
 ·obtain⟨s,hs,rfl⟩:=List.mem_iff_getElem.1 hx
  have h1:=h.yR s (by rw[←h.sl];exact hs)
  have h2:=(hr.gr (t:=s) (by rw[←h.sl];exact hs)).br.2
  rw[show m.br.getD s []=m.br[s] by simp[List.getD,hs]] at h1
  omega
 ·rintro r H n ⟨mr,a,s,me,ho,pr,ids,rfl,h1,h2,h3,h4⟩
  exact⟨⟨mr,a,s,me,ho,pr,ids⟩,rfl,h1,h2,h3,h4⟩
def KD (u:bt) (most:Int) (I:Nat→Hp→Prop) (nx:Nat) (H0:Hp) (r:AV) (H:Hp) (n:Nat):Prop:=
 nx≤n∧match gN u most.toNat with
 |none=>r= .dV [i64 0,i64 3]∧∀y,y<nx→bn H y=bn H0 y
 |some l=>r= .dV [i64 l.length,i64 0]∧I l.length H
set_option maxHeartbeats 4000000 in
theorem qb (u:bt) (hu:u.Wf) (hr:dC u) (most:Int) (hm:1≤most∧most≤65536) (g:Nat) (caps:List AV) (H0:Hp) (nx:Nat) (I:Nat→Hp→Prop) (hI0:I 0 H0) (hst:∀k H H',I k H→(∀y,y<nx→bn H' y=bn H y)→I k H')
 (hcl:∀l,gN u most.toNat=some l→∀k H n,k<l.length→nx≤n→I k H→cP Tryz.prog g ([jz u l,i64 k]++caps) H n (fun _ H' n'=>I (k+1) H'∧n≤n'∧∀y,nx≤y→y<n→bn H' y=bn H y)):
 cP Tryz.prog 32 [u.av,i64 most, .fn (.func g) [] caps] H0 nx (KD u most I nx H0):=by
 obtain⟨mo,rfl⟩:∃mo:Nat,most=mo:=⟨most.toNat,by omega⟩
 have hgl:=hr.vO
 unfold KD
 rw[Int.toNat_natCast] at hcl ⊢
 refine aQ zJ rfl ?_
 refine cV ?_
 refine aO (xe u hu hr _ _) ?_
 rintro r H1 n1 ⟨L,rfl,hM,hlt,hn1,hk1⟩
 have hF:=gw.init u hu hr
 have hm0:=(hF.ok 0 hF.pos).1
 have hm0':(List.getD (jM u) 0 default).m=dA u:=rfl
 rw[hm0'] at hm0
 have g0:xc true (Value.string (eR (ee (dA u)))) [] (i64 1)=some (nH (jM u)):=rfl
 have h65:(65536:Int)<mo→False:=by omega
 refine cV ?_
 refine aS (uh u (dA u) (hm0.P0 hr (by simp[dA]))) (args2:=[(dA u).fz u]) ?_ (by simp[cT,oy]) trivial ?_
 ·rw[List.map_cons,List.map_nil]
  congr 1
  exact(hM.cS fun y hy=>by have:=hlt y hy;exact cB).zB 2
 refine cV ?_
 have hno:∀y,y<nx+1∨n1≤y→y∉L.all:=fun y hy hm=>by have:=hlt y hm;omega
 refine aU (fun σ:Nat×List cQ=>[(1,i64 mo),(2, .fn (.func g) [] caps),(3, .pt nx 1 0 0),(10, .sl (n1+15) σ.2.length),(11, .mp (n1+17)),(12,i64 σ.1)])
  (fun σ H n=>σ.1≤σ.2.length∧σ.2.length≤mo∧gw u σ.2∧pq u mo (mo - σ.1) σ.1 σ.2=gN u mo∧n1+23≤n∧(∃d,bn H nx=some (.row 25 3 d [u.av]))∧(∃d,bn H (n1+15)=some (.row 75 3 d (σ.2.map (cQ.av u))))∧(∃e d,bn H (n1+17)=some (.row e 0 d (mapA (nH σ.2))))∧∀y,y<nx→bn H y=bn H0 y) (fun σ=>mo - σ.1) (0,jM u)
  ⟨_,_,_,Rt.wk (tS (lb:=n1+15) (l:=[]) (fr:=-1) (th:=0) (hM.cS ?_) bq (hno _ (by omega))),cI,Nat.zero_le _,by show 1≤mo;omega,hF,rfl,c8,⟨_,(eP (hno _ (by omega))).trans (Eq.trans cB ((hk1 nx (by omega)).trans bq))⟩,⟨_,(eP (hno _ (by omega))).trans bq⟩,⟨_,_,(eP (hno _ (by omega))).trans bq⟩,fun y hy=>(eP (hno _ (by omega))).trans (Eq.trans cB ((hk1 y c8).trans cB))⟩ ?_
 ·intro y hy
  have:=hlt y hy
  exact cB
 clear hM hlt hk1 hno
 rintro⟨k,l⟩ H n ⟨hk,hl,hfs,hall,hn,⟨d0,r0'⟩,⟨d1,r1'⟩,⟨e2,d2,r2'⟩,hkp⟩
 dsimp only at hk hl hfs hall r1' r2' ⊢
 by_cases hkl:k<l.length
 ·have e0:∀d,(l.map (cQ.av u)).getD ((k:Int)).toNat d=(l.getD k default).av u:=fun d=>by rw[Int.toNat_natCast];exact dB (cQ.av u) l k d hkl
  have a0:(l.map (cQ.av u)).length=l.length:=by simp
  have hgeq:∀l':List cQ,l<+:l'→l'.getD k default=l.getD k default:=fun l' ⟨q,hq⟩=>by rw[←hq];simp[List.getD,List.getElem?_append,hkl]
  have hmk:mo - k=(mo - (k+1))+1:=by omega
  rw[hmk,pq,if_pos hkl] at hall
  obtain⟨hmok,hpl⟩:=hfs.ok k hkl
  have hmdef:(l.getD k default).m=(l.getD k default).m:=rfl
  generalize hmm:(l.getD k default).m=m at hmok hpl
  have e0':∀d,(l.map (cQ.av u)).getD ((k:Int)).toNat d= .agg [m.fz u,i64 (l.getD k default).from_,i64 (l.getD k default).ch]:=fun d=>by rw[e0 d,←hmm];rfl
  clear e0
  have e0:=e0'
  refine cV ?_
  rw[List.length_map]
  refine aU (fun σ:Nat×List cQ=>[(1,i64 mo),(2, .fn (.func g) [] caps),(3, .pt nx 1 0 0),(10, .sl (n1+15) σ.2.length),(11, .mp (n1+17)),(12,i64 k),(13,m.fz u),(52,i64 u.bo.length),(53,i64 σ.1)])
   (fun σ H n=>σ.1≤u.bo.length∧k<σ.2.length∧σ.2.length≤mo∧gw u σ.2∧(σ.2.getD k default).m=m∧(match sY u mo k ((List.range u.bo.length).drop σ.1) σ.2 with
    |none=>none
    |some l2=>pq u mo (mo - (k+1)) (k+1) l2)=gN u mo∧n1+23≤n∧(∃d,bn H nx=some (.row 25 3 d [u.av]))∧(∃d,bn H (n1+15)=some (.row 75 3 d (σ.2.map (cQ.av u))))∧(∃e d,bn H (n1+17)=some (.row e 0 d (mapA (nH σ.2))))∧∀y,y<nx→bn H y=bn H0 y) (fun σ=>u.bo.length - σ.1) (0,l)
   ⟨_,_,_,Rt.refl _ _ _,cI,Nat.zero_le _,hkl,hl,hfs,hmm,hall,c8,⟨_,bq⟩,⟨_,bq⟩,⟨_,_,bq⟩,fun y hy=>Eq.trans cB (hkp y hy)⟩ ?_
  clear e0 e0' a0 r0' r1' r2' hkp hall hfs hl hkl hgeq hn hmm
  rintro⟨t,l⟩ H n ⟨ht,hkl,hl,hfs,hmm,hall,hn,⟨d0,r0'⟩,⟨d1,r1'⟩,⟨e2,d2,r2'⟩,hkp⟩
  dsimp only at ht hkl hl hfs hmm hall r1' r2' ⊢
  have a0:(l.map (cQ.av u)).length=l.length:=by simp
  by_cases htl:t<u.bo.length
  ·rw[show(List.range u.bo.length).drop t=t::(List.range u.bo.length).drop (t+1) by rw[List.drop_eq_getElem_cons (by simpa using htl)];simp,sY] at hall
   have c0:=FN u hr m hmok t
   by_cases hb:m.mQ u t=0
   ·have hal:=hmok.nX
    refine cV ?_
    refine aO (yg u hr m hmok (by omega) _ _) ?_
    rintro r H2 n2 ⟨L2,rfl,hM2,hlt2,hn2,hk2⟩
    have hlt2:∀x∈L2.all,n+7≤x∧x<n2:=hlt2
    refine cV ?_
    refine aO (EP hu hr hmok (L:=L2) (hM2.cS ?_) ?_ (by omega) htl hb) ?_
    ·intro y hy
     have:=hlt2 y hy
     exact cB
    ·intro y hy
     have:=hlt2 y hy
     exact c8
    rintro r H3 n3 ⟨rfl,hM3,hn3,hk3⟩
    have hno:∀y,y<n+7∨n2≤y→y∉L2.all:=fun y hy hm=>by have:=hlt2 y hm;omega
    have hold:∀y,y<n→bn H3 y=bn H y:=fun y hy=>(hk3 y c8 (hno y (by omega))).trans (Eq.trans cB ((hk2 y c8).trans cB))
    have hlt3:∀x∈L2.all,x<n3:=fun x hx=>by have:=hlt2 x hx;exact Nat.lt_of_lt_of_le this.2 c8
    obtain⟨hk9,_⟩:=lN hmok htl hb
    have hm2:=vK hu hr hmok htl hk9
    have hp2:=lh u m t
    have htry:sG u mo k t l=if ee (m.step u t).1∈gz l then some l else if l.length=mo then none else some (l++[⟨(m.step u t).1,k,t⟩]):=by
     unfold sG
     rw[hmm,if_neg (by omega)]
    rw[htry] at hall
    have hput:=fun(h:ee (m.step u t).1∉gz l)=>DN (l:=l) (m:=(m.step u t).1) (a:=k) (b:=t) h
    have hadd:=fun(h:ee (m.step u t).1∉gz l)=>hfs.add hu hr hkl htl (by rw[hmm];exact hb) (by rw[hmm];exact h)
    rw[hmm] at hadd
    generalize (m.step u t).1=m2 at *
    have hkp3:∀y,y<nx→bn H3 y=bn H0 y:=fun y hy=>(hold y (by omega)).trans (hkp y hy)
    have q0:=(hold nx (by omega)).trans r0'
    have q1:=(hold (n1+15) (by omega)).trans r1'
    have q2:=(hold (n1+17) (by omega)).trans r2'
    have hget:=zP ug i64 (eR (ee m2)) (jO l) (i64 0)
    rw[rK] at hget
    clear hk2 hk3 hM2 r0' r1' r2' hold hkp
    by_cases hin:ee m2∈gz l
    ·rw[if_pos hin] at hget hall
     have g0:ur true (Value.string (eR (ee m2))) (nH l) (i64 0)=some (i64 1,true):=hget
     refine cV ?_
     refine aS (uh u m2 (hm2.P0 hr (by omega))) (args2:=[m2.fz u]) ?_ (by simp[cT,oy]) trivial ?_
     ·rw[List.map_cons,List.map_nil]
      congr 1
      exact(hM3.cS fun y hy=>by have:=hlt3 y hy;exact cB).zB 2
     refine cV ?_
     exact⟨(t+1,l),by dsimp only;omega,_,_,_,Rt.refl _ _ _,cI,by dsimp only;omega,hkl,hl,hfs,hmm,hall,c8,⟨_,bq⟩,⟨_,bq⟩,⟨_,_,bq⟩,fun y hy=>Eq.trans cB (hkp3 y hy)⟩
    ·rw[if_neg hin] at hget hall
     have g0:ur true (Value.string (eR (ee m2))) (nH l) (i64 0)=some (i64 0,false):=hget
     by_cases hfull:l.length=mo
     ·rw[if_pos hfull] at hall
      refine cV ?_
      refine aS (uh u m2 (hm2.P0 hr (by omega))) (args2:=[m2.fz u]) ?_ (by simp[cT,oy]) trivial ?_
      ·rw[List.map_cons,List.map_nil]
       congr 1
       exact(hM3.cS fun y hy=>by have:=hlt3 y hy;exact cB).zB 2
      refine cV ?_
      have hall2:none=gN u mo:=hall
      rw[←hall2]
      exact⟨⟨c8,rfl,fun y hy=>Eq.trans cB (hkp3 y hy)⟩⟩
     ·rw[if_neg hfull] at hall
      have g1:xc true (Value.string (eR (ee m2))) (nH l) (i64 1)=some (nH (l++[⟨m2,k,t⟩])):=by
       have:=zQ ug i64 (eR (ee m2)) 1 (jO l)
       rw[hput hin] at this
       exact this
      refine cV ?_
      refine aS (uh u m2 (hm2.P0 hr (by omega))) (args2:=[m2.fz u]) ?_ (by simp[cT,oy]) trivial ?_
      ·rw[List.map_cons,List.map_nil]
       congr 1
       exact(hM3.cS fun y hy=>by have:=hlt3 y hy;exact cB).zB 2
      refine cV ?_
      have hout:=hno
      refine⟨(t+1,l++[⟨m2,k,t⟩]),by dsimp only;omega,_,_,_,Rt.wk (tS (L:=L2) (lb:=n1+15) (m:=m2) (l:=l) (fr:=k) (th:=t) (hM3.cS ?_) bq (hno _ (by omega))),cI,by dsimp only;omega,by dsimp only;rw[List.length_append];omega,by dsimp only;simp only[List.length_append,List.length_cons,List.length_nil];omega,hadd hin,by dsimp only;rw[fF hkl];exact hmm,hall,c8,⟨_,(eP (hno _ (by omega))).trans bq⟩,⟨_,(eP (hno _ (by omega))).trans bq⟩,⟨_,_,(eP (hno _ (by omega))).trans bq⟩,fun y hy=>(eP (hno _ (by omega))).trans (Eq.trans cB (hkp3 y hy))⟩
      intro y hy
      have:=hlt2 y hy
      have:=hlt3 y hy
      exact cB
   ·have htry:sG u mo k t l=some l:=by
     unfold sG
     rw[hmm,if_pos hb]
    rw[htry] at hall
    refine cV ?_
    exact⟨(t+1,l),by dsimp only;omega,_,_,_,Rt.refl _ _ _,cI,by dsimp only;omega,hkl,hl,hfs,hmm,hall,c8,⟨_,bq⟩,⟨_,bq⟩,⟨_,_,bq⟩,fun y hy=>Eq.trans cB (hkp y hy)⟩
  ·have htG:t=u.bo.length:=by omega
   subst htG
   rw[List.drop_of_length_le (by simp),sY] at hall
   refine cV ?_
   exact⟨(k+1,l),by dsimp only;omega,_,_,_,Rt.refl _ _ _,cI,by dsimp only;omega,hl,hfs,hall,c8,⟨_,bq⟩,⟨_,bq⟩,⟨_,_,bq⟩,fun y hy=>Eq.trans cB (hkp y hy)⟩
 ·have hk2:k=l.length:=by omega
  refine cV ?_
  have hl2:gN u mo=some l:=by
   rw[←hall]
   subst hk2
   cases h:mo - l.length with
   |zero=>rfl
   |succ q=>rw[pq,if_neg (by omega)]
  have hw:=fun(H':Hp) (n':Nat) (hr:bn H' (n1+15)=some (.row 75 3 d1 (l.map (cQ.av u))))=>Wk.OU (r:= .sl (n1+15) l.length) (H:=H') (nx:=n') [(n1+15,some (.row 75 3 d1 (l.map (cQ.av u))))] 1 (fun b q hq=>by
   by_cases hb:b=n1+15
   ·subst hb;rw[cO] at hq;rw[←hq];exact hr
   ·rw[cG hb] at hq;cases hq)
  rw[nG (cO _ _ _) (by simp),oF] at hw
  rw[hl2]
  refine aU (fun i:Nat=>[(2, .fn (.func g) [] caps),(10,jz u l),(86,i64 l.length),(87,i64 i)])
   (fun i H n=>i≤l.length∧nx≤n∧I i H) (fun i=>l.length - i) 0
   ⟨_,_,_,Rt.slot 10 rfl (hw _ _ bq),cI,Nat.zero_le _,c8,hst 0 _ _ hI0 fun y hy=>(cG (by omega)).trans (Eq.trans cB (hkp y hy))⟩ ?_
  clear r0' r1' r2' hkp hw hn
  rintro i H n ⟨hi,hn,hI⟩
  by_cases hil:i<l.length
  ·refine cV ?_
   refine Eq.mpr (iH caps _) ?_
   show gQ Tryz.prog g (jz u l::i64 i::caps) _ _ _
   refine aO (hcl l hl2 i _ _ hil c8 (hst i H _ hI fun y hy=>cB)) ?_
   rintro _ H2 n2 ⟨hI2,hn2,_⟩
   refine cV ?_
   exact⟨i+1,by omega,_,_,_,Rt.refl _ _ _,cI,by omega,c8,hst _ _ _ hI2 fun y hy=>cB⟩
  ·obtain rfl:i=l.length:=by omega
   refine cV ?_
   exact⟨⟨c8,by rw[List.length_map],hst _ _ _ hI fun y hy=>cB⟩⟩
end Go.Proofs.YtekfmjjmihomlaaGreat
end
section
/- Ends compared: the code's Compare and Same. -/
namespace Go.Proofs.YtekfmjjmihomlaaGreat
open Go Go.cZ Go.Proofs
set_option linter.unusedSimpArgs false
set_option linter.unusedVariables false
theorem CV (p q:cg):Pure Tryz.prog 46 [p.av,q.av] (fun r=>r=i64 (fp p q)):=by
 have c0:=FQ p.ch q.ch
 have c1:=tC p.word q.word
 have c2:=B1 [fD p.ch q.ch,fD p.word q.word] (by simp)
 refine aI HN rfl ?_
 refine cV ?_
 refine aS (args2:=[cm [fD p.ch q.ch,fD p.word q.word]]) (r:=i64 (fp p q)) c2 rfl (by simp[cT,cE]) trivial ?_
 refine cV ?_
 first|exact rfl|trivial
theorem mJ {l:List cg} {i:Nat} (h:i<l.length) (d:AV):(l.map cg.av).getD ((i:Int)).toNat d=(l.getD i default).av:=by
 rw[Int.toNat_natCast];exact dB cg.av l i d h
theorem ye (a b:List cg) (ha:a.length<9223372036854775807):Pure Tryz.prog 45 [ez a,ez b, .fn (.func 46) [] []] (fun r=>r=i64 (er fp a b)):=by
 refine aI HM rfl ?_
 refine cV ?_
 rw[List.length_map]
 refine aP (fun i:Nat=>[(0,ez a),(1,ez b),(2, .fn (.func 46) [] []),(11,ez a),(12,i64 a.length),(13,i64 i)]) (fun i H n=>i≤a.length∧i≤b.length∧er fp a b=er fp (a.drop i) (b.drop i)) (fun i=>a.length - i) 0 cI ⟨Nat.zero_le _,Nat.zero_le _,rfl⟩ ?_
 rintro i H n ⟨hi,hib,ho⟩
 rw[ho]
 have a0:(a.map cg.av).length=a.length:=by simp
 have a1:(b.map cg.av).length=b.length:=by simp
 by_cases hil:i<a.length
 ·have e0:=fun d=>mJ hil d
  by_cases hbl:i<b.length
  ·have e1:=fun d=>mJ hbl d
   have hd:=qI fp default hil hbl
   have c0:=CV (a.getD i default) (b.getD i default)
   generalize a.getD i default=p at *
   generalize b.getD i default=q at *
   by_cases hz:fp p q=0
   ·have r0:=hz
    rw[if_pos hz] at hd
    refine cV ?_
    exact⟨i+1,by omega,cI,by omega,by omega,hd⟩
   ·have r0:=decide_eq_true hz
    rw[if_neg hz] at hd
    refine cV ?_
    rw[hd]
  ·rw[np fp hil (by omega)]
   refine cV ?_
   first|exact rfl|trivial
 ·obtain rfl:i=a.length:=by omega
  rw[nn fp (Nat.le_refl _) hib]
  by_cases h:a.length<b.length
  ·rw[if_pos h]
   refine cV ?_
   first|exact rfl|trivial
  ·rw[if_neg h]
   refine cV ?_
   first|exact rfl|trivial
theorem yc (a b:List Int) (ha:a.length<9223372036854775807):Pure Tryz.prog 50 [cm a,cm b] (fun r=>r=i64 (er fD a b)):=by
 refine aI HR rfl ?_
 refine cV ?_
 rw[List.length_map]
 refine aP (fun i:Nat=>[(0,cm a),(1,cm b),(9,cm a),(10,i64 a.length),(11,i64 i)]) (fun i H n=>i≤a.length∧i≤b.length∧er fD a b=er fD (a.drop i) (b.drop i)) (fun i=>a.length - i) 0 cI ⟨Nat.zero_le _,Nat.zero_le _,rfl⟩ ?_
 rintro i H n ⟨hi,hib,ho⟩
 rw[ho]
 have a0:(a.map i64).length=a.length:=by simp
 have a1:(b.map i64).length=b.length:=by simp
 by_cases hil:i<a.length
 ·have e0:=fun d=>eX hil d
  by_cases hbl:i<b.length
  ·have e1:=fun d=>eX hbl d
   have hd:=qI fD 0 hil hbl
   have c0:=tC (a.getD i 0) (b.getD i 0)
   generalize a.getD i 0=p at *
   generalize b.getD i 0=q at *
   by_cases hz:fD p q=0
   ·have r0:=hz
    rw[if_pos hz] at hd
    refine cV ?_
    exact⟨i+1,by omega,cI,by omega,by omega,hd⟩
   ·have r0:=decide_eq_true hz
    rw[if_neg hz] at hd
    refine cV ?_
    rw[hd]
  ·rw[np fD hil (by omega)]
   refine cV ?_
   first|exact rfl|trivial
 ·obtain rfl:i=a.length:=by omega
  rw[nn fD (Nat.le_refl _) hib]
  by_cases h:a.length<b.length
  ·rw[if_pos h]
   refine cV ?_
   first|exact rfl|trivial
  ·rw[if_neg h]
   refine cV ?_
   first|exact rfl|trivial
theorem tA (a b:cj) (h1:a.bu.length<9223372036854775807) (h2:a.mem.length<9223372036854775807):Pure Tryz.prog 19 [a.av,b.av] (fun r=>r=i64 (dz a b)):=by
 have c0:=ye a.bu b.bu h1
 have c1:=yc a.mem b.mem h2
 have c2:=B1 [er fp a.bu b.bu,er fD a.mem b.mem,sR a.ended b.ended] (by simp)
 obtain⟨ap,am,ae⟩:=a
 obtain⟨bp,bm,be⟩:=b
 cases ae<;>cases be<;>(refine aI G6 rfl ?_;refine cV ?_;refine aS (args2:=[cm [er fp ap bp,er fD am bm,_]]) (r:=i64 (kr [er fp ap bp,er fD am bm,_])) c2 rfl (by simp[cT,cE]) trivial ?_;refine cV ?_;first|exact rfl|trivial)
theorem rz (a b:cj) (h1:a.bu.length<9223372036854775807) (h2:a.mem.length<9223372036854775807):Pure Tryz.prog 20 [a.av,b.av] (fun r=>r=bl (decide (dz a b=0))):=by
 have c0:=tA a b h1 h2
 refine aI G7 rfl ?_
 refine cV ?_
 refine db ?_
 simp
end Go.Proofs.YtekfmjjmihomlaaGreat
end
section
/- Ends compared: the document's Compare; the plain laws. -/
namespace Go.Proofs.YtekfmjjmihomlaaGreat
open Go Go.cZ Go.Proofs
set_option linter.unusedSimpArgs false
set_option linter.unusedVariables false
theorem rj (b:Bool):Pure Tryz.prog 44 [bl b] (fun r=>r=i64 (if b then -1 else 1)):=by
 cases b<;>(refine aI HL rfl ?_;refine cV ?_;first|exact rfl|trivial)
theorem kK {x:Bool} {v:Int} (h:(if x=true then -1 else 1)=v):Pure Tryz.prog 44 [bl x] (fun r=>r=i64 v):=by
 have:=rj x
 rw[h] at this
 exact this
theorem KW {p q:cg} (h:p.ch<q.ch∨p.ch=q.ch∧p.word<q.word):fp p q=-1:=by
 unfold fp fD
 simp only[kr]
 repeat' (first|omega|split)
theorem KV {p q:cg} (h:¬(p.ch<q.ch∨p.ch=q.ch∧p.word<q.word)) (hne:¬(p.ch=q.ch∧p.word=q.word)):fp p q=1:=by
 unfold fp fD
 simp only[kr]
 repeat' (first|omega|split)
theorem KU {p q:cg} (h:p.ch=q.ch∧p.word=q.word):fp p q=0:=by
 unfold fp fD
 simp only[kr]
 repeat' (first|omega|split)
theorem KT {x y:Int} (h:x≠y):fD x y=if x<y then -1 else 1:=by
 unfold fD;split
 ·rfl
 ·rw[if_pos (by omega)]
theorem A1 (x:Int):fD x x=0:=by unfold fD;simp
set_option maxHeartbeats 1000000 in
theorem nL (a b:cj) (h1:a.bu.length<9223372036854775807) (h2:a.mem.length<9223372036854775807):Pure Tryz.prog 18 [a.av,b.av] (fun r=>r=i64 (dz a b)):=by
 have a0:(a.bu.map cg.av).length=a.bu.length:=by simp
 have a1:(b.bu.map cg.av).length=b.bu.length:=by simp
 have a2:(a.mem.map i64).length=a.mem.length:=by simp
 have a3:(b.mem.map i64).length=b.mem.length:=by simp
 refine aI G5 rfl ?_
 refine cV ?_
 refine aP (fun i:Nat=>[(2, .pt 0 1 0 0),(3, .pt 1 1 0 0),(5,i64 i)]) (fun i H n=>2≤n∧(∃d,bn H 0=some (.row 40 3 d [a.av]))∧(∃d,bn H 1=some (.row 40 3 d [b.av]))∧i≤a.bu.length∧i≤b.bu.length∧er fp a.bu b.bu=er fp (a.bu.drop i) (b.bu.drop i)) (fun i=>a.bu.length - i) 0 cI ⟨c8,⟨_,bq⟩,⟨_,bq⟩,Nat.zero_le _,Nat.zero_le _,rfl⟩ ?_
 rintro i H n ⟨hn,⟨d0,r0⟩,⟨d1,r1⟩,hi,hib,ho⟩
 by_cases hil:i<a.bu.length
 ·have e0:=fun d=>mJ hil d
  by_cases hbl:i<b.bu.length
  ·have e1:=fun d=>mJ hbl d
   have hd:=qI fp default hil hbl
   generalize a.bu.getD i default=p at *
   generalize b.bu.getD i default=q at *
   have g0:=decide_eq_true hil
   have g1:=decide_eq_true hbl
   by_cases hlt:p.ch<q.ch∨p.ch=q.ch∧p.word<q.word
   ·have hc:=KW hlt
    have hE:dz a b=-1:=by unfold dz;rw[ho,hd,hc,if_neg (by decide),kr,if_neg (by decide)]
    rw[hE]
    by_cases h3:p.ch<q.ch
    ·refine cV ?_
     first|exact rfl|trivial
    ·obtain⟨h4,h5⟩:=hlt.resolve_left h3
     have g2:=decide_eq_true h4
     have g3:=decide_eq_true h5
     refine cV ?_
     first|exact rfl|trivial
   ·have g4:¬p.ch<q.ch:=fun e=>hlt (.inl e)
    by_cases heq:p.ch=q.ch∧p.word=q.word
    ·obtain⟨h4,h5⟩:=heq
     have hc:=KU ⟨h4,h5⟩
     rw[hc,if_pos rfl] at hd
     have g5:¬p.word<q.word:=by omega
     refine cV ?_
     exact⟨i+1,by omega,cI,by omega,⟨_,bq⟩,⟨_,bq⟩,by omega,by omega,ho.trans hd⟩
    ·have hc:=KV hlt heq
     have hE:dz a b=1:=by unfold dz;rw[ho,hd,hc,if_neg (by decide),kr,if_neg (by decide)]
     rw[hE]
     refine cV ?_
     first|exact rfl|trivial
  ·have hE:dz a b=1:=by unfold dz;rw[ho,np fp hil (by omega),kr,if_neg (by decide)]
   rw[hE]
   have hne:a.bu.length≠b.bu.length:=by omega
   have c0:=kK (x:=decide (((a.bu.map cg.av).length:Int)<((b.bu.map cg.av).length:Int))) (v:=1) (by rw[decide_eq_false (by omega)];rfl)
   refine cV ?_
   first|exact rfl|trivial
 ·obtain rfl:i=a.bu.length:=by omega
  rw[nn fp (Nat.le_refl _) hib] at ho
  by_cases hpl:a.bu.length<b.bu.length
  ·rw[if_pos hpl] at ho
   have hE:dz a b=-1:=by unfold dz;rw[ho,kr,if_neg (by decide)]
   rw[hE]
   have hne:a.bu.length≠b.bu.length:=by omega
   have c0:=kK (x:=decide (((a.bu.map cg.av).length:Int)<((b.bu.map cg.av).length:Int))) (v:=-1) (by rw[decide_eq_true (by omega)];rfl)
   refine cV ?_
   first|exact rfl|trivial
  ·rw[if_neg hpl] at ho
   have hpe:b.bu.length=a.bu.length:=by omega
   refine cV ?_
   refine aP (fun i:Nat=>[(2, .pt 0 1 0 0),(3, .pt 1 1 0 0),(8,i64 i)]) (fun i H n=>2≤n∧(∃d,bn H 0=some (.row 40 3 d [a.av]))∧(∃d,bn H 1=some (.row 40 3 d [b.av]))∧i≤a.mem.length∧i≤b.mem.length∧er fD a.mem b.mem=er fD (a.mem.drop i) (b.mem.drop i)) (fun i=>a.mem.length - i) 0 cI ⟨c8,⟨_,bq⟩,⟨_,bq⟩,Nat.zero_le _,Nat.zero_le _,rfl⟩ ?_
   clear r0 r1 hn
   rintro i H n ⟨hn,⟨d0,r0⟩,⟨d1,r1⟩,hi,hib,hm⟩
   by_cases hil:i<a.mem.length
   ·have e0:=fun d=>eX hil d
    by_cases hbl:i<b.mem.length
    ·have e1:=fun d=>eX hbl d
     have hd:=qI fD 0 hil hbl
     generalize a.mem.getD i 0=p at *
     generalize b.mem.getD i 0=q at *
     have g0:=decide_eq_true hil
     have g1:=decide_eq_true hbl
     by_cases heq:p=q
     ·rw[heq,A1,if_pos rfl] at hd
      refine cV ?_
      exact⟨i+1,by omega,cI,by omega,⟨_,bq⟩,⟨_,bq⟩,by omega,by omega,hm.trans hd⟩
     ·have hc:=KT heq
      by_cases hlt:p<q
      ·rw[if_pos hlt] at hc
       have hE:dz a b=-1:=by unfold dz;rw[ho,hm,hd,hc,if_neg (by decide),kr,if_pos rfl,kr,if_neg (by decide)]
       rw[hE]
       have c0:=kK (x:=decide (p<q)) (v:=-1) (by rw[decide_eq_true hlt];rfl)
       refine cV ?_
       first|exact rfl|trivial
      ·rw[if_neg hlt] at hc
       have hE:dz a b=1:=by unfold dz;rw[ho,hm,hd,hc,if_neg (by decide),kr,if_pos rfl,kr,if_neg (by decide)]
       rw[hE]
       have c0:=kK (x:=decide (p<q)) (v:=1) (by rw[decide_eq_false hlt];rfl)
       refine cV ?_
       first|exact rfl|trivial
    ·have hE:dz a b=1:=by unfold dz;rw[ho,hm,np fD hil (by omega),kr,if_pos rfl,kr,if_neg (by decide)]
     rw[hE]
     have hne:a.mem.length≠b.mem.length:=by omega
     have c0:=kK (x:=decide (((a.mem.map i64).length:Int)<((b.mem.map i64).length:Int))) (v:=1) (by rw[decide_eq_false (by omega)];rfl)
     refine cV ?_
     first|exact rfl|trivial
   ·obtain rfl:i=a.mem.length:=by omega
    rw[nn fD (Nat.le_refl _) hib] at hm
    by_cases hml:a.mem.length<b.mem.length
    ·rw[if_pos hml] at hm
     have hE:dz a b=-1:=by unfold dz;rw[ho,hm,kr,if_pos rfl,kr,if_neg (by decide)]
     rw[hE]
     have hne:a.mem.length≠b.mem.length:=by omega
     have c0:=kK (x:=decide (((a.mem.map i64).length:Int)<((b.mem.map i64).length:Int))) (v:=-1) (by rw[decide_eq_true (by omega)];rfl)
     refine cV ?_
     first|exact rfl|trivial
    ·rw[if_neg hml] at hm
     have hme:b.mem.length=a.mem.length:=by omega
     have hE:dz a b=sR a.ended b.ended:=by
      unfold dz;rw[ho,hm,kr,if_pos rfl,kr,if_pos rfl,kr]
      split<;>simp_all[kr]
     rw[hE]
     obtain⟨ap,am,ae⟩:=a
     obtain⟨bp,bm,be⟩:=b
     have c0:=rj be
     cases ae<;>cases be<;>(refine cV ?_;first|exact rfl|trivial)
end Go.Proofs.YtekfmjjmihomlaaGreat
end
section
/- Ends compared: the order's plain laws. -/
namespace Go.Proofs.YtekfmjjmihomlaaGreat
open Go Go.cZ Go.Proofs
set_option linter.unusedSimpArgs false
set_option linter.unusedVariables false
theorem qn (x y:Int):fD y x=-fD x y:=by
 unfold fD
 repeat' (first|omega|split)
theorem uy:∀l:List Int,kr (l.map (-·))=-kr l
 |[]=>rfl
 |x::l=>by
  simp only[List.map_cons,kr]
  by_cases h:x=0
  ·rw[if_pos (by omega),if_pos h];exact uy l
  ·rw[if_neg (by omega),if_neg h]
theorem FT (p q:cg):fp q p=-fp p q:=by
 unfold fp
 rw[←uy,qn p.ch,qn p.word];rfl
theorem qo {α:Type} {f:α→α→Int} (hf:∀x y,f y x=-f x y):∀a b:List α,er f b a=-er f a b
 |[],[]=>rfl
 |[],_::_=>rfl
 |_::_,[]=>rfl
 |x::a,y::b=>by
  rw[er,er,hf x y]
  by_cases h:f x y=0
  ·rw[if_pos (by omega),if_pos h];exact qo hf a b
  ·rw[if_neg (by omega),if_neg h]
theorem FO (a b:Bool):sR b a=-sR a b:=by cases a<;>cases b<;>rfl
theorem FP (a b:cj):dz b a=-dz a b:=by
 unfold dz
 rw[←uy,qo FT a.bu,qo qn a.mem,FO a.ended];rfl
theorem xh {l:List Int}:kr l=0↔∀x∈l,x=0:=by
 induction l with
 |nil=>simp[kr]
 |cons x l ih=>
  rw[kr]
  by_cases h:x=0
  ·rw[if_pos h,ih];simp[h]
  ·rw[if_neg h];simp[h]
theorem jw {x y:Int}:fD x y=0↔x=y:=by
 constructor
 ·unfold fD;intro h;revert h;repeat' (first|omega|split)
 ·rintro rfl;exact A1 _
theorem oo {p q:cg}:fp p q=0↔p=q:=by
 unfold fp
 rw[xh]
 simp only[List.mem_cons,List.not_mem_nil,or_false,forall_eq_or_imp,forall_eq,jw]
 constructor
 ·rintro⟨h1,h2⟩;cases p;cases q;simp_all
 ·rintro rfl;exact⟨rfl,rfl⟩
theorem jx {α:Type} {f:α→α→Int} (hf:∀x y,f x y=0↔x=y):∀a b:List α,er f a b=0↔a=b
 |[],[]=>by simp[er]
 |[],_::_=>by simp[er]
 |_::_,[]=>by simp[er]
 |x::a,y::b=>by
  rw[er]
  by_cases h:f x y=0
  ·rw[if_pos h,jx hf a b]
   have:=(hf x y).1 h
   simp[this]
  ·rw[if_neg h]
   have:x≠y:=fun e=>h ((hf x y).2 e)
   simp[h,this]
theorem tB {a b:cj}:dz a b=0↔a=b:=by
 unfold dz
 rw[xh]
 simp only[List.mem_cons,List.not_mem_nil,or_false,forall_eq_or_imp,forall_eq,jx (fun x y=>oo),jx (fun x y=>jw)]
 constructor
 ·rintro⟨h1,h2,h3⟩
  obtain⟨ap,am,ae⟩:=a
  obtain⟨bp,bm,be⟩:=b
  cases ae<;>cases be<;>simp_all[sR]
 ·rintro rfl
  exact⟨rfl,rfl,by cases a.ended<;>rfl⟩
end Go.Proofs.YtekfmjjmihomlaaGreat
end
section
/- Count; the closures that ends, ways and what is shown hand to the exploring. -/
namespace Go.Proofs.YtekfmjjmihomlaaGreat
open Go Go.cZ Go.Proofs
set_option linter.unusedSimpArgs false
set_option linter.unusedVariables false
set_option maxRecDepth 8000
open Classical in
noncomputable def gB (u:bt) (most:Int):Int×List cQ:=
 if ¬dC u then(60,[]) else if ¬(1≤most∧most≤65536) then(2,[]) else match gN u most.toNat with
  |none=>(3,[])
  |some l=>(0,l)
theorem lM {u:bt} {most:Int} (h:¬dC u):gB u most=(60,[]):=by unfold gB;rw[if_pos h]
theorem jL {u:bt} {most:Int} (h:dC u) (hm:¬(1≤most∧most≤65536)):gB u most=(2,[]):=by unfold gB;rw[if_neg (fun e=>e h),if_pos hm]
theorem j3 {u:bt} {most:Int} (h:dC u) (hm:1≤most∧most≤65536):gB u most=(match gN u most.toNat with|none=>(3,[])|some l=>(0,l)):=by unfold gB;rw[if_neg (fun e=>e h),if_neg (fun e=>e hm)]
theorem FU (a b:AV) (H:Hp) (nx:Nat):cP Tryz.prog 33 [a,b] H nx (fun r H' n=>H'=H∧n=nx):=by
 refine aQ HD rfl ?_
 refine cV ?_
 exact⟨⟨rfl,rfl⟩⟩
theorem qp (u:bt) (hu:u.Wf) (most:Int):Pure Tryz.prog 11 [u.av,i64 most] (fun r=>r= .dV [i64 (gB u most).2.length,i64 (gB u most).1]):=by
 refine dY ?_ (by simp[cE,cT])
 refine aQ GY rfl ?_
 by_cases hr:dC u
 ·by_cases hm:1≤most∧most≤65536
  ·rw[j3 hr hm]
   refine cV ?_
   refine aO (qb u hu hr most hm _ [] _ _ (fun _ _=>True) trivial (fun _ _ _ _ _=>trivial) ?_) ?_
   ·intro l hl k H n hk hn _
    refine(FU _ _ H n).mono ?_
    rintro r H' n' ⟨rfl,rfl⟩
    exact⟨trivial,Nat.le_refl _,fun y _ _=>rfl⟩
   rintro r H' n' ⟨hn,hA⟩
   revert hA
   cases gN u most.toNat with
   |none=>
    rintro⟨rfl,_⟩
    refine cV ?_
    exact⟨rfl⟩
   |some l=>
    rintro⟨rfl,_⟩
    refine cV ?_
    exact⟨rfl⟩
  ·rw[jL hr hm]
   refine cV ?_
   refine aO (oi u hu hr most hm _ [] _ _) ?_
   rintro r H' n' ⟨rfl,hn,_⟩
   refine cV ?_
   exact⟨rfl⟩
 ·rw[lM hr]
  refine cV ?_
  refine aO (uP u hu hr most _ [] _ _) ?_
  rintro r H' n' ⟨rfl,hn,_⟩
  refine cV ?_
  exact⟨rfl⟩
def dj (u:bt) (l:List cQ) (k:Nat):List cj:=(l.take k).filterMap fun f=>if f.m.stuck u then some (f.m.end_ u) else none
theorem pU {u:bt} {l:List cQ} {k:Nat} (hk:k<l.length):dj u l (k+1)=dj u l k++(if(l.getD k default).m.stuck u then[(l.getD k default).m.end_ u] else[]):=by
 unfold dj
 rw[List.take_succ_eq_append_getElem hk,List.filterMap_append,show l.getD k default=l[k] by simp[List.getD,hk]]
 congr 1
 simp only[List.filterMap_cons,List.filterMap_nil]
 split
 ·rename_i h;split at h<;>simp_all
 ·rename_i h;split at h<;>simp_all
theorem my (u:bt) (l:List cQ) (k:Nat):(dj u l k).length≤k:=by
 unfold dj
 refine Nat.le_trans (List.length_filterMap_le _ _) ?_
 rw[List.length_take];omega
set_option maxHeartbeats 1000000 in
theorem K3 {u:bt} (hr:dC u) {l:List cQ} (hf:gw u l) (hl:l.length≤65536) {k:Nat} (hk:k<l.length) {ub ob o:Nat} {H:Hp} {nx:Nat} (h1:ub<nx) (h2:ob<nx) (h3:o<nx) (hne:ob≠o)
 (r1:∃d,bn H ub=some (.row 25 3 d [u.av])) (r2:∃d,bn H ob=some (.row 30 1 d [.sl o (dj u l k).length])) (r3:∃d,bn H o=some (.row 40 3 d ((dj u l k).map cj.av))):
 cP Tryz.prog 35 [jz u l,i64 k, .pt ub 1 0 0, .pt ob 1 0 0] H nx (fun _ H' n=>(∃d,bn H' ob=some (.row 30 1 d [.sl o (dj u l (k+1)).length]))∧(∃d,bn H' o=some (.row 40 3 d ((dj u l (k+1)).map cj.av)))∧nx≤n∧∀y,y<nx→y≠ob→y≠o→bn H' y=bn H y):=by
 obtain⟨d1,r1⟩:=r1
 obtain⟨d2,r2⟩:=r2
 obtain⟨d3,r3⟩:=r3
 have hel:=my u l k
 obtain⟨hm,hp⟩:=hf.ok k hk
 have e0:∀d,(l.map (cQ.av u)).getD ((k:Int)).toNat d= .agg [(l.getD k default).m.fz u,i64 (l.getD k default).from_,i64 (l.getD k default).ch]:=fun d=>by rw[Int.toNat_natCast];exact dB (cQ.av u) l k d hk
 have a0:(l.map (cQ.av u)).length=l.length:=by simp
 have a1:((dj u l k).map cj.av).length=(dj u l k).length:=by simp
 have c0:=tq u hr (l.getD k default).m hm (by omega) (by have:=hm.ml;have:=hr.vO;omega)
 rw[pU hk]
 generalize (l.getD k default).m=m at *
 cases hs:m.stuck u with
 |true=>
  rw[ku,hs] at c0
  refine aQ DR rfl ?_
  refine cV ?_
  refine⟨⟨⟨_,by simp only[List.length_append,if_true,List.length_cons,List.length_nil];exact bq⟩,⟨_,by simp only[List.map_append,if_true,List.map_cons,List.map_nil];exact bq⟩,c8,fun y y1 y2 y3=>cB⟩⟩
 |false=>
  rw[ku,hs] at c0
  refine aQ DR rfl ?_
  refine cV ?_
  refine⟨⟨⟨_,by rw[if_neg (by decide),List.append_nil];exact bq⟩,⟨_,by rw[if_neg (by decide),List.append_nil];exact bq⟩,c8,fun y y1 y2 y3=>cB⟩⟩
end Go.Proofs.YtekfmjjmihomlaaGreat
end
section
/- Shows: the walk. -/
namespace Go.Proofs.YtekfmjjmihomlaaGreat
open Go Go.cZ Go.Proofs
set_option linter.unusedSimpArgs false
set_option linter.unusedVariables false
set_option maxRecDepth 8000
end Go.Proofs.YtekfmjjmihomlaaGreat
end
