import Derived.Test.YtekfmjjmihomlaaGreatM32
import Derived.Test.YtekfmjjmihomlaaGreatM33
import Derived.Test.YtekfmjjmihomlaaGreatM34
import Derived.Lib.ItoaLen
import Derived.Test.YtekfmjjmihomlaaGreatM30
section
/- A machine in rows told by value, within a list of what was found. -/
namespace Go.Proofs.YtekfmjjmihomlaaGreat
open Go Go.cO Go.Proofs
set_option linter.unusedSimpArgs false
set_option linter.unusedVariables false
set_option maxRecDepth 8000
def jD (S:List Nat) (H:Hp):Hp:=S.map fun y=>(y,bd H y)
theorem vT {S:List Nat} {H:Hp} {y:Nat} (h:y∈S):bd (jD S H) y=bd H y:=by
 induction S with
 |nil=>cases h
 |cons x S ih=>
  rw[jD,List.map_cons]
  by_cases e:y=x
  ·subst e;exact cT _ _ _
  ·rw[cF e]
   exact ih (by simpa[e] using h)
theorem qx {S:List Nat} {H:Hp} {y:Nat} {q:dv} (h:bd (jD S H) y=some q):bd H y=some q:=by
 have:y∈S:=by
  have:=kO h
  simpa[jD] using this
 rw[vT this] at h;exact h
theorem de {S:List Nat} {H H2:Hp} {y:Nat} (h:y∉S):bd (j5 (jD S H) H2) y=bd H2 y:=eY (by simpa[jD] using h)
section
variable {u:bf} {m:MS} {L:ML} {H:Hp}
theorem ML.At.pn (h:L.At u m H) (k:Nat):Go.cO.fq (jD L.all H) (k+4) (.pt L.mr 1 0 0)=m.fz u:=by
 have h:=h.cE (H':=jD L.all H) fun y hy=>vT hy
 generalize jD L.all H=G at *
 obtain⟨d1,h1⟩:=h.rM
 obtain⟨d2,h2⟩:=h.rA
 obtain⟨d3,h3⟩:=h.rS
 obtain⟨d4,h4⟩:=h.rE
 obtain⟨d5,h5⟩:=h.rH
 obtain⟨d6,h6⟩:=h.rP
 have hsl:(dh L.ids m.bg).length=m.bg.length:=qu h.len
 have hs:(dh L.ids m.bg).map (Go.cO.fq G (k+1))=m.bg.map cw:=by
  apply List.ext_getElem (by simp[hsl])
  intro t q1 q2
  have ht:t<m.bg.length:=by simpa using q2
  have hti:t<L.ids.length:=by rw[h.len];exact ht
  obtain⟨d,hd⟩:=h.rL t ht
  rw[show L.ids.getD t 0=L.ids[t] by simp[List.getD,hti],show m.bg.getD t []=m.bg[t] by simp[List.getD,ht]] at hd
  rw[List.getElem_map,List.getElem_map]
  simp only[dh,List.getElem_map,List.getElem_zip]
  rw[kP hd (by simp),eo _ ((cB _ _).2 fun _ _=>by simp[bx])]
 rw[show Go.cO.fq G (k+4) (.pt L.mr 1 0 0)= .ip 8 .any ([m.rows u L.a L.s L.me L.ho L.pr].map (Go.cO.fq G (k+3))) 0 0 from F1 h1 rfl]
 simp only[List.map_cons,List.map_nil,MS.rows]
 rw[tv]
 simp only[List.map_cons,List.map_nil]
 rw[kP h2 (by simp),kP h3 hsl,kP h4 (by simp),kP h5 (by simp),kP h6 (by simp),hs]
 rw[eo _ ((cB _ _).2 fun _ _=>by simp[bx]),eo _ ((cB _ _).2 fun _ _=>by simp[bx]),eo _ ((cB _ _).2 fun _ _=>by simp[bx]),eo _ ((cB _ _).2 fun _ _=>by simp[bx])]
 rw[iw _ (show bx 0 (cV u.shared) by simp[bx,cB]),iw _ (show bx 0 (cV u.bz) by simp[bx,cB]),iw _ (show bx 0 (dQ u.bj) by simp[bx,cB])]
 rfl
end
def cC.cells (u:bf) (f:cC):List AV:=[f.m.fz u,i64 f.from_,i64 f.cL]
abbrev cC.av (u:bf) (f:cC):AV:= .agg (f.cells u)
abbrev ij (u:bf) (l:List cC):AV:= .im 3 .any (l.map (cC.av u))
@[simp] theorem zQ (n:Nat) (u:bf) (f:cC):cK n (f.cells u):=by
  have:=gm n u f.m
  simp[cC.cells,cK,bx]
theorem wJ (u:bf) (l:List cC):cK 0 (l.map (cC.av u)):=(cB _ _).2 fun _ _=>by simp only[cC.av,bx];exact zQ _ _ _
theorem q8 {u:bf} {m:MS} {L:ML} {H:Hp} {lb nx:Nat} {d:AV} {l:List cC} {fr th:Int} (hM:L.At u m H) (hl:bd H lb=some (.row 75 3 d (l.map (cC.av u)++[.agg [.pt L.mr 1 0 0,i64 fr,i64 th]]))) (hlb:lb∉L.all):
 Wk .any H nx .any (j5 (jD L.all H) ((lb,some (.row 75 3 .any ((l++[(⟨m,fr,th⟩:cC)]).map (cC.av u))))::H)) nx:=by
 have:=Wk.fq (nx:=nx) (jD L.all H) 5 .any hl (fun b q hq=>qx hq)
 rw[List.map_append,eo _ (wJ u l),List.map_cons,List.map_nil,tv,List.map_cons,List.map_cons,List.map_cons,List.map_nil,hM.pn 0,iw _ (show bx 0 (i64 fr) by simp[bx]),iw _ (show bx 0 (i64 th) by simp[bx])] at this
 rw[List.map_append]
 exact this
end Go.Proofs.YtekfmjjmihomlaaGreat
end
section
/- Keys are short, and tell situations apart as texts do. -/
namespace Go.Proofs.YtekfmjjmihomlaaGreat
open Go Go.cO Go.Proofs
set_option linter.unusedSimpArgs false
set_option linter.unusedVariables false
theorem kM {α:Type} (f:α→List UInt8) (k:Nat):∀l:List α,(∀a∈l,(f a).length≤k)→(l.flatMap f).length≤l.length * k
 |[],_=>by simp
 |a::l,h=>by
  have h1:=kM f k l fun b hb=>h b (by simp[hb])
  have h2:=h a (by simp)
  rw[List.flatMap_cons,List.length_append,List.length_cons,Nat.add_mul]
  omega
theorem kV {x:Int} (e:List UInt8) (h:di x):(dR x e).length≤21+e.length:=by
 have:=Go.Lib.itoa_length_le x h.1 (by have:=h.2;omega)
 unfold dR
 rw[List.length_append]
 omega
theorem dw.JZ {u:bf} {m:MS} (hr:c8 u) (h:dw u m):(fH m).length≤100000000+m.bn.length * 50:=by
 have hf:=hr.AZ
 have hal:=h.l9
 have hml:=h.ml
 have hhl:=h.hl
 have hn:∀t,t<u.bj.length→(u.gr t).nodes.length≤4096∧(u.gr t).bg≤4160:=fun t ht=>⟨(hr.gr ht).len.2,(hr.gr ht).bg.2⟩
 have h1:((List.range m.at_.length).flatMap (p6 m)).length≤(List.range m.at_.length).length * 100000:=by
  refine kM _ _ _ fun t ht=> ?_
  have ht:=List.mem_range.1 ht
  have hat:=h.gB t (by omega)
  obtain⟨n1,n2⟩:=hn t (by omega)
  have hs:=h.xM t (by omega)
  have a1:=kV (x:=m.at_.getD t 0) [44] ⟨by omega,by omega⟩
  have a2:=kM (fun w=>dR w [44]) 22 (m.bg.getD t []) fun w hw=>kV [44] (h.xN t (by omega) w hw)
  have e:(p6 m t).length=(dR (m.at_.getD t 0) [44]).length+((m.bg.getD t []).flatMap (fun w=>dR w [44])).length+1:=by simp only[p6,List.length_append,List.length_cons,List.length_nil]
  simp only[List.length_cons,List.length_nil] at a1
  rw[e]
  omega
 rw[List.length_range] at h1
 have h2:=kM (fun w=>dR w [44]) 22 m.mem fun w hw=>kV [44] (h.mw w hw)
 have h3:=kM (fun w=>dR w [44]) 22 m.hold fun w hw=>kV [44] (by have:=h.hw w hw;exact⟨by omega,by omega⟩)
 have h4:=kM sP 50 m.bn fun p hp=>by
  obtain⟨p1,p2,p3⟩:=h.pw p hp
  have a1:=kV (x:=p.cL) [58] ⟨by omega,by omega⟩
  have a2:=kV (x:=p.word) [44] p3
  simp only[List.length_cons,List.length_nil] at a1 a2
  unfold sP
  rw[List.length_append]
  omega
 rw[sF]
 omega
theorem dw.MW {u:bf} {m:MS} (hr:c8 u) (h:dw u m) (hp:m.bn.length≤1048576):NQ m:=by
 have hf:=hr.AZ
 refine⟨fun w hw=> ?_,by rw[h.sl,h.l9],fun l hl w hw=> ?_,h.mw,fun w hw=> ?_,fun p hp=> ?_, ?_⟩
 ·obtain⟨t,ht,rfl⟩:=List.mem_iff_getElem.1 hw
  have h1:=h.gB t (by rw[←h.l9];exact ht)
  have h2:=(hr.gr (t:=t) (by rw[←h.l9];exact ht)).len.2
  rw[show m.at_.getD t 0=m.at_[t] by simp[List.getD,ht]] at h1
  exact⟨by omega,by omega⟩
 ·obtain⟨t,ht,rfl⟩:=List.mem_iff_getElem.1 hl
  have:=h.xN t (by rw[←h.sl];exact ht) w
  rw[show m.bg.getD t []=m.bg[t] by simp[List.getD,ht]] at this
  exact this hw
 ·have:=h.hw w hw
  exact⟨by omega,by omega⟩
 ·obtain⟨p1,p2,p3⟩:=h.pw p hp
  exact⟨⟨by omega,by omega⟩,p3⟩
 ·have:=h.JZ hr
  omega
theorem IF {a b:List UInt8} (h:jI a=jI b):a=b:=by
 have:=congrArg (fun x:ByteArray=>x.data.toList) h
 simpa[jI] using this
abbrev gq (l:List cC):List (ByteArray×Int):=l.map fun f=>(jI (fH f.m),1)
abbrev lL (l:List cC):List AV:=nG (fun s:ByteArray=>Value.string s) i64 (gq l)
theorem pF (l:List cC) (k:List UInt8):eB (gq l) (jI k)=if k∈eu l then some 1 else none:=by
 split
 ·rename_i h
  cases hl:eB (gq l) (jI k) with
  |none=>
   exfalso
   refine(nD _ _).1 hl ?_
   rw[List.map_map]
   obtain⟨f,h1,h2⟩:=List.mem_map.1 h
   exact List.mem_map.2 ⟨f,h1,by simp only[Function.comp];rw[h2]⟩
  |some v=>
   have hv:∀(l:List cC),eB (gq l) (jI k)=some v→v=1:=by
    intro l
    induction l with
    |nil=>intro h;cases h
    |cons f l ih=>
     intro h
     rw[gq,List.map_cons,eB] at h
     split at h
     ·cases h;rfl
     ·exact ih h
   rw[hv l hl]
 ·rename_i h
  refine(nD _ _).2 fun hm=>h ?_
  rw[List.map_map] at hm
  obtain⟨f,h1,h2⟩:=List.mem_map.1 hm
  simp only[Function.comp] at h2
  exact List.mem_map.2 ⟨f,h1,IF h2⟩
theorem zl {l:List cC} {m:MS} {a b:Int} (h:fH m∉eu l):gQ (gq l) (jI (fH m)) 1=gq (l++[⟨m,a,b⟩]):=by
 have key:∀E:List (ByteArray×Int),eB E (jI (fH m))=none→gQ E (jI (fH m)) 1=E++[(jI (fH m),1)]:=by
  intro E
  induction E with
  |nil=>intro _;rfl
  |cons p E ih=>
   intro hn
   obtain⟨x,y⟩:=p
   rw[eB] at hn
   rw[gQ]
   split at hn
   ·cases hn
   ·rename_i hx
    rw[if_neg hx,ih hn];rfl
 rw[key _ (by rw[pF,if_neg h]),gq,gq,List.map_append];rfl
end Go.Proofs.YtekfmjjmihomlaaGreat
end
section
/- All situations: the walk. -/
namespace Go.Proofs.YtekfmjjmihomlaaGreat
open Go Go.cO Go.Proofs
set_option linter.unusedSimpArgs false
set_option linter.unusedVariables false
set_option maxRecDepth 8000
theorem rU (u:bf) (hu:u.Wf) (hr:¬c8 u) (most:Int) (g:Nat) (caps:List AV) (H0:Hp) (nx:Nat):cD Tryz.prog 32 [u.av,i64 most, .fn (.func g) [] caps] H0 nx (fun r H n=>r= .db [i64 0,i64 60]∧nx≤n∧∀y,y<nx→bd H y=bd H0 y):=by
 have c0:=ye u hu hr
 refine aQ wX rfl ?_
 refine cQ ?_
 exact⟨⟨rfl,cZ,fun y hy=>bq⟩⟩
theorem mi (u:bf) (hu:u.Wf) (hr:c8 u) (most:Int) (hm:¬(1≤most∧most≤65536)) (g:Nat) (caps:List AV) (H0:Hp) (nx:Nat):cD Tryz.prog 32 [u.av,i64 most, .fn (.func g) [] caps] H0 nx (fun r H n=>r= .db [i64 0,i64 2]∧nx≤n∧∀y,y<nx→bd H y=bd H0 y):=by
 refine aQ wX rfl ?_
 refine cQ ?_
 refine aJ (mE u hu hr _ _) ?_
 rintro r H1 n1 ⟨L,rfl,hM,hlt,hn1,hk1⟩
 by_cases h1:most<1
 ·refine cQ ?_
  exact⟨⟨rfl,cZ,fun y hy=>Eq.trans bq ((hk1 y cZ).trans bq)⟩⟩
 ·have h2:65536<most:=by omega
  refine cQ ?_
  exact⟨⟨rfl,cZ,fun y hy=>Eq.trans bq ((hk1 y cZ).trans bq)⟩⟩
theorem vw (u:bf) (hr:c8 u) (m:MS) (h:dw u m) (hp:m.bn.length≤1048576) (H0:Hp) (nx:Nat):cD Tryz.prog 65 [m.fz u] H0 nx (fun r H n=>∃L:ML,r= .pt L.mr 1 0 0∧L.At u m H∧(∀x∈L.all,nx≤x∧x<n)∧nx≤n∧∀y,y<nx→bd H y=bd H0 y):=by
 have hgl:=hr.AZ
 refine(vx u m (by have:=h.l9;omega) (by have:=h.ml;omega) (by have:=h.hl;omega) hp (by have:=h.sl;omega) (fun x hx=> ?_) H0 nx).mono ?_
 ·obtain⟨s,hs,rfl⟩:=List.mem_iff_getElem.1 hx
  have h1:=h.xM s (by rw[←h.sl];exact hs)
  have h2:=(hr.gr (t:=s) (by rw[←h.sl];exact hs)).bg.2
  rw[show m.bg.getD s []=m.bg[s] by simp[List.getD,hs]] at h1
  omega
 ·rintro r H n ⟨mr,a,s,me,ho,pr,ids,rfl,h1,h2,h3,h4⟩
  exact⟨⟨mr,a,s,me,ho,pr,ids⟩,rfl,h1,h2,h3,h4⟩
def E5 (u:bf) (most:Int) (I:Nat→Hp→Prop) (nx:Nat) (H0:Hp) (r:AV) (H:Hp) (n:Nat):Prop:=
 nx≤n∧match fk u most.toNat with
 |none=>r= .db [i64 0,i64 3]∧∀y,y<nx→bd H y=bd H0 y
 |some l=>r= .db [i64 l.length,i64 0]∧I l.length H
set_option maxHeartbeats 4000000 in
theorem oQ (u:bf) (hu:u.Wf) (hr:c8 u) (most:Int) (hm:1≤most∧most≤65536) (g:Nat) (caps:List AV) (H0:Hp) (nx:Nat) (I:Nat→Hp→Prop) (hI0:I 0 H0) (hst:∀k H H',I k H→(∀y,y<nx→bd H' y=bd H y)→I k H')
 (hcl:∀l,fk u most.toNat=some l→∀k H n,k<l.length→nx≤n→I k H→cD Tryz.prog g ([ij u l,i64 k]++caps) H n (fun _ H' n'=>I (k+1) H'∧n≤n'∧∀y,nx≤y→y<n→bd H' y=bd H y)):
 cD Tryz.prog 32 [u.av,i64 most, .fn (.func g) [] caps] H0 nx (E5 u most I nx H0):=by
 obtain⟨mo,rfl⟩:∃mo:Nat,most=mo:=⟨most.toNat,by omega⟩
 have hgl:=hr.AZ
 unfold E5
 rw[Int.toNat_natCast] at hcl ⊢
 refine aQ wX rfl ?_
 refine cQ ?_
 refine aJ (mE u hu hr _ _) ?_
 rintro r H1 n1 ⟨L,rfl,hM,hlt,hn1,hk1⟩
 have hF:=fx.init u hu hr
 have hm0:=(hF.ok 0 hF.pos).1
 have hm0':(List.getD (iR u) 0 default).m=dU u:=rfl
 rw[hm0'] at hm0
 have g0:ux true (Value.string (jI (fH (dU u)))) [] (i64 1)=some (lL (iR u)):=rfl
 have h65:(65536:Int)<mo→False:=by omega
 refine cQ ?_
 refine aT (sE u (dU u) (hm0.MW hr (by simp[dU]))) (args2:=[(dU u).fz u]) ?_ (by simp[cK,gm]) trivial ?_
 ·rw[List.map_cons,List.map_nil]
  congr 1
  exact(hM.cE fun y hy=>by have:=hlt y hy;exact bq).zW 2
 refine cQ ?_
 have hno:∀y,y<nx+1∨n1≤y→y∉L.all:=fun y hy hm=>by have:=hlt y hm;omega
 refine aU (fun σ:Nat×List cC=>[(1,i64 mo),(2, .fn (.func g) [] caps),(3, .pt nx 1 0 0),(10, .sl (n1+15) σ.2.length),(11, .mp (n1+17)),(12,i64 σ.1)])
  (fun σ H n=>σ.1≤σ.2.length∧σ.2.length≤mo∧fx u σ.2∧pg u mo (mo - σ.1) σ.1 σ.2=fk u mo∧n1+23≤n∧(∃d,bd H nx=some (.row 25 3 d [u.av]))∧(∃d,bd H (n1+15)=some (.row 75 3 d (σ.2.map (cC.av u))))∧(∃e d,bd H (n1+17)=some (.row e 0 d (mapA (lL σ.2))))∧∀y,y<nx→bd H y=bd H0 y) (fun σ=>mo - σ.1) (0,iR u)
  ⟨_,_,_,Rt.wk (q8 (lb:=n1+15) (l:=[]) (fr:=-1) (th:=0) (hM.cE ?_) bh (hno _ (by omega))),cM,Nat.zero_le _,by show 1≤mo;omega,hF,rfl,cZ,⟨_,(de (hno _ (by omega))).trans (Eq.trans bq ((hk1 nx (by omega)).trans bh))⟩,⟨_,(de (hno _ (by omega))).trans bh⟩,⟨_,_,(de (hno _ (by omega))).trans bh⟩,fun y hy=>(de (hno _ (by omega))).trans (Eq.trans bq ((hk1 y cZ).trans bq))⟩ ?_
 ·intro y hy
  have:=hlt y hy
  exact bq
 clear hM hlt hk1 hno
 rintro⟨k,l⟩ H n ⟨hk,hl,hfs,hall,hn,⟨d0,r0'⟩,⟨d1,r1'⟩,⟨e2,d2,r2'⟩,hkp⟩
 dsimp only at hk hl hfs hall r1' r2' ⊢
 by_cases hkl:k<l.length
 ·have e0:∀d,(l.map (cC.av u)).getD ((k:Int)).toNat d=(l.getD k default).av u:=fun d=>by rw[Int.toNat_natCast];exact dP (cC.av u) l k d hkl
  have a0:(l.map (cC.av u)).length=l.length:=by simp
  have hgeq:∀l':List cC,l<+:l'→l'.getD k default=l.getD k default:=fun l' ⟨q,hq⟩=>by rw[←hq];simp[List.getD,List.getElem?_append,hkl]
  have hmk:mo - k=(mo - (k+1))+1:=by omega
  rw[hmk,pg,if_pos hkl] at hall
  obtain⟨hmok,hpl⟩:=hfs.ok k hkl
  have hmdef:(l.getD k default).m=(l.getD k default).m:=rfl
  generalize hmm:(l.getD k default).m=m at hmok hpl
  have e0':∀d,(l.map (cC.av u)).getD ((k:Int)).toNat d= .agg [m.fz u,i64 (l.getD k default).from_,i64 (l.getD k default).cL]:=fun d=>by rw[e0 d,←hmm];rfl
  clear e0
  have e0:=e0'
  refine cQ ?_
  rw[List.length_map]
  refine aU (fun σ:Nat×List cC=>[(1,i64 mo),(2, .fn (.func g) [] caps),(3, .pt nx 1 0 0),(10, .sl (n1+15) σ.2.length),(11, .mp (n1+17)),(12,i64 k),(13,m.fz u),(52,i64 u.bj.length),(53,i64 σ.1)])
   (fun σ H n=>σ.1≤u.bj.length∧k<σ.2.length∧σ.2.length≤mo∧fx u σ.2∧(σ.2.getD k default).m=m∧(match sW u mo k ((List.range u.bj.length).drop σ.1) σ.2 with
    |none=>none
    |some l2=>pg u mo (mo - (k+1)) (k+1) l2)=fk u mo∧n1+23≤n∧(∃d,bd H nx=some (.row 25 3 d [u.av]))∧(∃d,bd H (n1+15)=some (.row 75 3 d (σ.2.map (cC.av u))))∧(∃e d,bd H (n1+17)=some (.row e 0 d (mapA (lL σ.2))))∧∀y,y<nx→bd H y=bd H0 y) (fun σ=>u.bj.length - σ.1) (0,l)
   ⟨_,_,_,Rt.refl _ _ _,cM,Nat.zero_le _,hkl,hl,hfs,hmm,hall,cZ,⟨_,bh⟩,⟨_,bh⟩,⟨_,_,bh⟩,fun y hy=>Eq.trans bq (hkp y hy)⟩ ?_
  clear e0 e0' a0 r0' r1' r2' hkp hall hfs hl hkl hgeq hn hmm
  rintro⟨t,l⟩ H n ⟨ht,hkl,hl,hfs,hmm,hall,hn,⟨d0,r0'⟩,⟨d1,r1'⟩,⟨e2,d2,r2'⟩,hkp⟩
  dsimp only at ht hkl hl hfs hmm hall r1' r2' ⊢
  have a0:(l.map (cC.av u)).length=l.length:=by simp
  by_cases htl:t<u.bj.length
  ·rw[show(List.range u.bj.length).drop t=t::(List.range u.bj.length).drop (t+1) by rw[List.drop_eq_getElem_cons (by simpa using htl)];simp,sW] at hall
   have c0:=kz u hr m hmok t
   by_cases hb:m.ky u t=0
   ·have hal:=hmok.l9
    refine cQ ?_
    refine aJ (vw u hr m hmok (by omega) _ _) ?_
    rintro r H2 n2 ⟨L2,rfl,hM2,hlt2,hn2,hk2⟩
    have hlt2:∀x∈L2.all,n+7≤x∧x<n2:=hlt2
    refine cQ ?_
    refine aJ (qv hu hr hmok (L:=L2) (hM2.cE ?_) ?_ (by omega) htl hb) ?_
    ·intro y hy
     have:=hlt2 y hy
     exact bq
    ·intro y hy
     have:=hlt2 y hy
     exact cZ
    rintro r H3 n3 ⟨rfl,hM3,hn3,hk3⟩
    have hno:∀y,y<n+7∨n2≤y→y∉L2.all:=fun y hy hm=>by have:=hlt2 y hm;omega
    have hold:∀y,y<n→bd H3 y=bd H y:=fun y hy=>(hk3 y cZ (hno y (by omega))).trans (Eq.trans bq ((hk2 y cZ).trans bq))
    have hlt3:∀x∈L2.all,x<n3:=fun x hx=>by have:=hlt2 x hx;exact Nat.lt_of_lt_of_le this.2 cZ
    obtain⟨hk9,_⟩:=la hmok htl hb
    have hm2:=s8 hu hr hmok htl hk9
    have hp2:=kC u m t
    have htry:sa u mo k t l=if fH (m.step u t).1∈eu l then some l else if l.length=mo then none else some (l++[⟨(m.step u t).1,k,t⟩]):=by
     unfold sa
     rw[hmm,if_neg (by omega)]
    rw[htry] at hall
    have hput:=fun(h:fH (m.step u t).1∉eu l)=>zl (l:=l) (m:=(m.step u t).1) (a:=k) (b:=t) h
    have hadd:=fun(h:fH (m.step u t).1∉eu l)=>hfs.add hu hr hkl htl (by rw[hmm];exact hb) (by rw[hmm];exact h)
    rw[hmm] at hadd
    generalize (m.step u t).1=m2 at *
    have hkp3:∀y,y<nx→bd H3 y=bd H0 y:=fun y hy=>(hold y (by omega)).trans (hkp y hy)
    have q0:=(hold nx (by omega)).trans r0'
    have q1:=(hold (n1+15) (by omega)).trans r1'
    have q2:=(hold (n1+17) (by omega)).trans r2'
    have hget:=w5 sD i64 (jI (fH m2)) (gq l) (i64 0)
    rw[pF] at hget
    clear hk2 hk3 hM2 r0' r1' r2' hold hkp
    by_cases hin:fH m2∈eu l
    ·rw[if_pos hin] at hget hall
     have g0:sK true (Value.string (jI (fH m2))) (lL l) (i64 0)=some (i64 1,true):=hget
     refine cQ ?_
     refine aT (sE u m2 (hm2.MW hr (by omega))) (args2:=[m2.fz u]) ?_ (by simp[cK,gm]) trivial ?_
     ·rw[List.map_cons,List.map_nil]
      congr 1
      exact(hM3.cE fun y hy=>by have:=hlt3 y hy;exact bq).zW 2
     refine cQ ?_
     exact⟨(t+1,l),by dsimp only;omega,_,_,_,Rt.refl _ _ _,cM,by dsimp only;omega,hkl,hl,hfs,hmm,hall,cZ,⟨_,bh⟩,⟨_,bh⟩,⟨_,_,bh⟩,fun y hy=>Eq.trans bq (hkp3 y hy)⟩
    ·rw[if_neg hin] at hget hall
     have g0:sK true (Value.string (jI (fH m2))) (lL l) (i64 0)=some (i64 0,false):=hget
     by_cases hfull:l.length=mo
     ·rw[if_pos hfull] at hall
      refine cQ ?_
      refine aT (sE u m2 (hm2.MW hr (by omega))) (args2:=[m2.fz u]) ?_ (by simp[cK,gm]) trivial ?_
      ·rw[List.map_cons,List.map_nil]
       congr 1
       exact(hM3.cE fun y hy=>by have:=hlt3 y hy;exact bq).zW 2
      refine cQ ?_
      have hall2:none=fk u mo:=hall
      rw[←hall2]
      exact⟨⟨cZ,rfl,fun y hy=>Eq.trans bq (hkp3 y hy)⟩⟩
     ·rw[if_neg hfull] at hall
      have g1:ux true (Value.string (jI (fH m2))) (lL l) (i64 1)=some (lL (l++[⟨m2,k,t⟩])):=by
       have:=w6 sD i64 (jI (fH m2)) 1 (gq l)
       rw[hput hin] at this
       exact this
      refine cQ ?_
      refine aT (sE u m2 (hm2.MW hr (by omega))) (args2:=[m2.fz u]) ?_ (by simp[cK,gm]) trivial ?_
      ·rw[List.map_cons,List.map_nil]
       congr 1
       exact(hM3.cE fun y hy=>by have:=hlt3 y hy;exact bq).zW 2
      refine cQ ?_
      have hout:=hno
      refine⟨(t+1,l++[⟨m2,k,t⟩]),by dsimp only;omega,_,_,_,Rt.wk (q8 (L:=L2) (lb:=n1+15) (m:=m2) (l:=l) (fr:=k) (th:=t) (hM3.cE ?_) bh (hno _ (by omega))),cM,by dsimp only;omega,by dsimp only;rw[List.length_append];omega,by dsimp only;simp only[List.length_append,List.length_cons,List.length_nil];omega,hadd hin,by dsimp only;rw[eT hkl];exact hmm,hall,cZ,⟨_,(de (hno _ (by omega))).trans bh⟩,⟨_,(de (hno _ (by omega))).trans bh⟩,⟨_,_,(de (hno _ (by omega))).trans bh⟩,fun y hy=>(de (hno _ (by omega))).trans (Eq.trans bq (hkp3 y hy))⟩
      intro y hy
      have:=hlt2 y hy
      have:=hlt3 y hy
      exact bq
   ·have htry:sa u mo k t l=some l:=by
     unfold sa
     rw[hmm,if_pos hb]
    rw[htry] at hall
    refine cQ ?_
    exact⟨(t+1,l),by dsimp only;omega,_,_,_,Rt.refl _ _ _,cM,by dsimp only;omega,hkl,hl,hfs,hmm,hall,cZ,⟨_,bh⟩,⟨_,bh⟩,⟨_,_,bh⟩,fun y hy=>Eq.trans bq (hkp y hy)⟩
  ·have htG:t=u.bj.length:=by omega
   subst htG
   rw[List.drop_of_length_le (by simp),sW] at hall
   refine cQ ?_
   exact⟨(k+1,l),by dsimp only;omega,_,_,_,Rt.refl _ _ _,cM,by dsimp only;omega,hl,hfs,hall,cZ,⟨_,bh⟩,⟨_,bh⟩,⟨_,_,bh⟩,fun y hy=>Eq.trans bq (hkp y hy)⟩
 ·have hk2:k=l.length:=by omega
  refine cQ ?_
  have hl2:fk u mo=some l:=by
   rw[←hall]
   subst hk2
   cases h:mo - l.length with
   |zero=>rfl
   |succ q=>rw[pg,if_neg (by omega)]
  have hw:=fun(H':Hp) (n':Nat) (hr:bd H' (n1+15)=some (.row 75 3 d1 (l.map (cC.av u))))=>Wk.LI (r:= .sl (n1+15) l.length) (H:=H') (nx:=n') [(n1+15,some (.row 75 3 d1 (l.map (cC.av u))))] 1 (fun b q hq=>by
   by_cases hb:b=n1+15
   ·subst hb;rw[cT] at hq;rw[←hq];exact hr
   ·rw[cF hb] at hq;cases hq)
  rw[CN (cT _ _ _) (by simp),pA] at hw
  rw[hl2]
  refine aU (fun i:Nat=>[(2, .fn (.func g) [] caps),(10,ij u l),(86,i64 l.length),(87,i64 i)])
   (fun i H n=>i≤l.length∧nx≤n∧I i H) (fun i=>l.length - i) 0
   ⟨_,_,_,Rt.slot 10 rfl (hw _ _ bh),cM,Nat.zero_le _,cZ,hst 0 _ _ hI0 fun y hy=>(cF (by omega)).trans (Eq.trans bq (hkp y hy))⟩ ?_
  clear r0' r1' r2' hkp hw hn
  rintro i H n ⟨hi,hn,hI⟩
  by_cases hil:i<l.length
  ·refine cQ ?_
   refine Eq.mpr (fp caps _) ?_
   show fw Tryz.prog g (ij u l::i64 i::caps) _ _ _
   refine aJ (hcl l hl2 i _ _ hil cZ (hst i H _ hI fun y hy=>bq)) ?_
   rintro _ H2 n2 ⟨hI2,hn2,_⟩
   refine cQ ?_
   exact⟨i+1,by omega,_,_,_,Rt.refl _ _ _,cM,by omega,cZ,hst _ _ _ hI2 fun y hy=>bq⟩
  ·obtain rfl:i=l.length:=by omega
   refine cQ ?_
   exact⟨⟨cZ,by rw[List.length_map],hst _ _ _ hI fun y hy=>bq⟩⟩
end Go.Proofs.YtekfmjjmihomlaaGreat
end
section
/- Ends compared: the code's Compare and Same. -/
namespace Go.Proofs.YtekfmjjmihomlaaGreat
open Go Go.cO Go.Proofs
set_option linter.unusedSimpArgs false
set_option linter.unusedVariables false
theorem zJ (p q:cY):Pure Tryz.prog 46 [p.av,q.av] (fun r=>r=i64 (ej p q)):=by
 have c0:=BP p.cL q.cL
 have c1:=qN p.word q.word
 have c2:=yg [eG p.cL q.cL,eG p.word q.word] (by simp)
 refine aI C9 rfl ?_
 refine cQ ?_
 refine aT (args2:=[cw [eG p.cL q.cL,eG p.word q.word]]) (r:=i64 (ej p q)) c2 rfl (by simp[cK,bx]) trivial ?_
 refine cQ ?_
 first|exact rfl|trivial
theorem kU {l:List cY} {i:Nat} (h:i<l.length) (d:AV):(l.map cY.av).getD ((i:Int)).toNat d=(l.getD i default).av:=by
 rw[Int.toNat_natCast];exact dP cY.av l i d h
theorem vv (a b:List cY) (ha:a.length<9223372036854775807):Pure Tryz.prog 45 [ef a,ef b, .fn (.func 46) [] []] (fun r=>r=i64 (eD ej a b)):=by
 refine aI C8 rfl ?_
 refine cQ ?_
 rw[List.length_map]
 refine aR (fun i:Nat=>[(0,ef a),(1,ef b),(2, .fn (.func 46) [] []),(11,ef a),(12,i64 a.length),(13,i64 i)]) (fun i H n=>i≤a.length∧i≤b.length∧eD ej a b=eD ej (a.drop i) (b.drop i)) (fun i=>a.length - i) 0 cM ⟨Nat.zero_le _,Nat.zero_le _,rfl⟩ ?_
 rintro i H n ⟨hi,hib,ho⟩
 rw[ho]
 have a0:(a.map cY.av).length=a.length:=by simp
 have a1:(b.map cY.av).length=b.length:=by simp
 by_cases hil:i<a.length
 ·have e0:=fun d=>kU hil d
  by_cases hbl:i<b.length
  ·have e1:=fun d=>kU hbl d
   have hd:=nw ej default hil hbl
   have c0:=zJ (a.getD i default) (b.getD i default)
   generalize a.getD i default=p at *
   generalize b.getD i default=q at *
   by_cases hz:ej p q=0
   ·have r0:=hz
    rw[if_pos hz] at hd
    refine cQ ?_
    exact⟨i+1,by omega,cM,by omega,by omega,hd⟩
   ·have r0:=decide_eq_true hz
    rw[if_neg hz] at hd
    refine cQ ?_
    rw[hd]
  ·rw[ll ej hil (by omega)]
   refine cQ ?_
   first|exact rfl|trivial
 ·obtain rfl:i=a.length:=by omega
  rw[lj ej (Nat.le_refl _) hib]
  by_cases h:a.length<b.length
  ·rw[if_pos h]
   refine cQ ?_
   first|exact rfl|trivial
  ·rw[if_neg h]
   refine cQ ?_
   first|exact rfl|trivial
theorem vt (a b:List Int) (ha:a.length<9223372036854775807):Pure Tryz.prog 50 [cw a,cw b] (fun r=>r=i64 (eD eG a b)):=by
 refine aI DB rfl ?_
 refine cQ ?_
 rw[List.length_map]
 refine aR (fun i:Nat=>[(0,cw a),(1,cw b),(9,cw a),(10,i64 a.length),(11,i64 i)]) (fun i H n=>i≤a.length∧i≤b.length∧eD eG a b=eD eG (a.drop i) (b.drop i)) (fun i=>a.length - i) 0 cM ⟨Nat.zero_le _,Nat.zero_le _,rfl⟩ ?_
 rintro i H n ⟨hi,hib,ho⟩
 rw[ho]
 have a0:(a.map i64).length=a.length:=by simp
 have a1:(b.map i64).length=b.length:=by simp
 by_cases hil:i<a.length
 ·have e0:=fun d=>ep hil d
  by_cases hbl:i<b.length
  ·have e1:=fun d=>ep hbl d
   have hd:=nw eG 0 hil hbl
   have c0:=qN (a.getD i 0) (b.getD i 0)
   generalize a.getD i 0=p at *
   generalize b.getD i 0=q at *
   by_cases hz:eG p q=0
   ·have r0:=hz
    rw[if_pos hz] at hd
    refine cQ ?_
    exact⟨i+1,by omega,cM,by omega,by omega,hd⟩
   ·have r0:=decide_eq_true hz
    rw[if_neg hz] at hd
    refine cQ ?_
    rw[hd]
  ·rw[ll eG hil (by omega)]
   refine cQ ?_
   first|exact rfl|trivial
 ·obtain rfl:i=a.length:=by omega
  rw[lj eG (Nat.le_refl _) hib]
  by_cases h:a.length<b.length
  ·rw[if_pos h]
   refine cQ ?_
   first|exact rfl|trivial
  ·rw[if_neg h]
   refine cQ ?_
   first|exact rfl|trivial
theorem qL (a b:dK) (h1:a.bn.length<9223372036854775807) (h2:a.mem.length<9223372036854775807):Pure Tryz.prog 19 [a.av,b.av] (fun r=>r=i64 (dt a b)):=by
 have c0:=vv a.bn b.bn h1
 have c1:=vt a.mem b.mem h2
 have c2:=yg [eD ej a.bn b.bn,eD eG a.mem b.mem,pj a.ended b.ended] (by simp)
 obtain⟨ap,am,ae⟩:=a
 obtain⟨bp,bm,be⟩:=b
 cases ae<;>cases be<;>(refine aI CX rfl ?_;refine cQ ?_;refine aT (args2:=[cw [eD ej ap bp,eD eG am bm,_]]) (r:=i64 (jZ [eD ej ap bp,eD eG am bm,_])) c2 rfl (by simp[cK,bx]) trivial ?_;refine cQ ?_;first|exact rfl|trivial)
theorem pU (a b:dK) (h1:a.bn.length<9223372036854775807) (h2:a.mem.length<9223372036854775807):Pure Tryz.prog 20 [a.av,b.av] (fun r=>r=bl (decide (dt a b=0))):=by
 have c0:=qL a b h1 h2
 refine aI CY rfl ?_
 refine cQ ?_
 refine ec ?_
 simp
end Go.Proofs.YtekfmjjmihomlaaGreat
end
section
/- Ends compared: the document's Compare; the plain laws. -/
namespace Go.Proofs.YtekfmjjmihomlaaGreat
open Go Go.cO Go.Proofs
set_option linter.unusedSimpArgs false
set_option linter.unusedVariables false
theorem pP (b:Bool):Pure Tryz.prog 44 [bl b] (fun r=>r=i64 (if b then -1 else 1)):=by
 cases b<;>(refine aI C7 rfl ?_;refine cQ ?_;first|exact rfl|trivial)
theorem jA {x:Bool} {v:Int} (h:(if x=true then -1 else 1)=v):Pure Tryz.prog 44 [bl x] (fun r=>r=i64 v):=by
 have:=pP x
 rw[h] at this
 exact this
theorem FM {p q:cY} (h:p.cL<q.cL∨p.cL=q.cL∧p.word<q.word):ej p q=-1:=by
 unfold ej eG
 simp only[jZ]
 repeat' (first|omega|split)
theorem FL {p q:cY} (h:¬(p.cL<q.cL∨p.cL=q.cL∧p.word<q.word)) (hne:¬(p.cL=q.cL∧p.word=q.word)):ej p q=1:=by
 unfold ej eG
 simp only[jZ]
 repeat' (first|omega|split)
theorem FK {p q:cY} (h:p.cL=q.cL∧p.word=q.word):ej p q=0:=by
 unfold ej eG
 simp only[jZ]
 repeat' (first|omega|split)
theorem FJ {x y:Int} (h:x≠y):eG x y=if x<y then -1 else 1:=by
 unfold eG;split
 ·rfl
 ·rw[if_pos (by omega)]
theorem xd (x:Int):eG x x=0:=by unfold eG;simp
set_option maxHeartbeats 1000000 in
theorem wy (a b:dK) (h1:a.bn.length<9223372036854775807) (h2:a.mem.length<9223372036854775807):Pure Tryz.prog 18 [a.av,b.av] (fun r=>r=i64 (dt a b)):=by
 have a0:(a.bn.map cY.av).length=a.bn.length:=by simp
 have a1:(b.bn.map cY.av).length=b.bn.length:=by simp
 have a2:(a.mem.map i64).length=a.mem.length:=by simp
 have a3:(b.mem.map i64).length=b.mem.length:=by simp
 refine aI CW rfl ?_
 refine cQ ?_
 refine aR (fun i:Nat=>[(2, .pt 0 1 0 0),(3, .pt 1 1 0 0),(5,i64 i)]) (fun i H n=>2≤n∧(∃d,bd H 0=some (.row 40 3 d [a.av]))∧(∃d,bd H 1=some (.row 40 3 d [b.av]))∧i≤a.bn.length∧i≤b.bn.length∧eD ej a.bn b.bn=eD ej (a.bn.drop i) (b.bn.drop i)) (fun i=>a.bn.length - i) 0 cM ⟨cZ,⟨_,bh⟩,⟨_,bh⟩,Nat.zero_le _,Nat.zero_le _,rfl⟩ ?_
 rintro i H n ⟨hn,⟨d0,r0⟩,⟨d1,r1⟩,hi,hib,ho⟩
 by_cases hil:i<a.bn.length
 ·have e0:=fun d=>kU hil d
  by_cases hbl:i<b.bn.length
  ·have e1:=fun d=>kU hbl d
   have hd:=nw ej default hil hbl
   generalize a.bn.getD i default=p at *
   generalize b.bn.getD i default=q at *
   have g0:=decide_eq_true hil
   have g1:=decide_eq_true hbl
   by_cases hlt:p.cL<q.cL∨p.cL=q.cL∧p.word<q.word
   ·have hc:=FM hlt
    have hE:dt a b=-1:=by unfold dt;rw[ho,hd,hc,if_neg (by decide),jZ,if_neg (by decide)]
    rw[hE]
    by_cases h3:p.cL<q.cL
    ·refine cQ ?_
     first|exact rfl|trivial
    ·obtain⟨h4,h5⟩:=hlt.resolve_left h3
     have g2:=decide_eq_true h4
     have g3:=decide_eq_true h5
     refine cQ ?_
     first|exact rfl|trivial
   ·have g4:¬p.cL<q.cL:=fun e=>hlt (.inl e)
    by_cases heq:p.cL=q.cL∧p.word=q.word
    ·obtain⟨h4,h5⟩:=heq
     have hc:=FK ⟨h4,h5⟩
     rw[hc,if_pos rfl] at hd
     have g5:¬p.word<q.word:=by omega
     refine cQ ?_
     exact⟨i+1,by omega,cM,by omega,⟨_,bh⟩,⟨_,bh⟩,by omega,by omega,ho.trans hd⟩
    ·have hc:=FL hlt heq
     have hE:dt a b=1:=by unfold dt;rw[ho,hd,hc,if_neg (by decide),jZ,if_neg (by decide)]
     rw[hE]
     refine cQ ?_
     first|exact rfl|trivial
  ·have hE:dt a b=1:=by unfold dt;rw[ho,ll ej hil (by omega),jZ,if_neg (by decide)]
   rw[hE]
   have hne:a.bn.length≠b.bn.length:=by omega
   have c0:=jA (x:=decide (((a.bn.map cY.av).length:Int)<((b.bn.map cY.av).length:Int))) (v:=1) (by rw[decide_eq_false (by omega)];rfl)
   refine cQ ?_
   first|exact rfl|trivial
 ·obtain rfl:i=a.bn.length:=by omega
  rw[lj ej (Nat.le_refl _) hib] at ho
  by_cases hpl:a.bn.length<b.bn.length
  ·rw[if_pos hpl] at ho
   have hE:dt a b=-1:=by unfold dt;rw[ho,jZ,if_neg (by decide)]
   rw[hE]
   have hne:a.bn.length≠b.bn.length:=by omega
   have c0:=jA (x:=decide (((a.bn.map cY.av).length:Int)<((b.bn.map cY.av).length:Int))) (v:=-1) (by rw[decide_eq_true (by omega)];rfl)
   refine cQ ?_
   first|exact rfl|trivial
  ·rw[if_neg hpl] at ho
   have hpe:b.bn.length=a.bn.length:=by omega
   refine cQ ?_
   refine aR (fun i:Nat=>[(2, .pt 0 1 0 0),(3, .pt 1 1 0 0),(8,i64 i)]) (fun i H n=>2≤n∧(∃d,bd H 0=some (.row 40 3 d [a.av]))∧(∃d,bd H 1=some (.row 40 3 d [b.av]))∧i≤a.mem.length∧i≤b.mem.length∧eD eG a.mem b.mem=eD eG (a.mem.drop i) (b.mem.drop i)) (fun i=>a.mem.length - i) 0 cM ⟨cZ,⟨_,bh⟩,⟨_,bh⟩,Nat.zero_le _,Nat.zero_le _,rfl⟩ ?_
   clear r0 r1 hn
   rintro i H n ⟨hn,⟨d0,r0⟩,⟨d1,r1⟩,hi,hib,hm⟩
   by_cases hil:i<a.mem.length
   ·have e0:=fun d=>ep hil d
    by_cases hbl:i<b.mem.length
    ·have e1:=fun d=>ep hbl d
     have hd:=nw eG 0 hil hbl
     generalize a.mem.getD i 0=p at *
     generalize b.mem.getD i 0=q at *
     have g0:=decide_eq_true hil
     have g1:=decide_eq_true hbl
     by_cases heq:p=q
     ·rw[heq,xd,if_pos rfl] at hd
      refine cQ ?_
      exact⟨i+1,by omega,cM,by omega,⟨_,bh⟩,⟨_,bh⟩,by omega,by omega,hm.trans hd⟩
     ·have hc:=FJ heq
      by_cases hlt:p<q
      ·rw[if_pos hlt] at hc
       have hE:dt a b=-1:=by unfold dt;rw[ho,hm,hd,hc,if_neg (by decide),jZ,if_pos rfl,jZ,if_neg (by decide)]
       rw[hE]
       have c0:=jA (x:=decide (p<q)) (v:=-1) (by rw[decide_eq_true hlt];rfl)
       refine cQ ?_
       first|exact rfl|trivial
      ·rw[if_neg hlt] at hc
       have hE:dt a b=1:=by unfold dt;rw[ho,hm,hd,hc,if_neg (by decide),jZ,if_pos rfl,jZ,if_neg (by decide)]
       rw[hE]
       have c0:=jA (x:=decide (p<q)) (v:=1) (by rw[decide_eq_false hlt];rfl)
       refine cQ ?_
       first|exact rfl|trivial
    ·have hE:dt a b=1:=by unfold dt;rw[ho,hm,ll eG hil (by omega),jZ,if_pos rfl,jZ,if_neg (by decide)]
     rw[hE]
     have hne:a.mem.length≠b.mem.length:=by omega
     have c0:=jA (x:=decide (((a.mem.map i64).length:Int)<((b.mem.map i64).length:Int))) (v:=1) (by rw[decide_eq_false (by omega)];rfl)
     refine cQ ?_
     first|exact rfl|trivial
   ·obtain rfl:i=a.mem.length:=by omega
    rw[lj eG (Nat.le_refl _) hib] at hm
    by_cases hml:a.mem.length<b.mem.length
    ·rw[if_pos hml] at hm
     have hE:dt a b=-1:=by unfold dt;rw[ho,hm,jZ,if_pos rfl,jZ,if_neg (by decide)]
     rw[hE]
     have hne:a.mem.length≠b.mem.length:=by omega
     have c0:=jA (x:=decide (((a.mem.map i64).length:Int)<((b.mem.map i64).length:Int))) (v:=-1) (by rw[decide_eq_true (by omega)];rfl)
     refine cQ ?_
     first|exact rfl|trivial
    ·rw[if_neg hml] at hm
     have hme:b.mem.length=a.mem.length:=by omega
     have hE:dt a b=pj a.ended b.ended:=by
      unfold dt;rw[ho,hm,jZ,if_pos rfl,jZ,if_pos rfl,jZ]
      split<;>simp_all[jZ]
     rw[hE]
     obtain⟨ap,am,ae⟩:=a
     obtain⟨bp,bm,be⟩:=b
     have c0:=pP be
     cases ae<;>cases be<;>(refine cQ ?_;first|exact rfl|trivial)
end Go.Proofs.YtekfmjjmihomlaaGreat
end
section
/- Ends compared: the order's plain laws. -/
namespace Go.Proofs.YtekfmjjmihomlaaGreat
open Go Go.cO Go.Proofs
set_option linter.unusedSimpArgs false
set_option linter.unusedVariables false
theorem o5 (x y:Int):eG y x=-eG x y:=by
 unfold eG
 repeat' (first|omega|split)
theorem sN:∀l:List Int,jZ (l.map (-·))=-jZ l
 |[]=>rfl
 |x::l=>by
  simp only[List.map_cons,jZ]
  by_cases h:x=0
  ·rw[if_pos (by omega),if_pos h];exact sN l
  ·rw[if_neg (by omega),if_neg h]
theorem BQ (p q:cY):ej q p=-ej p q:=by
 unfold ej
 rw[←sN,o5 p.cL,o5 p.word];rfl
theorem o6 {α:Type} {f:α→α→Int} (hf:∀x y,f y x=-f x y):∀a b:List α,eD f b a=-eD f a b
 |[],[]=>rfl
 |[],_::_=>rfl
 |_::_,[]=>rfl
 |x::a,y::b=>by
  rw[eD,eD,hf x y]
  by_cases h:f x y=0
  ·rw[if_pos (by omega),if_pos h];exact o6 hf a b
  ·rw[if_neg (by omega),if_neg h]
theorem BN (a b:Bool):pj b a=-pj a b:=by cases a<;>cases b<;>rfl
theorem BO (a b:dK):dt b a=-dt a b:=by
 unfold dt
 rw[←sN,o6 BQ a.bn,o6 o5 a.mem,BN a.ended];rfl
theorem vD {l:List Int}:jZ l=0↔∀x∈l,x=0:=by
 induction l with
 |nil=>simp[jZ]
 |cons x l ih=>
  rw[jZ]
  by_cases h:x=0
  ·rw[if_pos h,ih];simp[h]
  ·rw[if_neg h];simp[h]
theorem iZ {x y:Int}:eG x y=0↔x=y:=by
 constructor
 ·unfold eG;intro h;revert h;repeat' (first|omega|split)
 ·rintro rfl;exact xd _
theorem mq {p q:cY}:ej p q=0↔p=q:=by
 unfold ej
 rw[vD]
 simp only[List.mem_cons,List.not_mem_nil,or_false,forall_eq_or_imp,forall_eq,iZ]
 constructor
 ·rintro⟨h1,h2⟩;cases p;cases q;simp_all
 ·rintro rfl;exact⟨rfl,rfl⟩
theorem ic {α:Type} {f:α→α→Int} (hf:∀x y,f x y=0↔x=y):∀a b:List α,eD f a b=0↔a=b
 |[],[]=>by simp[eD]
 |[],_::_=>by simp[eD]
 |_::_,[]=>by simp[eD]
 |x::a,y::b=>by
  rw[eD]
  by_cases h:f x y=0
  ·rw[if_pos h,ic hf a b]
   have:=(hf x y).1 h
   simp[this]
  ·rw[if_neg h]
   have:x≠y:=fun e=>h ((hf x y).2 e)
   simp[h,this]
theorem qM {a b:dK}:dt a b=0↔a=b:=by
 unfold dt
 rw[vD]
 simp only[List.mem_cons,List.not_mem_nil,or_false,forall_eq_or_imp,forall_eq,ic (fun x y=>mq),ic (fun x y=>iZ)]
 constructor
 ·rintro⟨h1,h2,h3⟩
  obtain⟨ap,am,ae⟩:=a
  obtain⟨bp,bm,be⟩:=b
  cases ae<;>cases be<;>simp_all[pj]
 ·rintro rfl
  exact⟨rfl,rfl,by cases a.ended<;>rfl⟩
end Go.Proofs.YtekfmjjmihomlaaGreat
end
section
/- Count; the closures that ends, ways and what is shown hand to the exploring. -/
namespace Go.Proofs.YtekfmjjmihomlaaGreat
open Go Go.cO Go.Proofs
set_option linter.unusedSimpArgs false
set_option linter.unusedVariables false
set_option maxRecDepth 8000
open Classical in
noncomputable def gF (u:bf) (most:Int):Int×List cC:=
 if ¬c8 u then(60,[]) else if ¬(1≤most∧most≤65536) then(2,[]) else match fk u most.toNat with
  |none=>(3,[])
  |some l=>(0,l)
theorem l7 {u:bf} {most:Int} (h:¬c8 u):gF u most=(60,[]):=by unfold gF;rw[if_pos h]
theorem jL {u:bf} {most:Int} (h:c8 u) (hm:¬(1≤most∧most≤65536)):gF u most=(2,[]):=by unfold gF;rw[if_neg (fun e=>e h),if_pos hm]
theorem jK {u:bf} {most:Int} (h:c8 u) (hm:1≤most∧most≤65536):gF u most=(match fk u most.toNat with|none=>(3,[])|some l=>(0,l)):=by unfold gF;rw[if_neg (fun e=>e h),if_neg (fun e=>e hm)]
theorem BS (a b:AV) (H:Hp) (nx:Nat):cD Tryz.prog 33 [a,b] H nx (fun r H' n=>H'=H∧n=nx):=by
 refine aQ C4 rfl ?_
 refine cQ ?_
 exact⟨⟨rfl,rfl⟩⟩
theorem vz (u:bf) (hu:u.Wf) (most:Int):Pure Tryz.prog 11 [u.av,i64 most] (fun r=>r= .db [i64 (gF u most).2.length,i64 (gF u most).1]):=by
 refine er ?_ (by simp[bx,cK])
 refine aQ CT rfl ?_
 by_cases hr:c8 u
 ·by_cases hm:1≤most∧most≤65536
  ·rw[jK hr hm]
   refine cQ ?_
   refine aJ (oQ u hu hr most hm _ [] _ _ (fun _ _=>True) trivial (fun _ _ _ _ _=>trivial) ?_) ?_
   ·intro l hl k H n hk hn _
    refine(BS _ _ H n).mono ?_
    rintro r H' n' ⟨rfl,rfl⟩
    exact⟨trivial,Nat.le_refl _,fun y _ _=>rfl⟩
   rintro r H' n' ⟨hn,hA⟩
   revert hA
   cases fk u most.toNat with
   |none=>
    rintro⟨rfl,_⟩
    refine cQ ?_
    exact⟨rfl⟩
   |some l=>
    rintro⟨rfl,_⟩
    refine cQ ?_
    exact⟨rfl⟩
  ·rw[jL hr hm]
   refine cQ ?_
   refine aJ (mi u hu hr most hm _ [] _ _) ?_
   rintro r H' n' ⟨rfl,hn,_⟩
   refine cQ ?_
   exact⟨rfl⟩
 ·rw[l7 hr]
  refine cQ ?_
  refine aJ (rU u hu hr most _ [] _ _) ?_
  rintro r H' n' ⟨rfl,hn,_⟩
  refine cQ ?_
  exact⟨rfl⟩
def dI (u:bf) (l:List cC) (k:Nat):List dK:=(l.take k).filterMap fun f=>if f.m.stuck u then some (f.m.end_ u) else none
theorem tN {u:bf} {l:List cC} {k:Nat} (hk:k<l.length):dI u l (k+1)=dI u l k++(if(l.getD k default).m.stuck u then[(l.getD k default).m.end_ u] else[]):=by
 unfold dI
 rw[List.take_succ_eq_append_getElem hk,List.filterMap_append,show l.getD k default=l[k] by simp[List.getD,hk]]
 congr 1
 simp only[List.filterMap_cons,List.filterMap_nil]
 split
 ·rename_i h;split at h<;>simp_all
 ·rename_i h;split at h<;>simp_all
theorem oe (u:bf) (l:List cC) (k:Nat):(dI u l k).length≤k:=by
 unfold dI
 refine Nat.le_trans (List.length_filterMap_le _ _) ?_
 rw[List.length_take];omega
set_option maxHeartbeats 1000000 in
theorem FU {u:bf} (hr:c8 u) {l:List cC} (hf:fx u l) (hl:l.length≤65536) {k:Nat} (hk:k<l.length) {ub ob o:Nat} {H:Hp} {nx:Nat} (h1:ub<nx) (h2:ob<nx) (h3:o<nx) (hne:ob≠o)
 (r1:∃d,bd H ub=some (.row 25 3 d [u.av])) (r2:∃d,bd H ob=some (.row 30 1 d [.sl o (dI u l k).length])) (r3:∃d,bd H o=some (.row 40 3 d ((dI u l k).map dK.av))):
 cD Tryz.prog 35 [ij u l,i64 k, .pt ub 1 0 0, .pt ob 1 0 0] H nx (fun _ H' n=>(∃d,bd H' ob=some (.row 30 1 d [.sl o (dI u l (k+1)).length]))∧(∃d,bd H' o=some (.row 40 3 d ((dI u l (k+1)).map dK.av)))∧nx≤n∧∀y,y<nx→y≠ob→y≠o→bd H' y=bd H y):=by
 obtain⟨d1,r1⟩:=r1
 obtain⟨d2,r2⟩:=r2
 obtain⟨d3,r3⟩:=r3
 have hel:=oe u l k
 obtain⟨hm,hp⟩:=hf.ok k hk
 have e0:∀d,(l.map (cC.av u)).getD ((k:Int)).toNat d= .agg [(l.getD k default).m.fz u,i64 (l.getD k default).from_,i64 (l.getD k default).cL]:=fun d=>by rw[Int.toNat_natCast];exact dP (cC.av u) l k d hk
 have a0:(l.map (cC.av u)).length=l.length:=by simp
 have a1:((dI u l k).map dK.av).length=(dI u l k).length:=by simp
 have c0:=qn u hr (l.getD k default).m hm (by omega) (by have:=hm.ml;have:=hr.AZ;omega)
 rw[tN hk]
 generalize (l.getD k default).m=m at *
 cases hs:m.stuck u with
 |true=>
  rw[j0,hs] at c0
  refine aQ zp rfl ?_
  refine cQ ?_
  refine⟨⟨⟨_,by simp only[List.length_append,if_true,List.length_cons,List.length_nil];exact bh⟩,⟨_,by simp only[List.map_append,if_true,List.map_cons,List.map_nil];exact bh⟩,cZ,fun y y1 y2 y3=>bq⟩⟩
 |false=>
  rw[j0,hs] at c0
  refine aQ zp rfl ?_
  refine cQ ?_
  refine⟨⟨⟨_,by rw[if_neg (by decide),List.append_nil];exact bh⟩,⟨_,by rw[if_neg (by decide),List.append_nil];exact bh⟩,cZ,fun y y1 y2 y3=>bq⟩⟩
end Go.Proofs.YtekfmjjmihomlaaGreat
end
section
/- Shows: the walk. -/
namespace Go.Proofs.YtekfmjjmihomlaaGreat
open Go Go.cO Go.Proofs
set_option linter.unusedSimpArgs false
set_option linter.unusedVariables false
set_option maxRecDepth 8000
end Go.Proofs.YtekfmjjmihomlaaGreat
end
