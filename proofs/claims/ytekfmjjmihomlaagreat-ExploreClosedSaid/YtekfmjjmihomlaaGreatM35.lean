import Derived.Test.YtekfmjjmihomlaaGreatM32
import Derived.Test.YtekfmjjmihomlaaGreatM33
import Derived.Test.YtekfmjjmihomlaaGreatM34
import Derived.Lib.ItoaLen
import Derived.Test.YtekfmjjmihomlaaGreatM30
section
/- A machine in rows told by value, within a list of what was found. -/
namespace Go.Proofs.YtekfmjjmihomlaaGreat
open Go Go.cQ Go.Proofs
set_option linter.unusedSimpArgs false
set_option linter.unusedVariables false
set_option maxRecDepth 8000
def jH (S:List Nat) (H:Hp):Hp:=S.map fun y=>(y,bd H y)
theorem vP {S:List Nat} {H:Hp} {y:Nat} (h:y∈S):bd (jH S H) y=bd H y:=by
 induction S with
 |nil=>cases h
 |cons x S ih=>
  rw[jH,List.map_cons]
  by_cases e:y=x
  ·subst e;exact cU _ _ _
  ·rw[cF e]
   exact ih (by simpa[e] using h)
theorem qw {S:List Nat} {H:Hp} {y:Nat} {q:dv} (h:bd (jH S H) y=some q):bd H y=some q:=by
 have:y∈S:=by
  have:=kR h
  simpa[jH] using this
 rw[vP this] at h;exact h
theorem dR {S:List Nat} {H H2:Hp} {y:Nat} (h:y∉S):bd (j7 (jH S H) H2) y=bd H2 y:=e9 (by simpa[jH] using h)
section
variable {u:bf} {m:MS} {L:ML} {H:Hp}
theorem ML.At.pk (h:L.At u m H) (k:Nat):Go.cQ.ft (jH L.all H) (k+4) (.pt L.mr 1 0 0)=m.fz u:=by
 have h:=h.cE (H':=jH L.all H) fun y hy=>vP hy
 generalize jH L.all H=G at *
 obtain⟨d1,h1⟩:=h.rM
 obtain⟨d2,h2⟩:=h.rA
 obtain⟨d3,h3⟩:=h.rS
 obtain⟨d4,h4⟩:=h.rE
 obtain⟨d5,h5⟩:=h.rH
 obtain⟨d6,h6⟩:=h.rP
 have hsl:(dn L.ids m.bh).length=m.bh.length:=qq h.len
 have hs:(dn L.ids m.bh).map (Go.cQ.ft G (k+1))=m.bh.map cq:=by
  apply List.ext_getElem (by simp[hsl])
  intro t q1 q2
  have ht:t<m.bh.length:=by simpa using q2
  have hti:t<L.ids.length:=by rw[h.len];exact ht
  obtain⟨d,hd⟩:=h.rL t ht
  rw[show L.ids.getD t 0=L.ids[t] by simp[List.getD,hti],show m.bh.getD t []=m.bh[t] by simp[List.getD,ht]] at hd
  rw[List.getElem_map,List.getElem_map]
  simp only[dn,List.getElem_map,List.getElem_zip]
  rw[kS hd (by simp),eu _ ((cC _ _).2 fun _ _=>by simp[cA])]
 rw[show Go.cQ.ft G (k+4) (.pt L.mr 1 0 0)= .ip 8 .any ([m.rows u L.a L.s L.me L.ho L.pr].map (Go.cQ.ft G (k+3))) 0 0 from F5 h1 rfl]
 simp only[List.map_cons,List.map_nil,MS.rows]
 rw[tk]
 simp only[List.map_cons,List.map_nil]
 rw[kS h2 (by simp),kS h3 hsl,kS h4 (by simp),kS h5 (by simp),kS h6 (by simp),hs]
 rw[eu _ ((cC _ _).2 fun _ _=>by simp[cA]),eu _ ((cC _ _).2 fun _ _=>by simp[cA]),eu _ ((cC _ _).2 fun _ _=>by simp[cA]),eu _ ((cC _ _).2 fun _ _=>by simp[cA])]
 rw[jB _ (show cA 0 (cW u.shared) by simp[cA,cC]),jB _ (show cA 0 (cW u.bz) by simp[cA,cC]),jB _ (show cA 0 (dS u.bj) by simp[cA,cC])]
 rfl
end
def bx.cells (u:bf) (f:bx):List AV:=[f.m.fz u,i64 f.from_,i64 f.cL]
abbrev bx.av (u:bf) (f:bx):AV:= .agg (f.cells u)
abbrev gq (u:bf) (l:List bx):AV:= .im 3 .any (l.map (bx.av u))
@[simp] theorem zQ (n:Nat) (u:bf) (f:bx):cN n (f.cells u):=by
  have:=lD n u f.m
  simp[bx.cells,cN,cA]
theorem wI (u:bf) (l:List bx):cN 0 (l.map (bx.av u)):=(cC _ _).2 fun _ _=>by simp only[bx.av,cA];exact zQ _ _ _
theorem q8 {u:bf} {m:MS} {L:ML} {H:Hp} {lb nx:Nat} {d:AV} {l:List bx} {fr th:Int} (hM:L.At u m H) (hl:bd H lb=some (.row 75 3 d (l.map (bx.av u)++[.agg [.pt L.mr 1 0 0,i64 fr,i64 th]]))) (hlb:lb∉L.all):
 Wk .any H nx .any (j7 (jH L.all H) ((lb,some (.row 75 3 .any ((l++[(⟨m,fr,th⟩:bx)]).map (bx.av u))))::H)) nx:=by
 have:=Wk.ft (nx:=nx) (jH L.all H) 5 .any hl (fun b q hq=>qw hq)
 rw[List.map_append,eu _ (wI u l),List.map_cons,List.map_nil,tk,List.map_cons,List.map_cons,List.map_cons,List.map_nil,hM.pk 0,jB _ (show cA 0 (i64 fr) by simp[cA]),jB _ (show cA 0 (i64 th) by simp[cA])] at this
 rw[List.map_append]
 exact this
end Go.Proofs.YtekfmjjmihomlaaGreat
end
section
/- Keys are short, and tell situations apart as texts do. -/
namespace Go.Proofs.YtekfmjjmihomlaaGreat
open Go Go.cQ Go.Proofs
set_option linter.unusedSimpArgs false
set_option linter.unusedVariables false
theorem kP {α:Type} (f:α→List UInt8) (k:Nat):∀l:List α,(∀a∈l,(f a).length≤k)→(l.flatMap f).length≤l.length * k
 |[],_=>by simp
 |a::l,h=>by
  have h1:=kP f k l fun b hb=>h b (by simp[hb])
  have h2:=h a (by simp)
  rw[List.flatMap_cons,List.length_append,List.length_cons,Nat.add_mul]
  omega
theorem kY {x:Int} (e:List UInt8) (h:df x):(dU x e).length≤21+e.length:=by
 have:=Go.Lib.itoa_length_le x h.1 (by have:=h.2;omega)
 unfold dU
 rw[List.length_append]
 omega
theorem dw.J4 {u:bf} {m:MS} (hr:ca u) (h:dw u m):(fF m).length≤100000000+m.bn.length * 50:=by
 have hf:=hr.A2
 have hal:=h.lV
 have hml:=h.ml
 have hhl:=h.hl
 have hn:∀t,t<u.bj.length→(u.gr t).nodes.length≤4096∧(u.gr t).bh≤4160:=fun t ht=>⟨(hr.gr ht).len.2,(hr.gr ht).bh.2⟩
 have h1:((List.range m.at_.length).flatMap (pX m)).length≤(List.range m.at_.length).length * 100000:=by
  refine kP _ _ _ fun t ht=> ?_
  have ht:=List.mem_range.1 ht
  have hat:=h.gB t (by omega)
  obtain⟨n1,n2⟩:=hn t (by omega)
  have hs:=h.xN t (by omega)
  have a1:=kY (x:=m.at_.getD t 0) [44] ⟨by omega,by omega⟩
  have a2:=kP (fun w=>dU w [44]) 22 (m.bh.getD t []) fun w hw=>kY [44] (h.xO t (by omega) w hw)
  have e:(pX m t).length=(dU (m.at_.getD t 0) [44]).length+((m.bh.getD t []).flatMap (fun w=>dU w [44])).length+1:=by simp only[pX,List.length_append,List.length_cons,List.length_nil]
  simp only[List.length_cons,List.length_nil] at a1
  rw[e]
  omega
 rw[List.length_range] at h1
 have h2:=kP (fun w=>dU w [44]) 22 m.mem fun w hw=>kY [44] (h.mw w hw)
 have h3:=kP (fun w=>dU w [44]) 22 m.hold fun w hw=>kY [44] (by have:=h.hw w hw;exact⟨by omega,by omega⟩)
 have h4:=kP sM 50 m.bn fun p hp=>by
  obtain⟨p1,p2,p3⟩:=h.pw p hp
  have a1:=kY (x:=p.cL) [58] ⟨by omega,by omega⟩
  have a2:=kY (x:=p.word) [44] p3
  simp only[List.length_cons,List.length_nil] at a1 a2
  unfold sM
  rw[List.length_append]
  omega
 rw[sC]
 omega
theorem dw.M3 {u:bf} {m:MS} (hr:ca u) (h:dw u m) (hp:m.bn.length≤1048576):NW m:=by
 have hf:=hr.A2
 refine⟨fun w hw=> ?_,by rw[h.sl,h.lV],fun l hl w hw=> ?_,h.mw,fun w hw=> ?_,fun p hp=> ?_, ?_⟩
 ·obtain⟨t,ht,rfl⟩:=List.mem_iff_getElem.1 hw
  have h1:=h.gB t (by rw[←h.lV];exact ht)
  have h2:=(hr.gr (t:=t) (by rw[←h.lV];exact ht)).len.2
  rw[show m.at_.getD t 0=m.at_[t] by simp[List.getD,ht]] at h1
  exact⟨by omega,by omega⟩
 ·obtain⟨t,ht,rfl⟩:=List.mem_iff_getElem.1 hl
  have:=h.xO t (by rw[←h.sl];exact ht) w
  rw[show m.bh.getD t []=m.bh[t] by simp[List.getD,ht]] at this
  exact this hw
 ·have:=h.hw w hw
  exact⟨by omega,by omega⟩
 ·obtain⟨p1,p2,p3⟩:=h.pw p hp
  exact⟨⟨by omega,by omega⟩,p3⟩
 ·have:=h.J4 hr
  omega
theorem II {a b:List UInt8} (h:jM a=jM b):a=b:=by
 have:=congrArg (fun x:ByteArray=>x.data.toList) h
 simpa[jM] using this
abbrev gw (l:List bx):List (ByteArray×Int):=l.map fun f=>(jM (fF f.m),1)
abbrev lK (l:List bx):List AV:=nG (fun s:ByteArray=>Value.string s) i64 (gw l)
theorem pC (l:List bx) (k:List UInt8):eB (gw l) (jM k)=if k∈gM l then some 1 else none:=by
 split
 ·rename_i h
  cases hl:eB (gw l) (jM k) with
  |none=>
   exfalso
   refine(nD _ _).1 hl ?_
   rw[List.map_map]
   obtain⟨f,h1,h2⟩:=List.mem_map.1 h
   exact List.mem_map.2 ⟨f,h1,by simp only[Function.comp];rw[h2]⟩
  |some v=>
   have hv:∀(l:List bx),eB (gw l) (jM k)=some v→v=1:=by
    intro l
    induction l with
    |nil=>intro h;cases h
    |cons f l ih=>
     intro h
     rw[gw,List.map_cons,eB] at h
     split at h
     ·cases h;rfl
     ·exact ih h
   rw[hv l hl]
 ·rename_i h
  refine(nD _ _).2 fun hm=>h ?_
  rw[List.map_map] at hm
  obtain⟨f,h1,h2⟩:=List.mem_map.1 hm
  simp only[Function.comp] at h2
  exact List.mem_map.2 ⟨f,h1,II h2⟩
theorem zm {l:List bx} {m:MS} {a b:Int} (h:fF m∉gM l):gR (gw l) (jM (fF m)) 1=gw (l++[⟨m,a,b⟩]):=by
 have key:∀E:List (ByteArray×Int),eB E (jM (fF m))=none→gR E (jM (fF m)) 1=E++[(jM (fF m),1)]:=by
  intro E
  induction E with
  |nil=>intro _;rfl
  |cons p E ih=>
   intro hn
   obtain⟨x,y⟩:=p
   rw[eB] at hn
   rw[gR]
   split at hn
   ·cases hn
   ·rename_i hx
    rw[if_neg hx,ih hn];rfl
 rw[key _ (by rw[pC,if_neg h]),gw,gw,List.map_append];rfl
end Go.Proofs.YtekfmjjmihomlaaGreat
end
section
/- All situations: the walk. -/
namespace Go.Proofs.YtekfmjjmihomlaaGreat
open Go Go.cQ Go.Proofs
set_option linter.unusedSimpArgs false
set_option linter.unusedVariables false
set_option maxRecDepth 8000
theorem nq (u:bf) (hu:u.Wf) (hr:¬ca u) (most:Int) (g:Nat) (caps:List AV) (H0:Hp) (nx:Nat):cD Tryz.prog 32 [u.av,i64 most, .fn (.func g) [] caps] H0 nx (fun r H n=>r= .de [i64 0,i64 60]∧nx≤n∧∀y,y<nx→bd H y=bd H0 y):=by
 have c0:=ye u hu hr
 refine aP wX rfl ?_
 refine cM ?_
 exact⟨⟨rfl,cY,fun y hy=>bq⟩⟩
theorem kJ (u:bf) (hu:u.Wf) (hr:ca u) (most:Int) (hm:¬(1≤most∧most≤65536)) (g:Nat) (caps:List AV) (H0:Hp) (nx:Nat):cD Tryz.prog 32 [u.av,i64 most, .fn (.func g) [] caps] H0 nx (fun r H n=>r= .de [i64 0,i64 2]∧nx≤n∧∀y,y<nx→bd H y=bd H0 y):=by
 refine aP wX rfl ?_
 refine cM ?_
 refine aJ (mF u hu hr _ _) ?_
 rintro r H1 n1 ⟨L,rfl,hM,hlt,hn1,hk1⟩
 by_cases h1:most<1
 ·refine cM ?_
  exact⟨⟨rfl,cY,fun y hy=>Eq.trans bq ((hk1 y cY).trans bq)⟩⟩
 ·have h2:65536<most:=by omega
  refine cM ?_
  exact⟨⟨rfl,cY,fun y hy=>Eq.trans bq ((hk1 y cY).trans bq)⟩⟩
theorem vu (u:bf) (hr:ca u) (m:MS) (h:dw u m) (hp:m.bn.length≤1048576) (H0:Hp) (nx:Nat):cD Tryz.prog 65 [m.fz u] H0 nx (fun r H n=>∃L:ML,r= .pt L.mr 1 0 0∧L.At u m H∧(∀x∈L.all,nx≤x∧x<n)∧nx≤n∧∀y,y<nx→bd H y=bd H0 y):=by
 have hgl:=hr.A2
 refine(vv u m (by have:=h.lV;omega) (by have:=h.ml;omega) (by have:=h.hl;omega) hp (by have:=h.sl;omega) (fun x hx=> ?_) H0 nx).mono ?_
 ·obtain⟨s,hs,rfl⟩:=List.mem_iff_getElem.1 hx
  have h1:=h.xN s (by rw[←h.sl];exact hs)
  have h2:=(hr.gr (t:=s) (by rw[←h.sl];exact hs)).bh.2
  rw[show m.bh.getD s []=m.bh[s] by simp[List.getD,hs]] at h1
  omega
 ·rintro r H n ⟨mr,a,s,me,ho,pr,ids,rfl,h1,h2,h3,h4⟩
  exact⟨⟨mr,a,s,me,ho,pr,ids⟩,rfl,h1,h2,h3,h4⟩
def FA (u:bf) (most:Int) (I:Nat→Hp→Prop) (nx:Nat) (H0:Hp) (r:AV) (H:Hp) (n:Nat):Prop:=
 nx≤n∧match fS u most.toNat with
 |none=>r= .de [i64 0,i64 3]∧∀y,y<nx→bd H y=bd H0 y
 |some l=>r= .de [i64 l.length,i64 0]∧I l.length H
set_option maxHeartbeats 4000000 in
theorem l9 (u:bf) (hu:u.Wf) (hr:ca u) (most:Int) (hm:1≤most∧most≤65536) (g:Nat) (caps:List AV) (H0:Hp) (nx:Nat) (I:Nat→Hp→Prop) (hI0:I 0 H0) (hst:∀k H H',I k H→(∀y,y<nx→bd H' y=bd H y)→I k H')
 (hcl:∀l,fS u most.toNat=some l→∀k H n,k<l.length→nx≤n→I k H→cD Tryz.prog g ([gq u l,i64 k]++caps) H n (fun _ H' n'=>I (k+1) H'∧n≤n'∧∀y,nx≤y→y<n→bd H' y=bd H y)):
 cD Tryz.prog 32 [u.av,i64 most, .fn (.func g) [] caps] H0 nx (FA u most I nx H0):=by
 obtain⟨mo,rfl⟩:∃mo:Nat,most=mo:=⟨most.toNat,by omega⟩
 have hgl:=hr.A2
 unfold FA
 rw[Int.toNat_natCast] at hcl ⊢
 refine aP wX rfl ?_
 refine cM ?_
 refine aJ (mF u hu hr _ _) ?_
 rintro r H1 n1 ⟨L,rfl,hM,hlt,hn1,hk1⟩
 have hF:=fj.init u hu hr
 have hm0:=(hF.ok 0 hF.pos).1
 have hm0':(List.getD (iV u) 0 default).m=dZ u:=rfl
 rw[hm0'] at hm0
 have g0:uo true (Value.string (jM (fF (dZ u)))) [] (i64 1)=some (lK (iV u)):=rfl
 have h65:(65536:Int)<mo→False:=by omega
 refine cM ?_
 refine aT (sB u (dZ u) (hm0.M3 hr (by simp[dZ]))) (args2:=[(dZ u).fz u]) ?_ (by simp[cN,lD]) trivial ?_
 ·rw[List.map_cons,List.map_nil]
  congr 1
  exact(hM.cE fun y hy=>by have:=hlt y hy;exact bq).zX 2
 refine cM ?_
 have hno:∀y,y<nx+1∨n1≤y→y∉L.all:=fun y hy hm=>by have:=hlt y hm;omega
 refine aU (fun σ:Nat×List bx=>[(1,i64 mo),(2, .fn (.func g) [] caps),(3, .pt nx 1 0 0),(10, .sl (n1+15) σ.2.length),(11, .mp (n1+17)),(12,i64 σ.1)])
  (fun σ H n=>σ.1≤σ.2.length∧σ.2.length≤mo∧fj u σ.2∧pd u mo (mo - σ.1) σ.1 σ.2=fS u mo∧n1+23≤n∧(∃d,bd H nx=some (.row 25 3 d [u.av]))∧(∃d,bd H (n1+15)=some (.row 75 3 d (σ.2.map (bx.av u))))∧(∃e d,bd H (n1+17)=some (.row e 0 d (mapA (lK σ.2))))∧∀y,y<nx→bd H y=bd H0 y) (fun σ=>mo - σ.1) (0,iV u)
  ⟨_,_,_,Rt.wk (q8 (lb:=n1+15) (l:=[]) (fr:=-1) (th:=0) (hM.cE ?_) bg (hno _ (by omega))),cK,Nat.zero_le _,by show 1≤mo;omega,hF,rfl,cY,⟨_,(dR (hno _ (by omega))).trans (Eq.trans bq ((hk1 nx (by omega)).trans bg))⟩,⟨_,(dR (hno _ (by omega))).trans bg⟩,⟨_,_,(dR (hno _ (by omega))).trans bg⟩,fun y hy=>(dR (hno _ (by omega))).trans (Eq.trans bq ((hk1 y cY).trans bq))⟩ ?_
 ·intro y hy
  have:=hlt y hy
  exact bq
 clear hM hlt hk1 hno
 rintro⟨k,l⟩ H n ⟨hk,hl,hfs,hall,hn,⟨d0,r0'⟩,⟨d1,r1'⟩,⟨e2,d2,r2'⟩,hkp⟩
 dsimp only at hk hl hfs hall r1' r2' ⊢
 by_cases hkl:k<l.length
 ·have e0:∀d,(l.map (bx.av u)).getD ((k:Int)).toNat d=(l.getD k default).av u:=fun d=>by rw[Int.toNat_natCast];exact dJ (bx.av u) l k d hkl
  have a0:(l.map (bx.av u)).length=l.length:=by simp
  have hgeq:∀l':List bx,l<+:l'→l'.getD k default=l.getD k default:=fun l' ⟨q,hq⟩=>by rw[←hq];simp[List.getD,List.getElem?_append,hkl]
  have hmk:mo - k=(mo - (k+1))+1:=by omega
  rw[hmk,pd,if_pos hkl] at hall
  obtain⟨hmok,hpl⟩:=hfs.ok k hkl
  have hmdef:(l.getD k default).m=(l.getD k default).m:=rfl
  generalize hmm:(l.getD k default).m=m at hmok hpl
  have e0':∀d,(l.map (bx.av u)).getD ((k:Int)).toNat d= .agg [m.fz u,i64 (l.getD k default).from_,i64 (l.getD k default).cL]:=fun d=>by rw[e0 d,←hmm];rfl
  clear e0
  have e0:=e0'
  refine cM ?_
  rw[List.length_map]
  refine aU (fun σ:Nat×List bx=>[(1,i64 mo),(2, .fn (.func g) [] caps),(3, .pt nx 1 0 0),(10, .sl (n1+15) σ.2.length),(11, .mp (n1+17)),(12,i64 k),(13,m.fz u),(52,i64 u.bj.length),(53,i64 σ.1)])
   (fun σ H n=>σ.1≤u.bj.length∧k<σ.2.length∧σ.2.length≤mo∧fj u σ.2∧(σ.2.getD k default).m=m∧(match sR u mo k ((List.range u.bj.length).drop σ.1) σ.2 with
    |none=>none
    |some l2=>pd u mo (mo - (k+1)) (k+1) l2)=fS u mo∧n1+23≤n∧(∃d,bd H nx=some (.row 25 3 d [u.av]))∧(∃d,bd H (n1+15)=some (.row 75 3 d (σ.2.map (bx.av u))))∧(∃e d,bd H (n1+17)=some (.row e 0 d (mapA (lK σ.2))))∧∀y,y<nx→bd H y=bd H0 y) (fun σ=>u.bj.length - σ.1) (0,l)
   ⟨_,_,_,Rt.refl _ _ _,cK,Nat.zero_le _,hkl,hl,hfs,hmm,hall,cY,⟨_,bg⟩,⟨_,bg⟩,⟨_,_,bg⟩,fun y hy=>Eq.trans bq (hkp y hy)⟩ ?_
  clear e0 e0' a0 r0' r1' r2' hkp hall hfs hl hkl hgeq hn hmm
  rintro⟨t,l⟩ H n ⟨ht,hkl,hl,hfs,hmm,hall,hn,⟨d0,r0'⟩,⟨d1,r1'⟩,⟨e2,d2,r2'⟩,hkp⟩
  dsimp only at ht hkl hl hfs hmm hall r1' r2' ⊢
  have a0:(l.map (bx.av u)).length=l.length:=by simp
  by_cases htl:t<u.bj.length
  ·rw[show(List.range u.bj.length).drop t=t::(List.range u.bj.length).drop (t+1) by rw[List.drop_eq_getElem_cons (by simpa using htl)];simp,sR] at hall
   have c0:=vl u hr m hmok t
   by_cases hb:m.lg u t=0
   ·have hal:=hmok.lV
    refine cM ?_
    refine aJ (vu u hr m hmok (by omega) _ _) ?_
    rintro r H2 n2 ⟨L2,rfl,hM2,hlt2,hn2,hk2⟩
    have hlt2:∀x∈L2.all,n+7≤x∧x<n2:=hlt2
    refine cM ?_
    refine aJ (qu hu hr hmok (L:=L2) (hM2.cE ?_) ?_ (by omega) htl hb) ?_
    ·intro y hy
     have:=hlt2 y hy
     exact bq
    ·intro y hy
     have:=hlt2 y hy
     exact cY
    rintro r H3 n3 ⟨rfl,hM3,hn3,hk3⟩
    have hno:∀y,y<n+7∨n2≤y→y∉L2.all:=fun y hy hm=>by have:=hlt2 y hm;omega
    have hold:∀y,y<n→bd H3 y=bd H y:=fun y hy=>(hk3 y cY (hno y (by omega))).trans (Eq.trans bq ((hk2 y cY).trans bq))
    have hlt3:∀x∈L2.all,x<n3:=fun x hx=>by have:=hlt2 x hx;exact Nat.lt_of_lt_of_le this.2 cY
    obtain⟨hk9,_⟩:=lh hmok htl hb
    have hm2:=sX hu hr hmok htl hk9
    have hp2:=n9 u m t
    have htry:sZ u mo k t l=if fF (m.step u t).1∈gM l then some l else if l.length=mo then none else some (l++[⟨(m.step u t).1,k,t⟩]):=by
     unfold sZ
     rw[hmm,if_neg (by omega)]
    rw[htry] at hall
    have hput:=fun(h:fF (m.step u t).1∉gM l)=>zm (l:=l) (m:=(m.step u t).1) (a:=k) (b:=t) h
    have hadd:=fun(h:fF (m.step u t).1∉gM l)=>hfs.add hu hr hkl htl (by rw[hmm];exact hb) (by rw[hmm];exact h)
    rw[hmm] at hadd
    generalize (m.step u t).1=m2 at *
    have hkp3:∀y,y<nx→bd H3 y=bd H0 y:=fun y hy=>(hold y (by omega)).trans (hkp y hy)
    have q0:=(hold nx (by omega)).trans r0'
    have q1:=(hold (n1+15) (by omega)).trans r1'
    have q2:=(hold (n1+17) (by omega)).trans r2'
    have hget:=w5 sA i64 (jM (fF m2)) (gw l) (i64 0)
    rw[pC] at hget
    clear hk2 hk3 hM2 r0' r1' r2' hold hkp
    by_cases hin:fF m2∈gM l
    ·rw[if_pos hin] at hget hall
     have g0:sH true (Value.string (jM (fF m2))) (lK l) (i64 0)=some (i64 1,true):=hget
     refine cM ?_
     refine aT (sB u m2 (hm2.M3 hr (by omega))) (args2:=[m2.fz u]) ?_ (by simp[cN,lD]) trivial ?_
     ·rw[List.map_cons,List.map_nil]
      congr 1
      exact(hM3.cE fun y hy=>by have:=hlt3 y hy;exact bq).zX 2
     refine cM ?_
     exact⟨(t+1,l),by dsimp only;omega,_,_,_,Rt.refl _ _ _,cK,by dsimp only;omega,hkl,hl,hfs,hmm,hall,cY,⟨_,bg⟩,⟨_,bg⟩,⟨_,_,bg⟩,fun y hy=>Eq.trans bq (hkp3 y hy)⟩
    ·rw[if_neg hin] at hget hall
     have g0:sH true (Value.string (jM (fF m2))) (lK l) (i64 0)=some (i64 0,false):=hget
     by_cases hfull:l.length=mo
     ·rw[if_pos hfull] at hall
      refine cM ?_
      refine aT (sB u m2 (hm2.M3 hr (by omega))) (args2:=[m2.fz u]) ?_ (by simp[cN,lD]) trivial ?_
      ·rw[List.map_cons,List.map_nil]
       congr 1
       exact(hM3.cE fun y hy=>by have:=hlt3 y hy;exact bq).zX 2
      refine cM ?_
      have hall2:none=fS u mo:=hall
      rw[←hall2]
      exact⟨⟨cY,rfl,fun y hy=>Eq.trans bq (hkp3 y hy)⟩⟩
     ·rw[if_neg hfull] at hall
      have g1:uo true (Value.string (jM (fF m2))) (lK l) (i64 1)=some (lK (l++[⟨m2,k,t⟩])):=by
       have:=w6 sA i64 (jM (fF m2)) 1 (gw l)
       rw[hput hin] at this
       exact this
      refine cM ?_
      refine aT (sB u m2 (hm2.M3 hr (by omega))) (args2:=[m2.fz u]) ?_ (by simp[cN,lD]) trivial ?_
      ·rw[List.map_cons,List.map_nil]
       congr 1
       exact(hM3.cE fun y hy=>by have:=hlt3 y hy;exact bq).zX 2
      refine cM ?_
      have hout:=hno
      refine⟨(t+1,l++[⟨m2,k,t⟩]),by dsimp only;omega,_,_,_,Rt.wk (q8 (L:=L2) (lb:=n1+15) (m:=m2) (l:=l) (fr:=k) (th:=t) (hM3.cE ?_) bg (hno _ (by omega))),cK,by dsimp only;omega,by dsimp only;rw[List.length_append];omega,by dsimp only;simp only[List.length_append,List.length_cons,List.length_nil];omega,hadd hin,by dsimp only;rw[eV hkl];exact hmm,hall,cY,⟨_,(dR (hno _ (by omega))).trans bg⟩,⟨_,(dR (hno _ (by omega))).trans bg⟩,⟨_,_,(dR (hno _ (by omega))).trans bg⟩,fun y hy=>(dR (hno _ (by omega))).trans (Eq.trans bq (hkp3 y hy))⟩
      intro y hy
      have:=hlt2 y hy
      have:=hlt3 y hy
      exact bq
   ·have htry:sZ u mo k t l=some l:=by
     unfold sZ
     rw[hmm,if_pos hb]
    rw[htry] at hall
    refine cM ?_
    exact⟨(t+1,l),by dsimp only;omega,_,_,_,Rt.refl _ _ _,cK,by dsimp only;omega,hkl,hl,hfs,hmm,hall,cY,⟨_,bg⟩,⟨_,bg⟩,⟨_,_,bg⟩,fun y hy=>Eq.trans bq (hkp y hy)⟩
  ·have htG:t=u.bj.length:=by omega
   subst htG
   rw[List.drop_of_length_le (by simp),sR] at hall
   refine cM ?_
   exact⟨(k+1,l),by dsimp only;omega,_,_,_,Rt.refl _ _ _,cK,by dsimp only;omega,hl,hfs,hall,cY,⟨_,bg⟩,⟨_,bg⟩,⟨_,_,bg⟩,fun y hy=>Eq.trans bq (hkp y hy)⟩
 ·have hk2:k=l.length:=by omega
  refine cM ?_
  have hl2:fS u mo=some l:=by
   rw[←hall]
   subst hk2
   cases h:mo - l.length with
   |zero=>rfl
   |succ q=>rw[pd,if_neg (by omega)]
  have hw:=fun(H':Hp) (n':Nat) (hr:bd H' (n1+15)=some (.row 75 3 d1 (l.map (bx.av u))))=>Wk.LO (r:= .sl (n1+15) l.length) (H:=H') (nx:=n') [(n1+15,some (.row 75 3 d1 (l.map (bx.av u))))] 1 (fun b q hq=>by
   by_cases hb:b=n1+15
   ·subst hb;rw[cU] at hq;rw[←hq];exact hr
   ·rw[cF hb] at hq;cases hq)
  rw[CN (cU _ _ _) (by simp),ox] at hw
  rw[hl2]
  refine aU (fun i:Nat=>[(2, .fn (.func g) [] caps),(10,gq u l),(86,i64 l.length),(87,i64 i)])
   (fun i H n=>i≤l.length∧nx≤n∧I i H) (fun i=>l.length - i) 0
   ⟨_,_,_,Rt.slot 10 rfl (hw _ _ bg),cK,Nat.zero_le _,cY,hst 0 _ _ hI0 fun y hy=>(cF (by omega)).trans (Eq.trans bq (hkp y hy))⟩ ?_
  clear r0' r1' r2' hkp hw hn
  rintro i H n ⟨hi,hn,hI⟩
  by_cases hil:i<l.length
  ·refine cM ?_
   refine Eq.mpr (fq caps _) ?_
   show fx Tryz.prog g (gq u l::i64 i::caps) _ _ _
   refine aJ (hcl l hl2 i _ _ hil cY (hst i H _ hI fun y hy=>bq)) ?_
   rintro _ H2 n2 ⟨hI2,hn2,_⟩
   refine cM ?_
   exact⟨i+1,by omega,_,_,_,Rt.refl _ _ _,cK,by omega,cY,hst _ _ _ hI2 fun y hy=>bq⟩
  ·obtain rfl:i=l.length:=by omega
   refine cM ?_
   exact⟨⟨cY,by rw[List.length_map],hst _ _ _ hI fun y hy=>bq⟩⟩
end Go.Proofs.YtekfmjjmihomlaaGreat
end
section
/- Ends compared: the code's Compare and Same. -/
namespace Go.Proofs.YtekfmjjmihomlaaGreat
open Go Go.cQ Go.Proofs
set_option linter.unusedSimpArgs false
set_option linter.unusedVariables false
theorem zI (p q:cO):Pure Tryz.prog 46 [p.av,q.av] (fun r=>r=i64 (er p q)):=by
 have c0:=BP p.cL q.cL
 have c1:=qM p.word q.word
 have c2:=yg [eH p.cL q.cL,eH p.word q.word] (by simp)
 refine aI DA rfl ?_
 refine cM ?_
 refine aT (args2:=[cq [eH p.cL q.cL,eH p.word q.word]]) (r:=i64 (er p q)) c2 rfl (by simp[cN,cA]) trivial ?_
 refine cM ?_
 first|exact rfl|trivial
theorem gk {l:List cO} {i:Nat} (h:i<l.length) (d:AV):(l.map cO.av).getD ((i:Int)).toNat d=(l.getD i default).av:=by
 rw[Int.toNat_natCast];exact dJ cO.av l i d h
theorem vt (a b:List cO) (ha:a.length<9223372036854775807):Pure Tryz.prog 45 [da a,da b, .fn (.func 46) [] []] (fun r=>r=i64 (eE er a b)):=by
 refine aI C9 rfl ?_
 refine cM ?_
 rw[List.length_map]
 refine aR (fun i:Nat=>[(0,da a),(1,da b),(2, .fn (.func 46) [] []),(11,da a),(12,i64 a.length),(13,i64 i)]) (fun i H n=>i≤a.length∧i≤b.length∧eE er a b=eE er (a.drop i) (b.drop i)) (fun i=>a.length - i) 0 cK ⟨Nat.zero_le _,Nat.zero_le _,rfl⟩ ?_
 rintro i H n ⟨hi,hib,ho⟩
 rw[ho]
 have a0:(a.map cO.av).length=a.length:=by simp
 have a1:(b.map cO.av).length=b.length:=by simp
 by_cases hil:i<a.length
 ·have e0:=fun d=>gk hil d
  by_cases hbl:i<b.length
  ·have e1:=fun d=>gk hbl d
   have hd:=nu er default hil hbl
   have c0:=zI (a.getD i default) (b.getD i default)
   generalize a.getD i default=p at *
   generalize b.getD i default=q at *
   by_cases hz:er p q=0
   ·have r0:=hz
    rw[if_pos hz] at hd
    refine cM ?_
    exact⟨i+1,by omega,cK,by omega,by omega,hd⟩
   ·have r0:=decide_eq_true hz
    rw[if_neg hz] at hd
    refine cM ?_
    rw[hd]
  ·rw[lp er hil (by omega)]
   refine cM ?_
   first|exact rfl|trivial
 ·obtain rfl:i=a.length:=by omega
  rw[ln er (Nat.le_refl _) hib]
  by_cases h:a.length<b.length
  ·rw[if_pos h]
   refine cM ?_
   first|exact rfl|trivial
  ·rw[if_neg h]
   refine cM ?_
   first|exact rfl|trivial
theorem vq (a b:List Int) (ha:a.length<9223372036854775807):Pure Tryz.prog 50 [cq a,cq b] (fun r=>r=i64 (eE eH a b)):=by
 refine aI DC rfl ?_
 refine cM ?_
 rw[List.length_map]
 refine aR (fun i:Nat=>[(0,cq a),(1,cq b),(9,cq a),(10,i64 a.length),(11,i64 i)]) (fun i H n=>i≤a.length∧i≤b.length∧eE eH a b=eE eH (a.drop i) (b.drop i)) (fun i=>a.length - i) 0 cK ⟨Nat.zero_le _,Nat.zero_le _,rfl⟩ ?_
 rintro i H n ⟨hi,hib,ho⟩
 rw[ho]
 have a0:(a.map i64).length=a.length:=by simp
 have a1:(b.map i64).length=b.length:=by simp
 by_cases hil:i<a.length
 ·have e0:=fun d=>ed hil d
  by_cases hbl:i<b.length
  ·have e1:=fun d=>ed hbl d
   have hd:=nu eH 0 hil hbl
   have c0:=qM (a.getD i 0) (b.getD i 0)
   generalize a.getD i 0=p at *
   generalize b.getD i 0=q at *
   by_cases hz:eH p q=0
   ·have r0:=hz
    rw[if_pos hz] at hd
    refine cM ?_
    exact⟨i+1,by omega,cK,by omega,by omega,hd⟩
   ·have r0:=decide_eq_true hz
    rw[if_neg hz] at hd
    refine cM ?_
    rw[hd]
  ·rw[lp eH hil (by omega)]
   refine cM ?_
   first|exact rfl|trivial
 ·obtain rfl:i=a.length:=by omega
  rw[ln eH (Nat.le_refl _) hib]
  by_cases h:a.length<b.length
  ·rw[if_pos h]
   refine cM ?_
   first|exact rfl|trivial
  ·rw[if_neg h]
   refine cM ?_
   first|exact rfl|trivial
theorem qK (a b:dG) (h1:a.bn.length<9223372036854775807) (h2:a.mem.length<9223372036854775807):Pure Tryz.prog 19 [a.av,b.av] (fun r=>r=i64 (eC a b)):=by
 have c0:=vt a.bn b.bn h1
 have c1:=vq a.mem b.mem h2
 have c2:=yg [eE er a.bn b.bn,eE eH a.mem b.mem,pf a.ended b.ended] (by simp)
 obtain⟨ap,am,ae⟩:=a
 obtain⟨bp,bm,be⟩:=b
 cases ae<;>cases be<;>(refine aI CY rfl ?_;refine cM ?_;refine aT (args2:=[cq [eE er ap bp,eE eH am bm,_]]) (r:=i64 (j0 [eE er ap bp,eE eH am bm,_])) c2 rfl (by simp[cN,cA]) trivial ?_;refine cM ?_;first|exact rfl|trivial)
theorem pR (a b:dG) (h1:a.bn.length<9223372036854775807) (h2:a.mem.length<9223372036854775807):Pure Tryz.prog 20 [a.av,b.av] (fun r=>r=bl (decide (eC a b=0))):=by
 have c0:=qK a b h1 h2
 refine aI CZ rfl ?_
 refine cM ?_
 refine eR ?_
 simp
end Go.Proofs.YtekfmjjmihomlaaGreat
end
section
/- Ends compared: the document's Compare; the plain laws. -/
namespace Go.Proofs.YtekfmjjmihomlaaGreat
open Go Go.cQ Go.Proofs
set_option linter.unusedSimpArgs false
set_option linter.unusedVariables false
theorem pM (b:Bool):Pure Tryz.prog 44 [bl b] (fun r=>r=i64 (if b then -1 else 1)):=by
 cases b<;>(refine aI C8 rfl ?_;refine cM ?_;first|exact rfl|trivial)
theorem jE {x:Bool} {v:Int} (h:(if x=true then -1 else 1)=v):Pure Tryz.prog 44 [bl x] (fun r=>r=i64 v):=by
 have:=pM x
 rw[h] at this
 exact this
theorem FQ {p q:cO} (h:p.cL<q.cL∨p.cL=q.cL∧p.word<q.word):er p q=-1:=by
 unfold er eH
 simp only[j0]
 repeat' (first|omega|split)
theorem FP {p q:cO} (h:¬(p.cL<q.cL∨p.cL=q.cL∧p.word<q.word)) (hne:¬(p.cL=q.cL∧p.word=q.word)):er p q=1:=by
 unfold er eH
 simp only[j0]
 repeat' (first|omega|split)
theorem FO {p q:cO} (h:p.cL=q.cL∧p.word=q.word):er p q=0:=by
 unfold er eH
 simp only[j0]
 repeat' (first|omega|split)
theorem FN {x y:Int} (h:x≠y):eH x y=if x<y then -1 else 1:=by
 unfold eH;split
 ·rfl
 ·rw[if_pos (by omega)]
theorem xe (x:Int):eH x x=0:=by unfold eH;simp
set_option maxHeartbeats 1000000 in
theorem wy (a b:dG) (h1:a.bn.length<9223372036854775807) (h2:a.mem.length<9223372036854775807):Pure Tryz.prog 18 [a.av,b.av] (fun r=>r=i64 (eC a b)):=by
 have a0:(a.bn.map cO.av).length=a.bn.length:=by simp
 have a1:(b.bn.map cO.av).length=b.bn.length:=by simp
 have a2:(a.mem.map i64).length=a.mem.length:=by simp
 have a3:(b.mem.map i64).length=b.mem.length:=by simp
 refine aI CX rfl ?_
 refine cM ?_
 refine aR (fun i:Nat=>[(2, .pt 0 1 0 0),(3, .pt 1 1 0 0),(5,i64 i)]) (fun i H n=>2≤n∧(∃d,bd H 0=some (.row 40 3 d [a.av]))∧(∃d,bd H 1=some (.row 40 3 d [b.av]))∧i≤a.bn.length∧i≤b.bn.length∧eE er a.bn b.bn=eE er (a.bn.drop i) (b.bn.drop i)) (fun i=>a.bn.length - i) 0 cK ⟨cY,⟨_,bg⟩,⟨_,bg⟩,Nat.zero_le _,Nat.zero_le _,rfl⟩ ?_
 rintro i H n ⟨hn,⟨d0,r0⟩,⟨d1,r1⟩,hi,hib,ho⟩
 by_cases hil:i<a.bn.length
 ·have e0:=fun d=>gk hil d
  by_cases hbl:i<b.bn.length
  ·have e1:=fun d=>gk hbl d
   have hd:=nu er default hil hbl
   generalize a.bn.getD i default=p at *
   generalize b.bn.getD i default=q at *
   have g0:=decide_eq_true hil
   have g1:=decide_eq_true hbl
   by_cases hlt:p.cL<q.cL∨p.cL=q.cL∧p.word<q.word
   ·have hc:=FQ hlt
    have hE:eC a b=-1:=by unfold eC;rw[ho,hd,hc,if_neg (by decide),j0,if_neg (by decide)]
    rw[hE]
    by_cases h3:p.cL<q.cL
    ·refine cM ?_
     first|exact rfl|trivial
    ·obtain⟨h4,h5⟩:=hlt.resolve_left h3
     have g2:=decide_eq_true h4
     have g3:=decide_eq_true h5
     refine cM ?_
     first|exact rfl|trivial
   ·have g4:¬p.cL<q.cL:=fun e=>hlt (.inl e)
    by_cases heq:p.cL=q.cL∧p.word=q.word
    ·obtain⟨h4,h5⟩:=heq
     have hc:=FO ⟨h4,h5⟩
     rw[hc,if_pos rfl] at hd
     have g5:¬p.word<q.word:=by omega
     refine cM ?_
     exact⟨i+1,by omega,cK,by omega,⟨_,bg⟩,⟨_,bg⟩,by omega,by omega,ho.trans hd⟩
    ·have hc:=FP hlt heq
     have hE:eC a b=1:=by unfold eC;rw[ho,hd,hc,if_neg (by decide),j0,if_neg (by decide)]
     rw[hE]
     refine cM ?_
     first|exact rfl|trivial
  ·have hE:eC a b=1:=by unfold eC;rw[ho,lp er hil (by omega),j0,if_neg (by decide)]
   rw[hE]
   have hne:a.bn.length≠b.bn.length:=by omega
   have c0:=jE (x:=decide (((a.bn.map cO.av).length:Int)<((b.bn.map cO.av).length:Int))) (v:=1) (by rw[decide_eq_false (by omega)];rfl)
   refine cM ?_
   first|exact rfl|trivial
 ·obtain rfl:i=a.bn.length:=by omega
  rw[ln er (Nat.le_refl _) hib] at ho
  by_cases hpl:a.bn.length<b.bn.length
  ·rw[if_pos hpl] at ho
   have hE:eC a b=-1:=by unfold eC;rw[ho,j0,if_neg (by decide)]
   rw[hE]
   have hne:a.bn.length≠b.bn.length:=by omega
   have c0:=jE (x:=decide (((a.bn.map cO.av).length:Int)<((b.bn.map cO.av).length:Int))) (v:=-1) (by rw[decide_eq_true (by omega)];rfl)
   refine cM ?_
   first|exact rfl|trivial
  ·rw[if_neg hpl] at ho
   have hpe:b.bn.length=a.bn.length:=by omega
   refine cM ?_
   refine aR (fun i:Nat=>[(2, .pt 0 1 0 0),(3, .pt 1 1 0 0),(8,i64 i)]) (fun i H n=>2≤n∧(∃d,bd H 0=some (.row 40 3 d [a.av]))∧(∃d,bd H 1=some (.row 40 3 d [b.av]))∧i≤a.mem.length∧i≤b.mem.length∧eE eH a.mem b.mem=eE eH (a.mem.drop i) (b.mem.drop i)) (fun i=>a.mem.length - i) 0 cK ⟨cY,⟨_,bg⟩,⟨_,bg⟩,Nat.zero_le _,Nat.zero_le _,rfl⟩ ?_
   clear r0 r1 hn
   rintro i H n ⟨hn,⟨d0,r0⟩,⟨d1,r1⟩,hi,hib,hm⟩
   by_cases hil:i<a.mem.length
   ·have e0:=fun d=>ed hil d
    by_cases hbl:i<b.mem.length
    ·have e1:=fun d=>ed hbl d
     have hd:=nu eH 0 hil hbl
     generalize a.mem.getD i 0=p at *
     generalize b.mem.getD i 0=q at *
     have g0:=decide_eq_true hil
     have g1:=decide_eq_true hbl
     by_cases heq:p=q
     ·rw[heq,xe,if_pos rfl] at hd
      refine cM ?_
      exact⟨i+1,by omega,cK,by omega,⟨_,bg⟩,⟨_,bg⟩,by omega,by omega,hm.trans hd⟩
     ·have hc:=FN heq
      by_cases hlt:p<q
      ·rw[if_pos hlt] at hc
       have hE:eC a b=-1:=by unfold eC;rw[ho,hm,hd,hc,if_neg (by decide),j0,if_pos rfl,j0,if_neg (by decide)]
       rw[hE]
       have c0:=jE (x:=decide (p<q)) (v:=-1) (by rw[decide_eq_true hlt];rfl)
       refine cM ?_
       first|exact rfl|trivial
      ·rw[if_neg hlt] at hc
       have hE:eC a b=1:=by unfold eC;rw[ho,hm,hd,hc,if_neg (by decide),j0,if_pos rfl,j0,if_neg (by decide)]
       rw[hE]
       have c0:=jE (x:=decide (p<q)) (v:=1) (by rw[decide_eq_false hlt];rfl)
       refine cM ?_
       first|exact rfl|trivial
    ·have hE:eC a b=1:=by unfold eC;rw[ho,hm,lp eH hil (by omega),j0,if_pos rfl,j0,if_neg (by decide)]
     rw[hE]
     have hne:a.mem.length≠b.mem.length:=by omega
     have c0:=jE (x:=decide (((a.mem.map i64).length:Int)<((b.mem.map i64).length:Int))) (v:=1) (by rw[decide_eq_false (by omega)];rfl)
     refine cM ?_
     first|exact rfl|trivial
   ·obtain rfl:i=a.mem.length:=by omega
    rw[ln eH (Nat.le_refl _) hib] at hm
    by_cases hml:a.mem.length<b.mem.length
    ·rw[if_pos hml] at hm
     have hE:eC a b=-1:=by unfold eC;rw[ho,hm,j0,if_pos rfl,j0,if_neg (by decide)]
     rw[hE]
     have hne:a.mem.length≠b.mem.length:=by omega
     have c0:=jE (x:=decide (((a.mem.map i64).length:Int)<((b.mem.map i64).length:Int))) (v:=-1) (by rw[decide_eq_true (by omega)];rfl)
     refine cM ?_
     first|exact rfl|trivial
    ·rw[if_neg hml] at hm
     have hme:b.mem.length=a.mem.length:=by omega
     have hE:eC a b=pf a.ended b.ended:=by
      unfold eC;rw[ho,hm,j0,if_pos rfl,j0,if_pos rfl,j0]
      split<;>simp_all[j0]
     rw[hE]
     obtain⟨ap,am,ae⟩:=a
     obtain⟨bp,bm,be⟩:=b
     have c0:=pM be
     cases ae<;>cases be<;>(refine cM ?_;first|exact rfl|trivial)
end Go.Proofs.YtekfmjjmihomlaaGreat
end
section
/- Ends compared: the order's plain laws. -/
namespace Go.Proofs.YtekfmjjmihomlaaGreat
open Go Go.cQ Go.Proofs
set_option linter.unusedSimpArgs false
set_option linter.unusedVariables false
theorem oY (x y:Int):eH y x=-eH x y:=by
 unfold eH
 repeat' (first|omega|split)
theorem sK:∀l:List Int,j0 (l.map (-·))=-j0 l
 |[]=>rfl
 |x::l=>by
  simp only[List.map_cons,j0]
  by_cases h:x=0
  ·rw[if_pos (by omega),if_pos h];exact sK l
  ·rw[if_neg (by omega),if_neg h]
theorem BQ (p q:cO):er q p=-er p q:=by
 unfold er
 rw[←sK,oY p.cL,oY p.word];rfl
theorem oZ {α:Type} {f:α→α→Int} (hf:∀x y,f y x=-f x y):∀a b:List α,eE f b a=-eE f a b
 |[],[]=>rfl
 |[],_::_=>rfl
 |_::_,[]=>rfl
 |x::a,y::b=>by
  rw[eE,eE,hf x y]
  by_cases h:f x y=0
  ·rw[if_pos (by omega),if_pos h];exact oZ hf a b
  ·rw[if_neg (by omega),if_neg h]
theorem BN (a b:Bool):pf b a=-pf a b:=by cases a<;>cases b<;>rfl
theorem BO (a b:dG):eC b a=-eC a b:=by
 unfold eC
 rw[←sK,oZ BQ a.bn,oZ oY a.mem,BN a.ended];rfl
theorem uy {l:List Int}:j0 l=0↔∀x∈l,x=0:=by
 induction l with
 |nil=>simp[j0]
 |cons x l ih=>
  rw[j0]
  by_cases h:x=0
  ·rw[if_pos h,ih];simp[h]
  ·rw[if_neg h];simp[h]
theorem ir {x y:Int}:eH x y=0↔x=y:=by
 constructor
 ·unfold eH;intro h;revert h;repeat' (first|omega|split)
 ·rintro rfl;exact xe _
theorem mq {p q:cO}:er p q=0↔p=q:=by
 unfold er
 rw[uy]
 simp only[List.mem_cons,List.not_mem_nil,or_false,forall_eq_or_imp,forall_eq,ir]
 constructor
 ·rintro⟨h1,h2⟩;cases p;cases q;simp_all
 ·rintro rfl;exact⟨rfl,rfl⟩
theorem iu {α:Type} {f:α→α→Int} (hf:∀x y,f x y=0↔x=y):∀a b:List α,eE f a b=0↔a=b
 |[],[]=>by simp[eE]
 |[],_::_=>by simp[eE]
 |_::_,[]=>by simp[eE]
 |x::a,y::b=>by
  rw[eE]
  by_cases h:f x y=0
  ·rw[if_pos h,iu hf a b]
   have:=(hf x y).1 h
   simp[this]
  ·rw[if_neg h]
   have:x≠y:=fun e=>h ((hf x y).2 e)
   simp[h,this]
theorem qL {a b:dG}:eC a b=0↔a=b:=by
 unfold eC
 rw[uy]
 simp only[List.mem_cons,List.not_mem_nil,or_false,forall_eq_or_imp,forall_eq,iu (fun x y=>mq),iu (fun x y=>ir)]
 constructor
 ·rintro⟨h1,h2,h3⟩
  obtain⟨ap,am,ae⟩:=a
  obtain⟨bp,bm,be⟩:=b
  cases ae<;>cases be<;>simp_all[pf]
 ·rintro rfl
  exact⟨rfl,rfl,by cases a.ended<;>rfl⟩
end Go.Proofs.YtekfmjjmihomlaaGreat
end
section
/- Count; the closures that ends, ways and what is shown hand to the exploring. -/
namespace Go.Proofs.YtekfmjjmihomlaaGreat
open Go Go.cQ Go.Proofs
set_option linter.unusedSimpArgs false
set_option linter.unusedVariables false
set_option maxRecDepth 8000
open Classical in
noncomputable def fb (u:bf) (most:Int):Int×List bx:=
 if ¬ca u then(60,[]) else if ¬(1≤most∧most≤65536) then(2,[]) else match fS u most.toNat with
  |none=>(3,[])
  |some l=>(0,l)
theorem ji {u:bf} {most:Int} (h:¬ca u):fb u most=(60,[]):=by unfold fb;rw[if_pos h]
theorem gn {u:bf} {most:Int} (h:ca u) (hm:¬(1≤most∧most≤65536)):fb u most=(2,[]):=by unfold fb;rw[if_neg (fun e=>e h),if_pos hm]
theorem iG {u:bf} {most:Int} (h:ca u) (hm:1≤most∧most≤65536):fb u most=(match fS u most.toNat with|none=>(3,[])|some l=>(0,l)):=by unfold fb;rw[if_neg (fun e=>e h),if_neg (fun e=>e hm)]
theorem BS (a b:AV) (H:Hp) (nx:Nat):cD Tryz.prog 33 [a,b] H nx (fun r H' n=>H'=H∧n=nx):=by
 refine aP C5 rfl ?_
 refine cM ?_
 exact⟨⟨rfl,rfl⟩⟩
theorem vx (u:bf) (hu:u.Wf) (most:Int):Pure Tryz.prog 11 [u.av,i64 most] (fun r=>r= .de [i64 (fb u most).2.length,i64 (fb u most).1]):=by
 refine eY ?_ (by simp[cA,cN])
 refine aP CU rfl ?_
 by_cases hr:ca u
 ·by_cases hm:1≤most∧most≤65536
  ·rw[iG hr hm]
   refine cM ?_
   refine aJ (l9 u hu hr most hm _ [] _ _ (fun _ _=>True) trivial (fun _ _ _ _ _=>trivial) ?_) ?_
   ·intro l hl k H n hk hn _
    refine(BS _ _ H n).mono ?_
    rintro r H' n' ⟨rfl,rfl⟩
    exact⟨trivial,Nat.le_refl _,fun y _ _=>rfl⟩
   rintro r H' n' ⟨hn,hA⟩
   revert hA
   cases fS u most.toNat with
   |none=>
    rintro⟨rfl,_⟩
    refine cM ?_
    exact⟨rfl⟩
   |some l=>
    rintro⟨rfl,_⟩
    refine cM ?_
    exact⟨rfl⟩
  ·rw[gn hr hm]
   refine cM ?_
   refine aJ (kJ u hu hr most hm _ [] _ _) ?_
   rintro r H' n' ⟨rfl,hn,_⟩
   refine cM ?_
   exact⟨rfl⟩
 ·rw[ji hr]
  refine cM ?_
  refine aJ (nq u hu hr most _ [] _ _) ?_
  rintro r H' n' ⟨rfl,hn,_⟩
  refine cM ?_
  exact⟨rfl⟩
def dL (u:bf) (l:List bx) (k:Nat):List dG:=(l.take k).filterMap fun f=>if f.m.stuck u then some (f.m.end_ u) else none
theorem tI {u:bf} {l:List bx} {k:Nat} (hk:k<l.length):dL u l (k+1)=dL u l k++(if(l.getD k default).m.stuck u then[(l.getD k default).m.end_ u] else[]):=by
 unfold dL
 rw[List.take_succ_eq_append_getElem hk,List.filterMap_append,show l.getD k default=l[k] by simp[List.getD,hk]]
 congr 1
 simp only[List.filterMap_cons,List.filterMap_nil]
 split
 ·rename_i h;split at h<;>simp_all
 ·rename_i h;split at h<;>simp_all
theorem oc (u:bf) (l:List bx) (k:Nat):(dL u l k).length≤k:=by
 unfold dL
 refine Nat.le_trans (List.length_filterMap_le _ _) ?_
 rw[List.length_take];omega
set_option maxHeartbeats 1000000 in
theorem FY {u:bf} (hr:ca u) {l:List bx} (hf:fj u l) (hl:l.length≤65536) {k:Nat} (hk:k<l.length) {ub ob o:Nat} {H:Hp} {nx:Nat} (h1:ub<nx) (h2:ob<nx) (h3:o<nx) (hne:ob≠o)
 (r1:∃d,bd H ub=some (.row 25 3 d [u.av])) (r2:∃d,bd H ob=some (.row 30 1 d [.sl o (dL u l k).length])) (r3:∃d,bd H o=some (.row 40 3 d ((dL u l k).map dG.av))):
 cD Tryz.prog 35 [gq u l,i64 k, .pt ub 1 0 0, .pt ob 1 0 0] H nx (fun _ H' n=>(∃d,bd H' ob=some (.row 30 1 d [.sl o (dL u l (k+1)).length]))∧(∃d,bd H' o=some (.row 40 3 d ((dL u l (k+1)).map dG.av)))∧nx≤n∧∀y,y<nx→y≠ob→y≠o→bd H' y=bd H y):=by
 obtain⟨d1,r1⟩:=r1
 obtain⟨d2,r2⟩:=r2
 obtain⟨d3,r3⟩:=r3
 have hel:=oc u l k
 obtain⟨hm,hp⟩:=hf.ok k hk
 have e0:∀d,(l.map (bx.av u)).getD ((k:Int)).toNat d= .agg [(l.getD k default).m.fz u,i64 (l.getD k default).from_,i64 (l.getD k default).cL]:=fun d=>by rw[Int.toNat_natCast];exact dJ (bx.av u) l k d hk
 have a0:(l.map (bx.av u)).length=l.length:=by simp
 have a1:((dL u l k).map dG.av).length=(dL u l k).length:=by simp
 have c0:=qm u hr (l.getD k default).m hm (by omega) (by have:=hm.ml;have:=hr.A2;omega)
 rw[tI hk]
 generalize (l.getD k default).m=m at *
 cases hs:m.stuck u with
 |true=>
  rw[j1,hs] at c0
  refine aP zr rfl ?_
  refine cM ?_
  refine⟨⟨⟨_,by simp only[List.length_append,if_true,List.length_cons,List.length_nil];exact bg⟩,⟨_,by simp only[List.map_append,if_true,List.map_cons,List.map_nil];exact bg⟩,cY,fun y y1 y2 y3=>bq⟩⟩
 |false=>
  rw[j1,hs] at c0
  refine aP zr rfl ?_
  refine cM ?_
  refine⟨⟨⟨_,by rw[if_neg (by decide),List.append_nil];exact bg⟩,⟨_,by rw[if_neg (by decide),List.append_nil];exact bg⟩,cY,fun y y1 y2 y3=>bq⟩⟩
end Go.Proofs.YtekfmjjmihomlaaGreat
end
section
/- Shows: the walk. -/
namespace Go.Proofs.YtekfmjjmihomlaaGreat
open Go Go.cQ Go.Proofs
set_option linter.unusedSimpArgs false
set_option linter.unusedVariables false
set_option maxRecDepth 8000
theorem LG (p q:cO):wE [.i, .i] p.cells q.cells=some (decide (p=q)):=by
 simp only[cO.cells,wE,CT]
 by_cases h1:p.cL=q.cL<;>by_cases h2:p.word=q.word<;>simp[h1,h2]
 ·cases p;cases q;simp_all
 ·intro e;exact h2 (by rw[e])
 ·intro e;exact h1 (by rw[e])
 ·intro e;exact h1 (by rw[e])
theorem pj (a b:List cO) (ha:a.length * 16≤140737488355328) (hb:b.length * 16≤140737488355328):Pure Tryz.prog 61 [da a,da b] (fun r=>r=bl (decide (a=b))):=by
 refine aI DJ rfl ?_
 have a0:(a.map cO.av).length=a.length:=by simp
 have a1:(b.map cO.av).length=b.length:=by simp
 by_cases hl:a.length=b.length
 ·have r0:decide ((a.map cO.av).length=(b.map cO.av).length)=true:=by simp[hl]
  refine cM ?_
  rw[List.length_map]
  refine aR (fun i:Nat=>[(0,da a),(1,da b),(12,i64 a.length),(13,i64 i)]) (fun i H n=>i≤a.length∧∀j,j<i→a.getD j default=b.getD j default) (fun i=>a.length - i) 0 cK ⟨Nat.zero_le _,fun j hj=>by omega⟩ ?_
  rintro i H n ⟨hi,hall⟩
  by_cases hil:i<a.length
  ·have e0:=fun d=>gk (l:=a) hil d
   have e1:=fun d=>gk (l:=b) (i:=i) (by omega) d
   by_cases he:a.getD i default=b.getD i default
   ·have g0:wE [.i, .i] (a.getD i default).cells (b.getD i default).cells=some true:=by rw[LG,decide_eq_true he]
    refine cM ?_
    exact⟨i+1,by omega,cK,by omega,fun j hj=>by
     by_cases e:j=i
     ·rw[e];exact he
     ·exact hall j (by omega)⟩
   ·have g0:wE [.i, .i] (a.getD i default).cells (b.getD i default).cells=some false:=by rw[LG,decide_eq_false he]
    refine cM ?_
    refine eR (Eq.symm (decide_eq_false ?_))
    rintro rfl
    exact he rfl
  ·refine cM ?_
   refine eR (Eq.symm (decide_eq_true ?_))
   apply List.ext_getElem hl
   intro j q1 q2
   have:=hall j (by omega)
   simpa[List.getD,q1,q2] using this
 ·refine cM ?_
  refine eR (Eq.symm (decide_eq_false ?_))
  rintro rfl
  exact hl rfl
def fZ (l:List bx) (want:List cO) (k:Nat):Bool:=(l.take k).any fun f=>decide (f.m.bn=want)
theorem sV {l:List bx} {want:List cO} {k:Nat} (hk:k<l.length):fZ l want (k+1)=(fZ l want k||decide ((l.getD k default).m.bn=want)):=by
 unfold fZ
 rw[List.take_succ_eq_append_getElem hk,List.any_append,show l.getD k default=l[k] by simp[List.getD,hk]]
 simp
set_option maxHeartbeats 1000000 in
theorem EN {u:bf} {l:List bx} (hf:fj u l) (hl:l.length≤65536) {want:List cO} (hw:want.length * 16≤140737488355328) {k:Nat} (hk:k<l.length) {ib wb:Nat} {H:Hp} {nx:Nat} (h1:ib<nx) (h2:wb<nx) (hne:ib≠wb)
 (r1:∃d,bd H ib=some (.row 4 1 d [bl (fZ l want k)])) (r2:∃d,bd H wb=some (.row 37 1 d [da want])):
 cD Tryz.prog 60 [gq u l,i64 k, .pt ib 1 0 0, .pt wb 1 0 0] H nx (fun _ H' n=>(∃d,bd H' ib=some (.row 4 1 d [bl (fZ l want (k+1))]))∧nx≤n∧∀y,y<nx→y≠ib→bd H' y=bd H y):=by
 obtain⟨d1,r1⟩:=r1
 obtain⟨d2,r2⟩:=r2
 obtain⟨hm,hp⟩:=hf.ok k hk
 have e0:∀d,(l.map (bx.av u)).getD ((k:Int)).toNat d= .agg [(l.getD k default).m.fz u,i64 (l.getD k default).from_,i64 (l.getD k default).cL]:=fun d=>by rw[Int.toNat_natCast];exact dJ (bx.av u) l k d hk
 have a0:(l.map (bx.av u)).length=l.length:=by simp
 have c0:=kX u (l.getD k default).m (by omega)
 have c1:=pj (l.getD k default).m.bn want (by omega) hw
 rw[sV hk]
 generalize (l.getD k default).m=m at *
 cases hs:fZ l want k with
 |true=>
  rw[hs] at r1
  refine aP zt rfl ?_
  refine cM ?_
  refine⟨⟨⟨_,bg⟩,cY,fun y y1 y2=>bq⟩⟩
 |false=>
  rw[hs] at r1
  refine aP zt rfl ?_
  refine cM ?_
  refine⟨⟨⟨_,bg⟩,cY,fun y y1 y2=>bq⟩⟩
set_option maxHeartbeats 1000000 in
theorem xL (u:bf) (hu:u.Wf) (most:Int) (want:List cO) (hw:want.length * 16≤140737488355328):Pure Tryz.prog 27 [u.av,i64 most,da want] (fun r=>r= .de [bl (fZ (fb u most).2 want (fb u most).2.length),i64 (fb u most).1]):=by
 refine eY ?_ (by simp[cA,cN])
 refine aP C3 rfl ?_
 by_cases hr:ca u
 ·by_cases hm:1≤most∧most≤65536
  ·rw[iG hr hm]
   refine cM ?_
   refine aJ (l9 u hu hr most hm _ [.pt 4 1 0 0, .pt 1 1 0 0] _ _ (fun k H=>(∃d,bd H 4=some (.row 4 1 d [bl (fZ ((fS u most.toNat).getD []) want k)]))∧(∃d,bd H 1=some (.row 37 1 d [da want]))) ⟨⟨_,bg⟩,⟨_,bg⟩⟩ ?_ ?_) ?_
   ·rintro k H H' ⟨⟨d1,q1⟩,⟨d2,q2⟩⟩ hk
    exact⟨⟨d1,(hk 4 cY).trans q1⟩,⟨d2,(hk 1 cY).trans q2⟩⟩
   ·intro l hl k H n hk hn ⟨q1,⟨d2,q2⟩⟩
    simp only[hl,Option.getD_some] at q1 ⊢
    obtain⟨hf,hlm,_⟩:=l8 hu hr (by omega) hl
    refine(EN hf (by omega) hw hk (by omega) (by omega) (by omega) q1 ⟨d2,q2⟩).mono ?_
    rintro _ H' n' ⟨p1,p2,p3⟩
    exact⟨⟨p1,⟨d2,(p3 1 (by omega) (by omega)).trans q2⟩⟩,p2,fun y y1 y2=>p3 y y2 (by omega)⟩
   rintro r H' n' ⟨hn,hA⟩
   revert hA
   cases fS u most.toNat with
   |none=>
    rintro⟨rfl,hk⟩
    have r8:bd H' 4=some (.row 4 1 (fH false [.bool false]) [bl false]):=(hk 4 cY).trans bg
    refine cM ?_
    exact⟨rfl⟩
   |some l=>
    rintro⟨rfl,⟨d1,q1⟩,_⟩
    simp only[Option.getD_some] at q1
    cases hs:fZ l want l.length with
    |true=>
     rw[hs] at q1
     refine cM ?_
     exact⟨by simp only[hs];rfl⟩
    |false=>
     rw[hs] at q1
     refine cM ?_
     exact⟨by simp only[hs];rfl⟩
  ·rw[gn hr hm]
   refine cM ?_
   refine aJ (kJ u hu hr most hm _ [.pt 4 1 0 0, .pt 1 1 0 0] _ _) ?_
   rintro r H' n' ⟨rfl,hn,hk⟩
   have r8:bd H' 4=some (.row 4 1 (fH false [.bool false]) [bl false]):=(hk 4 cY).trans bg
   refine cM ?_
   exact⟨rfl⟩
 ·rw[ji hr]
  refine cM ?_
  refine aJ (nq u hu hr most _ [.pt 4 1 0 0, .pt 1 1 0 0] _ _) ?_
  rintro r H' n' ⟨rfl,hn,hk⟩
  have r8:bd H' 4=some (.row 4 1 (fH false [.bool false]) [bl false]):=(hk 4 cY).trans bg
  refine cM ?_
  exact⟨rfl⟩
end Go.Proofs.YtekfmjjmihomlaaGreat
end
