import Derived.Test.YtekfmjjmihomlaaGreatM32
import Derived.Test.YtekfmjjmihomlaaGreatM33
import Derived.Test.YtekfmjjmihomlaaGreatM34
import Derived.Lib.ItoaLen
import Derived.Test.YtekfmjjmihomlaaGreatM30
section
/- A machine in rows told by value, within a list of what was found. -/
namespace Go.Proofs.YtekfmjjmihomlaaGreat
open Go Go.cO Go.Proofs
set_option linter.unusedSimpArgs false
set_option linter.unusedVariables false
set_option maxRecDepth 8000
def jH (S:List Nat) (H:Hp):Hp:=S.map fun y=>(y,bd H y)
theorem vK {S:List Nat} {H:Hp} {y:Nat} (h:y∈S):bd (jH S H) y=bd H y:=by
 induction S with
 |nil=>cases h
 |cons x S ih=>
  rw[jH,List.map_cons]
  by_cases e:y=x
  ·subst e;exact cV _ _ _
  ·rw[cF e]
   exact ih (by simpa[e] using h)
theorem qx {S:List Nat} {H:Hp} {y:Nat} {q:dv} (h:bd (jH S H) y=some q):bd H y=some q:=by
 have:y∈S:=by
  have:=kT h
  simpa[jH] using this
 rw[vK this] at h;exact h
theorem dN {S:List Nat} {H H2:Hp} {y:Nat} (h:y∉S):bd (j8 (jH S H) H2) y=bd H2 y:=ec (by simpa[jH] using h)
section
variable {u:bf} {m:MS} {L:ML} {H:Hp}
theorem ML.At.pz (h:L.At u m H) (k:Nat):Go.cO.fx (jH L.all H) (k+4) (.pt L.mr 1 0 0)=m.fz u:=by
 have h:=h.cE (H':=jH L.all H) fun y hy=>vK hy
 generalize jH L.all H=G at *
 obtain⟨d1,h1⟩:=h.rM
 obtain⟨d2,h2⟩:=h.rA
 obtain⟨d3,h3⟩:=h.rS
 obtain⟨d4,h4⟩:=h.rE
 obtain⟨d5,h5⟩:=h.rH
 obtain⟨d6,h6⟩:=h.rP
 have hsl:(dh L.ids m.bj).length=m.bj.length:=qv h.len
 have hs:(dh L.ids m.bj).map (Go.cO.fx G (k+1))=m.bj.map cr:=by
  apply List.ext_getElem (by simp[hsl])
  intro t q1 q2
  have ht:t<m.bj.length:=by simpa using q2
  have hti:t<L.ids.length:=by rw[h.len];exact ht
  obtain⟨d,hd⟩:=h.rL t ht
  rw[show L.ids.getD t 0=L.ids[t] by simp[List.getD,hti],show m.bj.getD t []=m.bj[t] by simp[List.getD,ht]] at hd
  rw[List.getElem_map,List.getElem_map]
  simp only[dh,List.getElem_map,List.getElem_zip]
  rw[kU hd (by simp),ez _ ((bz _ _).2 fun _ _=>by simp[bx])]
 rw[show Go.cO.fx G (k+4) (.pt L.mr 1 0 0)= .ip 8 .any ([m.rows u L.a L.s L.me L.ho L.pr].map (Go.cO.fx G (k+3))) 0 0 from FO h1 rfl]
 simp only[List.map_cons,List.map_nil,MS.rows]
 rw[tf]
 simp only[List.map_cons,List.map_nil]
 rw[kU h2 (by simp),kU h3 hsl,kU h4 (by simp),kU h5 (by simp),kU h6 (by simp),hs]
 rw[ez _ ((bz _ _).2 fun _ _=>by simp[bx]),ez _ ((bz _ _).2 fun _ _=>by simp[bx]),ez _ ((bz _ _).2 fun _ _=>by simp[bx]),ez _ ((bz _ _).2 fun _ _=>by simp[bx])]
 rw[jB _ (show bx 0 (cY u.shared) by simp[bx,bz]),jB _ (show bx 0 (cY u.cB) by simp[bx,bz]),jB _ (show bx 0 (dV u.bk) by simp[bx,bz])]
 rfl
end
def cA.cells (u:bf) (f:cA):List AV:=[f.m.fz u,i64 f.from_,i64 f.cR]
abbrev cA.av (u:bf) (f:cA):AV:= .agg (f.cells u)
abbrev gv (u:bf) (l:List cA):AV:= .im 3 .any (l.map (cA.av u))
@[simp] theorem zG (n:Nat) (u:bf) (f:cA):cN n (f.cells u):=by
  have:=mq n u f.m
  simp[cA.cells,cN,bx]
theorem wA (u:bf) (l:List cA):cN 0 (l.map (cA.av u)):=(bz _ _).2 fun _ _=>by simp only[cA.av,bx];exact zG _ _ _
theorem qa {u:bf} {m:MS} {L:ML} {H:Hp} {lb nx:Nat} {d:AV} {l:List cA} {fr th:Int} (hM:L.At u m H) (hl:bd H lb=some (.row 75 3 d (l.map (cA.av u)++[.agg [.pt L.mr 1 0 0,i64 fr,i64 th]]))) (hlb:lb∉L.all):
 Wk .any H nx .any (j8 (jH L.all H) ((lb,some (.row 75 3 .any ((l++[(⟨m,fr,th⟩:cA)]).map (cA.av u))))::H)) nx:=by
 have:=Wk.fx (nx:=nx) (jH L.all H) 5 .any hl (fun b q hq=>qx hq)
 rw[List.map_append,ez _ (wA u l),List.map_cons,List.map_nil,tf,List.map_cons,List.map_cons,List.map_cons,List.map_nil,hM.pz 0,jB _ (show bx 0 (i64 fr) by simp[bx]),jB _ (show bx 0 (i64 th) by simp[bx])] at this
 rw[List.map_append]
 exact this
end Go.Proofs.YtekfmjjmihomlaaGreat
end
section
/- Keys are short, and tell situations apart as texts do. -/
namespace Go.Proofs.YtekfmjjmihomlaaGreat
open Go Go.cO Go.Proofs
set_option linter.unusedSimpArgs false
set_option linter.unusedVariables false
theorem kR {α:Type} (f:α→List UInt8) (k:Nat):∀l:List α,(∀a∈l,(f a).length≤k)→(l.flatMap f).length≤l.length * k
 |[],_=>by simp
 |a::l,h=>by
  have h1:=kR f k l fun b hb=>h b (by simp[hb])
  have h2:=h a (by simp)
  rw[List.flatMap_cons,List.length_append,List.length_cons,Nat.add_mul]
  omega
theorem kZ {x:Int} (e:List UInt8) (h:di x):(eB x e).length≤21+e.length:=by
 have:=Go.Lib.itoa_length_le x h.1 (by have:=h.2;omega)
 unfold eB
 rw[List.length_append]
 omega
theorem eG.JK {u:bf} {m:MS} (hr:ch u) (h:eG u m):(fb m).length≤100000000+m.bh.length * 50:=by
 have hf:=hr.AP
 have hal:=h.nz
 have hml:=h.ml
 have hhl:=h.hl
 have hn:∀t,t<u.bk.length→(u.gr t).nodes.length≤4096∧(u.gr t).bj≤4160:=fun t ht=>⟨(hr.gr ht).len.2,(hr.gr ht).bj.2⟩
 have h1:((List.range m.at_.length).flatMap (sZ m)).length≤(List.range m.at_.length).length * 100000:=by
  refine kR _ _ _ fun t ht=> ?_
  have ht:=List.mem_range.1 ht
  have hat:=h.gE t (by omega)
  obtain⟨n1,n2⟩:=hn t (by omega)
  have hs:=h.xC t (by omega)
  have a1:=kZ (x:=m.at_.getD t 0) [44] ⟨by omega,by omega⟩
  have a2:=kR (fun w=>eB w [44]) 22 (m.bj.getD t []) fun w hw=>kZ [44] (h.xD t (by omega) w hw)
  have e:(sZ m t).length=(eB (m.at_.getD t 0) [44]).length+((m.bj.getD t []).flatMap (fun w=>eB w [44])).length+1:=by simp only[sZ,List.length_append,List.length_cons,List.length_nil]
  simp only[List.length_cons,List.length_nil] at a1
  rw[e]
  omega
 rw[List.length_range] at h1
 have h2:=kR (fun w=>eB w [44]) 22 m.mem fun w hw=>kZ [44] (h.mw w hw)
 have h3:=kR (fun w=>eB w [44]) 22 m.hold fun w hw=>kZ [44] (by have:=h.hw w hw;exact⟨by omega,by omega⟩)
 have h4:=kR zt 50 m.bh fun p hp=>by
  obtain⟨p1,p2,p3⟩:=h.pw p hp
  have a1:=kZ (x:=p.cR) [58] ⟨by omega,by omega⟩
  have a2:=kZ (x:=p.word) [44] p3
  simp only[List.length_cons,List.length_nil] at a1 a2
  unfold zt
  rw[List.length_append]
  omega
 rw[sC]
 omega
theorem eG.MH {u:bf} {m:MS} (hr:ch u) (h:eG u m) (hp:m.bh.length≤1048576):NC m:=by
 have hf:=hr.AP
 refine⟨fun w hw=> ?_,by rw[h.sl,h.nz],fun l hl w hw=> ?_,h.mw,fun w hw=> ?_,fun p hp=> ?_, ?_⟩
 ·obtain⟨t,ht,rfl⟩:=List.mem_iff_getElem.1 hw
  have h1:=h.gE t (by rw[←h.nz];exact ht)
  have h2:=(hr.gr (t:=t) (by rw[←h.nz];exact ht)).len.2
  rw[show m.at_.getD t 0=m.at_[t] by simp[List.getD,ht]] at h1
  exact⟨by omega,by omega⟩
 ·obtain⟨t,ht,rfl⟩:=List.mem_iff_getElem.1 hl
  have:=h.xD t (by rw[←h.sl];exact ht) w
  rw[show m.bj.getD t []=m.bj[t] by simp[List.getD,ht]] at this
  exact this hw
 ·have:=h.hw w hw
  exact⟨by omega,by omega⟩
 ·obtain⟨p1,p2,p3⟩:=h.pw p hp
  exact⟨⟨by omega,by omega⟩,p3⟩
 ·have:=h.JK hr
  omega
theorem HY {a b:List UInt8} (h:jL a=jL b):a=b:=by
 have:=congrArg (fun x:ByteArray=>x.data.toList) h
 simpa[jL] using this
abbrev gz (l:List cA):List (ByteArray×Int):=l.map fun f=>(jL (fb f.m),1)
abbrev lM (l:List cA):List AV:=nF (fun s:ByteArray=>Value.string s) i64 (gz l)
theorem pH (l:List cA) (k:List UInt8):eA (gz l) (jL k)=if k∈gy l then some 1 else none:=by
 split
 ·rename_i h
  cases hl:eA (gz l) (jL k) with
  |none=>
   exfalso
   refine(nC _ _).1 hl ?_
   rw[List.map_map]
   obtain⟨f,h1,h2⟩:=List.mem_map.1 h
   exact List.mem_map.2 ⟨f,h1,by simp only[Function.comp];rw[h2]⟩
  |some v=>
   have hv:∀(l:List cA),eA (gz l) (jL k)=some v→v=1:=by
    intro l
    induction l with
    |nil=>intro h;cases h
    |cons f l ih=>
     intro h
     rw[gz,List.map_cons,eA] at h
     split at h
     ·cases h;rfl
     ·exact ih h
   rw[hv l hl]
 ·rename_i h
  refine(nC _ _).2 fun hm=>h ?_
  rw[List.map_map] at hm
  obtain⟨f,h1,h2⟩:=List.mem_map.1 hm
  simp only[Function.comp] at h2
  exact List.mem_map.2 ⟨f,h1,HY h2⟩
theorem za {l:List cA} {m:MS} {a b:Int} (h:fb m∉gy l):gT (gz l) (jL (fb m)) 1=gz (l++[⟨m,a,b⟩]):=by
 have key:∀E:List (ByteArray×Int),eA E (jL (fb m))=none→gT E (jL (fb m)) 1=E++[(jL (fb m),1)]:=by
  intro E
  induction E with
  |nil=>intro _;rfl
  |cons p E ih=>
   intro hn
   obtain⟨x,y⟩:=p
   rw[eA] at hn
   rw[gT]
   split at hn
   ·cases hn
   ·rename_i hx
    rw[if_neg hx,ih hn];rfl
 rw[key _ (by rw[pH,if_neg h]),gz,gz,List.map_append];rfl
end Go.Proofs.YtekfmjjmihomlaaGreat
end
section
/- All situations: the walk. -/
namespace Go.Proofs.YtekfmjjmihomlaaGreat
open Go Go.cO Go.Proofs
set_option linter.unusedSimpArgs false
set_option linter.unusedVariables false
set_option maxRecDepth 8000
theorem nw (u:bf) (hu:u.Wf) (hr:¬ch u) (most:Int) (g:Nat) (caps:List AV) (H0:Hp) (nx:Nat):cD Tryz.prog 32 [u.av,i64 most, .fn (.func g) [] caps] H0 nx (fun r H n=>r= .dc [i64 0,i64 60]∧nx≤n∧∀y,y<nx→bd H y=bd H0 y):=by
 have c0:=GW u hu hr
 refine aQ wO rfl ?_
 refine cM ?_
 exact⟨⟨rfl,cW,fun y hy=>bq⟩⟩
theorem kK (u:bf) (hu:u.Wf) (hr:ch u) (most:Int) (hm:¬(1≤most∧most≤65536)) (g:Nat) (caps:List AV) (H0:Hp) (nx:Nat):cD Tryz.prog 32 [u.av,i64 most, .fn (.func g) [] caps] H0 nx (fun r H n=>r= .dc [i64 0,i64 2]∧nx≤n∧∀y,y<nx→bd H y=bd H0 y):=by
 refine aQ wO rfl ?_
 refine cM ?_
 refine aJ (mD u hu hr _ _) ?_
 rintro r H1 n1 ⟨L,rfl,hM,hlt,hn1,hk1⟩
 by_cases h1:most<1
 ·refine cM ?_
  exact⟨⟨rfl,cW,fun y hy=>Eq.trans bq ((hk1 y cW).trans bq)⟩⟩
 ·have h2:65536<most:=by omega
  refine cM ?_
  exact⟨⟨rfl,cW,fun y hy=>Eq.trans bq ((hk1 y cW).trans bq)⟩⟩
theorem vl (u:bf) (hr:ch u) (m:MS) (h:eG u m) (hp:m.bh.length≤1048576) (H0:Hp) (nx:Nat):cD Tryz.prog 65 [m.fz u] H0 nx (fun r H n=>∃L:ML,r= .pt L.mr 1 0 0∧L.At u m H∧(∀x∈L.all,nx≤x∧x<n)∧nx≤n∧∀y,y<nx→bd H y=bd H0 y):=by
 have hgl:=hr.AP
 refine(vm u m (by have:=h.nz;omega) (by have:=h.ml;omega) (by have:=h.hl;omega) hp (by have:=h.sl;omega) (fun x hx=> ?_) H0 nx).mono ?_
 ·obtain⟨s,hs,rfl⟩:=List.mem_iff_getElem.1 hx
  have h1:=h.xC s (by rw[←h.sl];exact hs)
  have h2:=(hr.gr (t:=s) (by rw[←h.sl];exact hs)).bj.2
  rw[show m.bj.getD s []=m.bj[s] by simp[List.getD,hs]] at h1
  omega
 ·rintro r H n ⟨mr,a,s,me,ho,pr,ids,rfl,h1,h2,h3,h4⟩
  exact⟨⟨mr,a,s,me,ho,pr,ids⟩,rfl,h1,h2,h3,h4⟩
def ET (u:bf) (most:Int) (I:Nat→Hp→Prop) (nx:Nat) (H0:Hp) (r:AV) (H:Hp) (n:Nat):Prop:=
 nx≤n∧match ft u most.toNat with
 |none=>r= .dc [i64 0,i64 3]∧∀y,y<nx→bd H y=bd H0 y
 |some l=>r= .dc [i64 l.length,i64 0]∧I l.length H
set_option maxHeartbeats 4000000 in
theorem l9 (u:bf) (hu:u.Wf) (hr:ch u) (most:Int) (hm:1≤most∧most≤65536) (g:Nat) (caps:List AV) (H0:Hp) (nx:Nat) (I:Nat→Hp→Prop) (hI0:I 0 H0) (hst:∀k H H',I k H→(∀y,y<nx→bd H' y=bd H y)→I k H')
 (hcl:∀l,ft u most.toNat=some l→∀k H n,k<l.length→nx≤n→I k H→cD Tryz.prog g ([gv u l,i64 k]++caps) H n (fun _ H' n'=>I (k+1) H'∧n≤n'∧∀y,nx≤y→y<n→bd H' y=bd H y)):
 cD Tryz.prog 32 [u.av,i64 most, .fn (.func g) [] caps] H0 nx (ET u most I nx H0):=by
 obtain⟨mo,rfl⟩:∃mo:Nat,most=mo:=⟨most.toNat,by omega⟩
 have hgl:=hr.AP
 unfold ET
 rw[Int.toNat_natCast] at hcl ⊢
 refine aQ wO rfl ?_
 refine cM ?_
 refine aJ (mD u hu hr _ _) ?_
 rintro r H1 n1 ⟨L,rfl,hM,hlt,hn1,hk1⟩
 have hF:=fm.init u hu hr
 have hm0:=(hF.ok 0 hF.pos).1
 have hm0':(List.getD (iW u) 0 default).m=dK u:=rfl
 rw[hm0'] at hm0
 have g0:ui true (Value.string (jL (fb (dK u)))) [] (i64 1)=some (lM (iW u)):=rfl
 have h65:(65536:Int)<mo→False:=by omega
 refine cM ?_
 refine aT (sB u (dK u) (hm0.MH hr (by simp[dK]))) (args2:=[(dK u).fz u]) ?_ (by simp[cN,mq]) trivial ?_
 ·rw[List.map_cons,List.map_nil]
  congr 1
  exact(hM.cE fun y hy=>by have:=hlt y hy;exact bq).zJ 2
 refine cM ?_
 have hno:∀y,y<nx+1∨n1≤y→y∉L.all:=fun y hy hm=>by have:=hlt y hm;omega
 refine aU (fun σ:Nat×List cA=>[(1,i64 mo),(2, .fn (.func g) [] caps),(3, .pt nx 1 0 0),(10, .sl (n1+15) σ.2.length),(11, .mp (n1+17)),(12,i64 σ.1)])
  (fun σ H n=>σ.1≤σ.2.length∧σ.2.length≤mo∧fm u σ.2∧si u mo (mo - σ.1) σ.1 σ.2=ft u mo∧n1+23≤n∧(∃d,bd H nx=some (.row 25 3 d [u.av]))∧(∃d,bd H (n1+15)=some (.row 75 3 d (σ.2.map (cA.av u))))∧(∃e d,bd H (n1+17)=some (.row e 0 d (mapA (lM σ.2))))∧∀y,y<nx→bd H y=bd H0 y) (fun σ=>mo - σ.1) (0,iW u)
  ⟨_,_,_,Rt.wk (qa (lb:=n1+15) (l:=[]) (fr:=-1) (th:=0) (hM.cE ?_) bg (hno _ (by omega))),cJ,Nat.zero_le _,by show 1≤mo;omega,hF,rfl,cW,⟨_,(dN (hno _ (by omega))).trans (Eq.trans bq ((hk1 nx (by omega)).trans bg))⟩,⟨_,(dN (hno _ (by omega))).trans bg⟩,⟨_,_,(dN (hno _ (by omega))).trans bg⟩,fun y hy=>(dN (hno _ (by omega))).trans (Eq.trans bq ((hk1 y cW).trans bq))⟩ ?_
 ·intro y hy
  have:=hlt y hy
  exact bq
 clear hM hlt hk1 hno
 rintro⟨k,l⟩ H n ⟨hk,hl,hfs,hall,hn,⟨d0,r0'⟩,⟨d1,r1'⟩,⟨e2,d2,r2'⟩,hkp⟩
 dsimp only at hk hl hfs hall r1' r2' ⊢
 by_cases hkl:k<l.length
 ·have e0:∀d,(l.map (cA.av u)).getD ((k:Int)).toNat d=(l.getD k default).av u:=fun d=>by rw[Int.toNat_natCast];exact dJ (cA.av u) l k d hkl
  have a0:(l.map (cA.av u)).length=l.length:=by simp
  have hgeq:∀l':List cA,l<+:l'→l'.getD k default=l.getD k default:=fun l' ⟨q,hq⟩=>by rw[←hq];simp[List.getD,List.getElem?_append,hkl]
  have hmk:mo - k=(mo - (k+1))+1:=by omega
  rw[hmk,si,if_pos hkl] at hall
  obtain⟨hmok,hpl⟩:=hfs.ok k hkl
  have hmdef:(l.getD k default).m=(l.getD k default).m:=rfl
  generalize hmm:(l.getD k default).m=m at hmok hpl
  have e0':∀d,(l.map (cA.av u)).getD ((k:Int)).toNat d= .agg [m.fz u,i64 (l.getD k default).from_,i64 (l.getD k default).cR]:=fun d=>by rw[e0 d,←hmm];rfl
  clear e0
  have e0:=e0'
  refine cM ?_
  rw[List.length_map]
  refine aU (fun σ:Nat×List cA=>[(1,i64 mo),(2, .fn (.func g) [] caps),(3, .pt nx 1 0 0),(10, .sl (n1+15) σ.2.length),(11, .mp (n1+17)),(12,i64 k),(13,m.fz u),(52,i64 u.bk.length),(53,i64 σ.1)])
   (fun σ H n=>σ.1≤u.bk.length∧k<σ.2.length∧σ.2.length≤mo∧fm u σ.2∧(σ.2.getD k default).m=m∧(match wv u mo k ((List.range u.bk.length).drop σ.1) σ.2 with
    |none=>none
    |some l2=>si u mo (mo - (k+1)) (k+1) l2)=ft u mo∧n1+23≤n∧(∃d,bd H nx=some (.row 25 3 d [u.av]))∧(∃d,bd H (n1+15)=some (.row 75 3 d (σ.2.map (cA.av u))))∧(∃e d,bd H (n1+17)=some (.row e 0 d (mapA (lM σ.2))))∧∀y,y<nx→bd H y=bd H0 y) (fun σ=>u.bk.length - σ.1) (0,l)
   ⟨_,_,_,Rt.refl _ _ _,cJ,Nat.zero_le _,hkl,hl,hfs,hmm,hall,cW,⟨_,bg⟩,⟨_,bg⟩,⟨_,_,bg⟩,fun y hy=>Eq.trans bq (hkp y hy)⟩ ?_
  clear e0 e0' a0 r0' r1' r2' hkp hall hfs hl hkl hgeq hn hmm
  rintro⟨t,l⟩ H n ⟨ht,hkl,hl,hfs,hmm,hall,hn,⟨d0,r0'⟩,⟨d1,r1'⟩,⟨e2,d2,r2'⟩,hkp⟩
  dsimp only at ht hkl hl hfs hmm hall r1' r2' ⊢
  have a0:(l.map (cA.av u)).length=l.length:=by simp
  by_cases htl:t<u.bk.length
  ·rw[show(List.range u.bk.length).drop t=t::(List.range u.bk.length).drop (t+1) by rw[List.drop_eq_getElem_cons (by simpa using htl)];simp,wv] at hall
   have c0:=rZ u hr m hmok t
   by_cases hb:m.pj u t=0
   ·have hal:=hmok.nz
    refine cM ?_
    refine aJ (vl u hr m hmok (by omega) _ _) ?_
    rintro r H2 n2 ⟨L2,rfl,hM2,hlt2,hn2,hk2⟩
    have hlt2:∀x∈L2.all,n+7≤x∧x<n2:=hlt2
    refine cM ?_
    refine aJ (nL hu hr hmok (L:=L2) (hM2.cE ?_) ?_ (by omega) htl hb) ?_
    ·intro y hy
     have:=hlt2 y hy
     exact bq
    ·intro y hy
     have:=hlt2 y hy
     exact cW
    rintro r H3 n3 ⟨rfl,hM3,hn3,hk3⟩
    have hno:∀y,y<n+7∨n2≤y→y∉L2.all:=fun y hy hm=>by have:=hlt2 y hm;omega
    have hold:∀y,y<n→bd H3 y=bd H y:=fun y hy=>(hk3 y cW (hno y (by omega))).trans (Eq.trans bq ((hk2 y cW).trans bq))
    have hlt3:∀x∈L2.all,x<n3:=fun x hx=>by have:=hlt2 x hx;exact Nat.lt_of_lt_of_le this.2 cW
    obtain⟨hk9,_⟩:=oZ hmok htl hb
    have hm2:=yc hu hr hmok htl hk9
    have hp2:=nf u m t
    have htry:xK u mo k t l=if fb (m.step u t).1∈gy l then some l else if l.length=mo then none else some (l++[⟨(m.step u t).1,k,t⟩]):=by
     unfold xK
     rw[hmm,if_neg (by omega)]
    rw[htry] at hall
    have hput:=fun(h:fb (m.step u t).1∉gy l)=>za (l:=l) (m:=(m.step u t).1) (a:=k) (b:=t) h
    have hadd:=fun(h:fb (m.step u t).1∉gy l)=>hfs.add hu hr hkl htl (by rw[hmm];exact hb) (by rw[hmm];exact h)
    rw[hmm] at hadd
    generalize (m.step u t).1=m2 at *
    have hkp3:∀y,y<nx→bd H3 y=bd H0 y:=fun y hy=>(hold y (by omega)).trans (hkp y hy)
    have q0:=(hold nx (by omega)).trans r0'
    have q1:=(hold (n1+15) (by omega)).trans r1'
    have q2:=(hold (n1+17) (by omega)).trans r2'
    have hget:=wT sA i64 (jL (fb m2)) (gz l) (i64 0)
    rw[pH] at hget
    clear hk2 hk3 hM2 r0' r1' r2' hold hkp
    by_cases hin:fb m2∈gy l
    ·rw[if_pos hin] at hget hall
     have g0:sH true (Value.string (jL (fb m2))) (lM l) (i64 0)=some (i64 1,true):=hget
     refine cM ?_
     refine aT (sB u m2 (hm2.MH hr (by omega))) (args2:=[m2.fz u]) ?_ (by simp[cN,mq]) trivial ?_
     ·rw[List.map_cons,List.map_nil]
      congr 1
      exact(hM3.cE fun y hy=>by have:=hlt3 y hy;exact bq).zJ 2
     refine cM ?_
     exact⟨(t+1,l),by dsimp only;omega,_,_,_,Rt.refl _ _ _,cJ,by dsimp only;omega,hkl,hl,hfs,hmm,hall,cW,⟨_,bg⟩,⟨_,bg⟩,⟨_,_,bg⟩,fun y hy=>Eq.trans bq (hkp3 y hy)⟩
    ·rw[if_neg hin] at hget hall
     have g0:sH true (Value.string (jL (fb m2))) (lM l) (i64 0)=some (i64 0,false):=hget
     by_cases hfull:l.length=mo
     ·rw[if_pos hfull] at hall
      refine cM ?_
      refine aT (sB u m2 (hm2.MH hr (by omega))) (args2:=[m2.fz u]) ?_ (by simp[cN,mq]) trivial ?_
      ·rw[List.map_cons,List.map_nil]
       congr 1
       exact(hM3.cE fun y hy=>by have:=hlt3 y hy;exact bq).zJ 2
      refine cM ?_
      have hall2:none=ft u mo:=hall
      rw[←hall2]
      exact⟨⟨cW,rfl,fun y hy=>Eq.trans bq (hkp3 y hy)⟩⟩
     ·rw[if_neg hfull] at hall
      have g1:ui true (Value.string (jL (fb m2))) (lM l) (i64 1)=some (lM (l++[⟨m2,k,t⟩])):=by
       have:=wU sA i64 (jL (fb m2)) 1 (gz l)
       rw[hput hin] at this
       exact this
      refine cM ?_
      refine aT (sB u m2 (hm2.MH hr (by omega))) (args2:=[m2.fz u]) ?_ (by simp[cN,mq]) trivial ?_
      ·rw[List.map_cons,List.map_nil]
       congr 1
       exact(hM3.cE fun y hy=>by have:=hlt3 y hy;exact bq).zJ 2
      refine cM ?_
      have hout:=hno
      refine⟨(t+1,l++[⟨m2,k,t⟩]),by dsimp only;omega,_,_,_,Rt.wk (qa (L:=L2) (lb:=n1+15) (m:=m2) (l:=l) (fr:=k) (th:=t) (hM3.cE ?_) bg (hno _ (by omega))),cJ,by dsimp only;omega,by dsimp only;rw[List.length_append];omega,by dsimp only;simp only[List.length_append,List.length_cons,List.length_nil];omega,hadd hin,by dsimp only;rw[ep hkl];exact hmm,hall,cW,⟨_,(dN (hno _ (by omega))).trans bg⟩,⟨_,(dN (hno _ (by omega))).trans bg⟩,⟨_,_,(dN (hno _ (by omega))).trans bg⟩,fun y hy=>(dN (hno _ (by omega))).trans (Eq.trans bq (hkp3 y hy))⟩
      intro y hy
      have:=hlt2 y hy
      have:=hlt3 y hy
      exact bq
   ·have htry:xK u mo k t l=some l:=by
     unfold xK
     rw[hmm,if_pos hb]
    rw[htry] at hall
    refine cM ?_
    exact⟨(t+1,l),by dsimp only;omega,_,_,_,Rt.refl _ _ _,cJ,by dsimp only;omega,hkl,hl,hfs,hmm,hall,cW,⟨_,bg⟩,⟨_,bg⟩,⟨_,_,bg⟩,fun y hy=>Eq.trans bq (hkp y hy)⟩
  ·have htG:t=u.bk.length:=by omega
   subst htG
   rw[List.drop_of_length_le (by simp),wv] at hall
   refine cM ?_
   exact⟨(k+1,l),by dsimp only;omega,_,_,_,Rt.refl _ _ _,cJ,by dsimp only;omega,hl,hfs,hall,cW,⟨_,bg⟩,⟨_,bg⟩,⟨_,_,bg⟩,fun y hy=>Eq.trans bq (hkp y hy)⟩
 ·have hk2:k=l.length:=by omega
  refine cM ?_
  have hl2:ft u mo=some l:=by
   rw[←hall]
   subst hk2
   cases h:mo - l.length with
   |zero=>rfl
   |succ q=>rw[si,if_neg (by omega)]
  have hw:=fun(H':Hp) (n':Nat) (hr:bd H' (n1+15)=some (.row 75 3 d1 (l.map (cA.av u))))=>Wk.K3 (r:= .sl (n1+15) l.length) (H:=H') (nx:=n') [(n1+15,some (.row 75 3 d1 (l.map (cA.av u))))] 1 (fun b q hq=>by
   by_cases hb:b=n1+15
   ·subst hb;rw[cV] at hq;rw[←hq];exact hr
   ·rw[cF hb] at hq;cases hq)
  rw[CA (cV _ _ _) (by simp),pC] at hw
  rw[hl2]
  refine aU (fun i:Nat=>[(2, .fn (.func g) [] caps),(10,gv u l),(86,i64 l.length),(87,i64 i)])
   (fun i H n=>i≤l.length∧nx≤n∧I i H) (fun i=>l.length - i) 0
   ⟨_,_,_,Rt.slot 10 rfl (hw _ _ bg),cJ,Nat.zero_le _,cW,hst 0 _ _ hI0 fun y hy=>(cF (by omega)).trans (Eq.trans bq (hkp y hy))⟩ ?_
  clear r0' r1' r2' hkp hw hn
  rintro i H n ⟨hi,hn,hI⟩
  by_cases hil:i<l.length
  ·refine cM ?_
   refine Eq.mpr (fw caps _) ?_
   show gB Tryz.prog g (gv u l::i64 i::caps) _ _ _
   refine aJ (hcl l hl2 i _ _ hil cW (hst i H _ hI fun y hy=>bq)) ?_
   rintro _ H2 n2 ⟨hI2,hn2,_⟩
   refine cM ?_
   exact⟨i+1,by omega,_,_,_,Rt.refl _ _ _,cJ,by omega,cW,hst _ _ _ hI2 fun y hy=>bq⟩
  ·obtain rfl:i=l.length:=by omega
   refine cM ?_
   exact⟨⟨cW,by rw[List.length_map],hst _ _ _ hI fun y hy=>bq⟩⟩
end Go.Proofs.YtekfmjjmihomlaaGreat
end
section
/- Ends compared: the code's Compare and Same. -/
namespace Go.Proofs.YtekfmjjmihomlaaGreat
open Go Go.cO Go.Proofs
set_option linter.unusedSimpArgs false
set_option linter.unusedVariables false
theorem yw (p q:cL):Pure Tryz.prog 46 [p.av,q.av] (fun r=>r=i64 (ew p q)):=by
 have c0:=BE p.cR q.cR
 have c1:=qQ p.word q.word
 have c2:=yZ [eH p.cR q.cR,eH p.word q.word] (by simp)
 refine aI CX rfl ?_
 refine cM ?_
 refine aT (args2:=[cr [eH p.cR q.cR,eH p.word q.word]]) (r:=i64 (ew p q)) c2 rfl (by simp[cN,bx]) trivial ?_
 refine cM ?_
 first|exact rfl|trivial
theorem gm {l:List cL} {i:Nat} (h:i<l.length) (d:AV):(l.map cL.av).getD ((i:Int)).toNat d=(l.getD i default).av:=by
 rw[Int.toNat_natCast];exact dJ cL.av l i d h
theorem vk (a b:List cL) (ha:a.length<9223372036854775807):Pure Tryz.prog 45 [dH a,dH b, .fn (.func 46) [] []] (fun r=>r=i64 (eD ew a b)):=by
 refine aI CW rfl ?_
 refine cM ?_
 rw[List.length_map]
 refine aR (fun i:Nat=>[(0,dH a),(1,dH b),(2, .fn (.func 46) [] []),(11,dH a),(12,i64 a.length),(13,i64 i)]) (fun i H n=>i≤a.length∧i≤b.length∧eD ew a b=eD ew (a.drop i) (b.drop i)) (fun i=>a.length - i) 0 cJ ⟨Nat.zero_le _,Nat.zero_le _,rfl⟩ ?_
 rintro i H n ⟨hi,hib,ho⟩
 rw[ho]
 have a0:(a.map cL.av).length=a.length:=by simp
 have a1:(b.map cL.av).length=b.length:=by simp
 by_cases hil:i<a.length
 ·have e0:=fun d=>gm hil d
  by_cases hbl:i<b.length
  ·have e1:=fun d=>gm hbl d
   have hd:=oB ew default hil hbl
   have c0:=yw (a.getD i default) (b.getD i default)
   generalize a.getD i default=p at *
   generalize b.getD i default=q at *
   by_cases hz:ew p q=0
   ·have r0:=hz
    rw[if_pos hz] at hd
    refine cM ?_
    exact⟨i+1,by omega,cJ,by omega,by omega,hd⟩
   ·have r0:=decide_eq_true hz
    rw[if_neg hz] at hd
    refine cM ?_
    rw[hd]
  ·rw[ll ew hil (by omega)]
   refine cM ?_
   first|exact rfl|trivial
 ·obtain rfl:i=a.length:=by omega
  rw[lj ew (Nat.le_refl _) hib]
  by_cases h:a.length<b.length
  ·rw[if_pos h]
   refine cM ?_
   first|exact rfl|trivial
  ·rw[if_neg h]
   refine cM ?_
   first|exact rfl|trivial
theorem vi (a b:List Int) (ha:a.length<9223372036854775807):Pure Tryz.prog 50 [cr a,cr b] (fun r=>r=i64 (eD eH a b)):=by
 refine aI CZ rfl ?_
 refine cM ?_
 rw[List.length_map]
 refine aR (fun i:Nat=>[(0,cr a),(1,cr b),(9,cr a),(10,i64 a.length),(11,i64 i)]) (fun i H n=>i≤a.length∧i≤b.length∧eD eH a b=eD eH (a.drop i) (b.drop i)) (fun i=>a.length - i) 0 cJ ⟨Nat.zero_le _,Nat.zero_le _,rfl⟩ ?_
 rintro i H n ⟨hi,hib,ho⟩
 rw[ho]
 have a0:(a.map i64).length=a.length:=by simp
 have a1:(b.map i64).length=b.length:=by simp
 by_cases hil:i<a.length
 ·have e0:=fun d=>eV hil d
  by_cases hbl:i<b.length
  ·have e1:=fun d=>eV hbl d
   have hd:=oB eH 0 hil hbl
   have c0:=qQ (a.getD i 0) (b.getD i 0)
   generalize a.getD i 0=p at *
   generalize b.getD i 0=q at *
   by_cases hz:eH p q=0
   ·have r0:=hz
    rw[if_pos hz] at hd
    refine cM ?_
    exact⟨i+1,by omega,cJ,by omega,by omega,hd⟩
   ·have r0:=decide_eq_true hz
    rw[if_neg hz] at hd
    refine cM ?_
    rw[hd]
  ·rw[ll eH hil (by omega)]
   refine cM ?_
   first|exact rfl|trivial
 ·obtain rfl:i=a.length:=by omega
  rw[lj eH (Nat.le_refl _) hib]
  by_cases h:a.length<b.length
  ·rw[if_pos h]
   refine cM ?_
   first|exact rfl|trivial
  ·rw[if_neg h]
   refine cM ?_
   first|exact rfl|trivial
theorem mi (a b:dD) (h1:a.bh.length<9223372036854775807) (h2:a.mem.length<9223372036854775807):Pure Tryz.prog 19 [a.av,b.av] (fun r=>r=i64 (dq a b)):=by
 have c0:=vk a.bh b.bh h1
 have c1:=vi a.mem b.mem h2
 have c2:=yZ [eD ew a.bh b.bh,eD eH a.mem b.mem,pq a.ended b.ended] (by simp)
 obtain⟨ap,am,ae⟩:=a
 obtain⟨bp,bm,be⟩:=b
 cases ae<;>cases be<;>(refine aI CK rfl ?_;refine cM ?_;refine aT (args2:=[cr [eD ew ap bp,eD eH am bm,_]]) (r:=i64 (j0 [eD ew ap bp,eD eH am bm,_])) c2 rfl (by simp[cN,bx]) trivial ?_;refine cM ?_;first|exact rfl|trivial)
theorem pW (a b:dD) (h1:a.bh.length<9223372036854775807) (h2:a.mem.length<9223372036854775807):Pure Tryz.prog 20 [a.av,b.av] (fun r=>r=bl (decide (dq a b=0))):=by
 have c0:=mi a b h1 h2
 refine aI CL rfl ?_
 refine cM ?_
 refine ee ?_
 simp
end Go.Proofs.YtekfmjjmihomlaaGreat
end
section
/- Ends compared: the document's Compare; the plain laws. -/
namespace Go.Proofs.YtekfmjjmihomlaaGreat
open Go Go.cO Go.Proofs
set_option linter.unusedSimpArgs false
set_option linter.unusedVariables false
theorem pR (b:Bool):Pure Tryz.prog 44 [bl b] (fun r=>r=i64 (if b then -1 else 1)):=by
 cases b<;>(refine aI CV rfl ?_;refine cM ?_;first|exact rfl|trivial)
theorem jE {x:Bool} {v:Int} (h:(if x=true then -1 else 1)=v):Pure Tryz.prog 44 [bl x] (fun r=>r=i64 v):=by
 have:=pR x
 rw[h] at this
 exact this
theorem FA {p q:cL} (h:p.cR<q.cR∨p.cR=q.cR∧p.word<q.word):ew p q=-1:=by
 unfold ew eH
 simp only[j0]
 repeat' (first|omega|split)
theorem E9 {p q:cL} (h:¬(p.cR<q.cR∨p.cR=q.cR∧p.word<q.word)) (hne:¬(p.cR=q.cR∧p.word=q.word)):ew p q=1:=by
 unfold ew eH
 simp only[j0]
 repeat' (first|omega|split)
theorem E8 {p q:cL} (h:p.cR=q.cR∧p.word=q.word):ew p q=0:=by
 unfold ew eH
 simp only[j0]
 repeat' (first|omega|split)
theorem E7 {x y:Int} (h:x≠y):eH x y=if x<y then -1 else 1:=by
 unfold eH;split
 ·rfl
 ·rw[if_pos (by omega)]
theorem xV (x:Int):eH x x=0:=by unfold eH;simp
set_option maxHeartbeats 1000000 in
theorem pU (a b:dD) (h1:a.bh.length<9223372036854775807) (h2:a.mem.length<9223372036854775807):Pure Tryz.prog 18 [a.av,b.av] (fun r=>r=i64 (dq a b)):=by
 have a0:(a.bh.map cL.av).length=a.bh.length:=by simp
 have a1:(b.bh.map cL.av).length=b.bh.length:=by simp
 have a2:(a.mem.map i64).length=a.mem.length:=by simp
 have a3:(b.mem.map i64).length=b.mem.length:=by simp
 refine aI CJ rfl ?_
 refine cM ?_
 refine aR (fun i:Nat=>[(2, .pt 0 1 0 0),(3, .pt 1 1 0 0),(5,i64 i)]) (fun i H n=>2≤n∧(∃d,bd H 0=some (.row 40 3 d [a.av]))∧(∃d,bd H 1=some (.row 40 3 d [b.av]))∧i≤a.bh.length∧i≤b.bh.length∧eD ew a.bh b.bh=eD ew (a.bh.drop i) (b.bh.drop i)) (fun i=>a.bh.length - i) 0 cJ ⟨cW,⟨_,bg⟩,⟨_,bg⟩,Nat.zero_le _,Nat.zero_le _,rfl⟩ ?_
 rintro i H n ⟨hn,⟨d0,r0⟩,⟨d1,r1⟩,hi,hib,ho⟩
 by_cases hil:i<a.bh.length
 ·have e0:=fun d=>gm hil d
  by_cases hbl:i<b.bh.length
  ·have e1:=fun d=>gm hbl d
   have hd:=oB ew default hil hbl
   generalize a.bh.getD i default=p at *
   generalize b.bh.getD i default=q at *
   have g0:=decide_eq_true hil
   have g1:=decide_eq_true hbl
   by_cases hlt:p.cR<q.cR∨p.cR=q.cR∧p.word<q.word
   ·have hc:=FA hlt
    have hE:dq a b=-1:=by unfold dq;rw[ho,hd,hc,if_neg (by decide),j0,if_neg (by decide)]
    rw[hE]
    by_cases h3:p.cR<q.cR
    ·refine cM ?_
     first|exact rfl|trivial
    ·obtain⟨h4,h5⟩:=hlt.resolve_left h3
     have g2:=decide_eq_true h4
     have g3:=decide_eq_true h5
     refine cM ?_
     first|exact rfl|trivial
   ·have g4:¬p.cR<q.cR:=fun e=>hlt (.inl e)
    by_cases heq:p.cR=q.cR∧p.word=q.word
    ·obtain⟨h4,h5⟩:=heq
     have hc:=E8 ⟨h4,h5⟩
     rw[hc,if_pos rfl] at hd
     have g5:¬p.word<q.word:=by omega
     refine cM ?_
     exact⟨i+1,by omega,cJ,by omega,⟨_,bg⟩,⟨_,bg⟩,by omega,by omega,ho.trans hd⟩
    ·have hc:=E9 hlt heq
     have hE:dq a b=1:=by unfold dq;rw[ho,hd,hc,if_neg (by decide),j0,if_neg (by decide)]
     rw[hE]
     refine cM ?_
     first|exact rfl|trivial
  ·have hE:dq a b=1:=by unfold dq;rw[ho,ll ew hil (by omega),j0,if_neg (by decide)]
   rw[hE]
   have hne:a.bh.length≠b.bh.length:=by omega
   have c0:=jE (x:=decide (((a.bh.map cL.av).length:Int)<((b.bh.map cL.av).length:Int))) (v:=1) (by rw[decide_eq_false (by omega)];rfl)
   refine cM ?_
   first|exact rfl|trivial
 ·obtain rfl:i=a.bh.length:=by omega
  rw[lj ew (Nat.le_refl _) hib] at ho
  by_cases hpl:a.bh.length<b.bh.length
  ·rw[if_pos hpl] at ho
   have hE:dq a b=-1:=by unfold dq;rw[ho,j0,if_neg (by decide)]
   rw[hE]
   have hne:a.bh.length≠b.bh.length:=by omega
   have c0:=jE (x:=decide (((a.bh.map cL.av).length:Int)<((b.bh.map cL.av).length:Int))) (v:=-1) (by rw[decide_eq_true (by omega)];rfl)
   refine cM ?_
   first|exact rfl|trivial
  ·rw[if_neg hpl] at ho
   have hpe:b.bh.length=a.bh.length:=by omega
   refine cM ?_
   refine aR (fun i:Nat=>[(2, .pt 0 1 0 0),(3, .pt 1 1 0 0),(8,i64 i)]) (fun i H n=>2≤n∧(∃d,bd H 0=some (.row 40 3 d [a.av]))∧(∃d,bd H 1=some (.row 40 3 d [b.av]))∧i≤a.mem.length∧i≤b.mem.length∧eD eH a.mem b.mem=eD eH (a.mem.drop i) (b.mem.drop i)) (fun i=>a.mem.length - i) 0 cJ ⟨cW,⟨_,bg⟩,⟨_,bg⟩,Nat.zero_le _,Nat.zero_le _,rfl⟩ ?_
   clear r0 r1 hn
   rintro i H n ⟨hn,⟨d0,r0⟩,⟨d1,r1⟩,hi,hib,hm⟩
   by_cases hil:i<a.mem.length
   ·have e0:=fun d=>eV hil d
    by_cases hbl:i<b.mem.length
    ·have e1:=fun d=>eV hbl d
     have hd:=oB eH 0 hil hbl
     generalize a.mem.getD i 0=p at *
     generalize b.mem.getD i 0=q at *
     have g0:=decide_eq_true hil
     have g1:=decide_eq_true hbl
     by_cases heq:p=q
     ·rw[heq,xV,if_pos rfl] at hd
      refine cM ?_
      exact⟨i+1,by omega,cJ,by omega,⟨_,bg⟩,⟨_,bg⟩,by omega,by omega,hm.trans hd⟩
     ·have hc:=E7 heq
      by_cases hlt:p<q
      ·rw[if_pos hlt] at hc
       have hE:dq a b=-1:=by unfold dq;rw[ho,hm,hd,hc,if_neg (by decide),j0,if_pos rfl,j0,if_neg (by decide)]
       rw[hE]
       have c0:=jE (x:=decide (p<q)) (v:=-1) (by rw[decide_eq_true hlt];rfl)
       refine cM ?_
       first|exact rfl|trivial
      ·rw[if_neg hlt] at hc
       have hE:dq a b=1:=by unfold dq;rw[ho,hm,hd,hc,if_neg (by decide),j0,if_pos rfl,j0,if_neg (by decide)]
       rw[hE]
       have c0:=jE (x:=decide (p<q)) (v:=1) (by rw[decide_eq_false hlt];rfl)
       refine cM ?_
       first|exact rfl|trivial
    ·have hE:dq a b=1:=by unfold dq;rw[ho,hm,ll eH hil (by omega),j0,if_pos rfl,j0,if_neg (by decide)]
     rw[hE]
     have hne:a.mem.length≠b.mem.length:=by omega
     have c0:=jE (x:=decide (((a.mem.map i64).length:Int)<((b.mem.map i64).length:Int))) (v:=1) (by rw[decide_eq_false (by omega)];rfl)
     refine cM ?_
     first|exact rfl|trivial
   ·obtain rfl:i=a.mem.length:=by omega
    rw[lj eH (Nat.le_refl _) hib] at hm
    by_cases hml:a.mem.length<b.mem.length
    ·rw[if_pos hml] at hm
     have hE:dq a b=-1:=by unfold dq;rw[ho,hm,j0,if_pos rfl,j0,if_neg (by decide)]
     rw[hE]
     have hne:a.mem.length≠b.mem.length:=by omega
     have c0:=jE (x:=decide (((a.mem.map i64).length:Int)<((b.mem.map i64).length:Int))) (v:=-1) (by rw[decide_eq_true (by omega)];rfl)
     refine cM ?_
     first|exact rfl|trivial
    ·rw[if_neg hml] at hm
     have hme:b.mem.length=a.mem.length:=by omega
     have hE:dq a b=pq a.ended b.ended:=by
      unfold dq;rw[ho,hm,j0,if_pos rfl,j0,if_pos rfl,j0]
      split<;>simp_all[j0]
     rw[hE]
     obtain⟨ap,am,ae⟩:=a
     obtain⟨bp,bm,be⟩:=b
     have c0:=pR be
     cases ae<;>cases be<;>(refine cM ?_;first|exact rfl|trivial)
end Go.Proofs.YtekfmjjmihomlaaGreat
end
section
/- Ends compared: the order's plain laws. -/
namespace Go.Proofs.YtekfmjjmihomlaaGreat
open Go Go.cO Go.Proofs
set_option linter.unusedSimpArgs false
set_option linter.unusedVariables false
theorem o9 (x y:Int):eH y x=-eH x y:=by
 unfold eH
 repeat' (first|omega|split)
theorem sK:∀l:List Int,j0 (l.map (-·))=-j0 l
 |[]=>rfl
 |x::l=>by
  simp only[List.map_cons,j0]
  by_cases h:x=0
  ·rw[if_pos (by omega),if_pos h];exact sK l
  ·rw[if_neg (by omega),if_neg h]
theorem BF (p q:cL):ew q p=-ew p q:=by
 unfold ew
 rw[←sK,o9 p.cR,o9 p.word];rfl
theorem oc {α:Type} {f:α→α→Int} (hf:∀x y,f y x=-f x y):∀a b:List α,eD f b a=-eD f a b
 |[],[]=>rfl
 |[],_::_=>rfl
 |_::_,[]=>rfl
 |x::a,y::b=>by
  rw[eD,eD,hf x y]
  by_cases h:f x y=0
  ·rw[if_pos (by omega),if_pos h];exact oc hf a b
  ·rw[if_neg (by omega),if_neg h]
theorem BC (a b:Bool):pq b a=-pq a b:=by cases a<;>cases b<;>rfl
theorem BD (a b:dD):dq b a=-dq a b:=by
 unfold dq
 rw[←sK,oc BF a.bh,oc o9 a.mem,BC a.ended];rfl
theorem uu {l:List Int}:j0 l=0↔∀x∈l,x=0:=by
 induction l with
 |nil=>simp[j0]
 |cons x l ih=>
  rw[j0]
  by_cases h:x=0
  ·rw[if_pos h,ih];simp[h]
  ·rw[if_neg h];simp[h]
theorem ir {x y:Int}:eH x y=0↔x=y:=by
 constructor
 ·unfold eH;intro h;revert h;repeat' (first|omega|split)
 ·rintro rfl;exact xV _
theorem mj {p q:cL}:ew p q=0↔p=q:=by
 unfold ew
 rw[uu]
 simp only[List.mem_cons,List.not_mem_nil,or_false,forall_eq_or_imp,forall_eq,ir]
 constructor
 ·rintro⟨h1,h2⟩;cases p;cases q;simp_all
 ·rintro rfl;exact⟨rfl,rfl⟩
theorem iu {α:Type} {f:α→α→Int} (hf:∀x y,f x y=0↔x=y):∀a b:List α,eD f a b=0↔a=b
 |[],[]=>by simp[eD]
 |[],_::_=>by simp[eD]
 |_::_,[]=>by simp[eD]
 |x::a,y::b=>by
  rw[eD]
  by_cases h:f x y=0
  ·rw[if_pos h,iu hf a b]
   have:=(hf x y).1 h
   simp[this]
  ·rw[if_neg h]
   have:x≠y:=fun e=>h ((hf x y).2 e)
   simp[h,this]
theorem qP {a b:dD}:dq a b=0↔a=b:=by
 unfold dq
 rw[uu]
 simp only[List.mem_cons,List.not_mem_nil,or_false,forall_eq_or_imp,forall_eq,iu (fun x y=>mj),iu (fun x y=>ir)]
 constructor
 ·rintro⟨h1,h2,h3⟩
  obtain⟨ap,am,ae⟩:=a
  obtain⟨bp,bm,be⟩:=b
  cases ae<;>cases be<;>simp_all[pq]
 ·rintro rfl
  exact⟨rfl,rfl,by cases a.ended<;>rfl⟩
end Go.Proofs.YtekfmjjmihomlaaGreat
end
section
/- Count; the closures that ends, ways and what is shown hand to the exploring. -/
namespace Go.Proofs.YtekfmjjmihomlaaGreat
open Go Go.cO Go.Proofs
set_option linter.unusedSimpArgs false
set_option linter.unusedVariables false
set_option maxRecDepth 8000
open Classical in
noncomputable def fZ (u:bf) (most:Int):Int×List cA:=
 if ¬ch u then(60,[]) else if ¬(1≤most∧most≤65536) then(2,[]) else match ft u most.toNat with
  |none=>(3,[])
  |some l=>(0,l)
theorem jj {u:bf} {most:Int} (h:¬ch u):fZ u most=(60,[]):=by unfold fZ;rw[if_pos h]
theorem gq {u:bf} {most:Int} (h:ch u) (hm:¬(1≤most∧most≤65536)):fZ u most=(2,[]):=by unfold fZ;rw[if_neg (fun e=>e h),if_pos hm]
theorem iI {u:bf} {most:Int} (h:ch u) (hm:1≤most∧most≤65536):fZ u most=(match ft u most.toNat with|none=>(3,[])|some l=>(0,l)):=by unfold fZ;rw[if_neg (fun e=>e h),if_neg (fun e=>e hm)]
theorem BH (a b:AV) (H:Hp) (nx:Nat):cD Tryz.prog 33 [a,b] H nx (fun r H' n=>H'=H∧n=nx):=by
 refine aQ CS rfl ?_
 refine cM ?_
 exact⟨⟨rfl,rfl⟩⟩
theorem vp (u:bf) (hu:u.Wf) (most:Int):Pure Tryz.prog 11 [u.av,i64 most] (fun r=>r= .dc [i64 (fZ u most).2.length,i64 (fZ u most).1]):=by
 refine eX ?_ (by simp[bx,cN])
 refine aQ CG rfl ?_
 by_cases hr:ch u
 ·by_cases hm:1≤most∧most≤65536
  ·rw[iI hr hm]
   refine cM ?_
   refine aJ (l9 u hu hr most hm _ [] _ _ (fun _ _=>True) trivial (fun _ _ _ _ _=>trivial) ?_) ?_
   ·intro l hl k H n hk hn _
    refine(BH _ _ H n).mono ?_
    rintro r H' n' ⟨rfl,rfl⟩
    exact⟨trivial,Nat.le_refl _,fun y _ _=>rfl⟩
   rintro r H' n' ⟨hn,hA⟩
   revert hA
   cases ft u most.toNat with
   |none=>
    rintro⟨rfl,_⟩
    refine cM ?_
    exact⟨rfl⟩
   |some l=>
    rintro⟨rfl,_⟩
    refine cM ?_
    exact⟨rfl⟩
  ·rw[gq hr hm]
   refine cM ?_
   refine aJ (kK u hu hr most hm _ [] _ _) ?_
   rintro r H' n' ⟨rfl,hn,_⟩
   refine cM ?_
   exact⟨rfl⟩
 ·rw[jj hr]
  refine cM ?_
  refine aJ (nw u hu hr most _ [] _ _) ?_
  rintro r H' n' ⟨rfl,hn,_⟩
  refine cM ?_
  exact⟨rfl⟩
def dP (u:bf) (l:List cA) (k:Nat):List dD:=(l.take k).filterMap fun f=>if f.m.stuck u then some (f.m.end_ u) else none
theorem tG {u:bf} {l:List cA} {k:Nat} (hk:k<l.length):dP u l (k+1)=dP u l k++(if(l.getD k default).m.stuck u then[(l.getD k default).m.end_ u] else[]):=by
 unfold dP
 rw[List.take_succ_eq_append_getElem hk,List.filterMap_append,show l.getD k default=l[k] by simp[List.getD,hk]]
 congr 1
 simp only[List.filterMap_cons,List.filterMap_nil]
 split
 ·rename_i h;split at h<;>simp_all
 ·rename_i h;split at h<;>simp_all
theorem oi (u:bf) (l:List cA) (k:Nat):(dP u l k).length≤k:=by
 unfold dP
 refine Nat.le_trans (List.length_filterMap_le _ _) ?_
 rw[List.length_take];omega
set_option maxHeartbeats 1000000 in
theorem FG {u:bf} (hr:ch u) {l:List cA} (hf:fm u l) (hl:l.length≤65536) {k:Nat} (hk:k<l.length) {ub ob o:Nat} {H:Hp} {nx:Nat} (h1:ub<nx) (h2:ob<nx) (h3:o<nx) (hne:ob≠o)
 (r1:∃d,bd H ub=some (.row 25 3 d [u.av])) (r2:∃d,bd H ob=some (.row 30 1 d [.sl o (dP u l k).length])) (r3:∃d,bd H o=some (.row 40 3 d ((dP u l k).map dD.av))):
 cD Tryz.prog 35 [gv u l,i64 k, .pt ub 1 0 0, .pt ob 1 0 0] H nx (fun _ H' n=>(∃d,bd H' ob=some (.row 30 1 d [.sl o (dP u l (k+1)).length]))∧(∃d,bd H' o=some (.row 40 3 d ((dP u l (k+1)).map dD.av)))∧nx≤n∧∀y,y<nx→y≠ob→y≠o→bd H' y=bd H y):=by
 obtain⟨d1,r1⟩:=r1
 obtain⟨d2,r2⟩:=r2
 obtain⟨d3,r3⟩:=r3
 have hel:=oi u l k
 obtain⟨hm,hp⟩:=hf.ok k hk
 have e0:∀d,(l.map (cA.av u)).getD ((k:Int)).toNat d= .agg [(l.getD k default).m.fz u,i64 (l.getD k default).from_,i64 (l.getD k default).cR]:=fun d=>by rw[Int.toNat_natCast];exact dJ (cA.av u) l k d hk
 have a0:(l.map (cA.av u)).length=l.length:=by simp
 have a1:((dP u l k).map dD.av).length=(dP u l k).length:=by simp
 have c0:=qn u hr (l.getD k default).m hm (by omega) (by have:=hm.ml;have:=hr.AP;omega)
 rw[tG hk]
 generalize (l.getD k default).m=m at *
 cases hs:m.stuck u with
 |true=>
  rw[j1,hs] at c0
  refine aQ zf rfl ?_
  refine cM ?_
  refine⟨⟨⟨_,by simp only[List.length_append,if_true,List.length_cons,List.length_nil];exact bg⟩,⟨_,by simp only[List.map_append,if_true,List.map_cons,List.map_nil];exact bg⟩,cW,fun y y1 y2 y3=>bq⟩⟩
 |false=>
  rw[j1,hs] at c0
  refine aQ zf rfl ?_
  refine cM ?_
  refine⟨⟨⟨_,by rw[if_neg (by decide),List.append_nil];exact bg⟩,⟨_,by rw[if_neg (by decide),List.append_nil];exact bg⟩,cW,fun y y1 y2 y3=>bq⟩⟩
end Go.Proofs.YtekfmjjmihomlaaGreat
end
section
/- Shows: the walk. -/
namespace Go.Proofs.YtekfmjjmihomlaaGreat
open Go Go.cO Go.Proofs
set_option linter.unusedSimpArgs false
set_option linter.unusedVariables false
set_option maxRecDepth 8000
theorem KW (p q:cL):vw [.i, .i] p.cells q.cells=some (decide (p=q)):=by
 simp only[cL.cells,vw,CE]
 by_cases h1:p.cR=q.cR<;>by_cases h2:p.word=q.word<;>simp[h1,h2]
 ·cases p;cases q;simp_all
 ·intro e;exact h2 (by rw[e])
 ·intro e;exact h1 (by rw[e])
 ·intro e;exact h1 (by rw[e])
theorem py (a b:List cL) (ha:a.length * 16≤140737488355328) (hb:b.length * 16≤140737488355328):Pure Tryz.prog 61 [dH a,dH b] (fun r=>r=bl (decide (a=b))):=by
 refine aI C6 rfl ?_
 have a0:(a.map cL.av).length=a.length:=by simp
 have a1:(b.map cL.av).length=b.length:=by simp
 by_cases hl:a.length=b.length
 ·have r0:decide ((a.map cL.av).length=(b.map cL.av).length)=true:=by simp[hl]
  refine cM ?_
  rw[List.length_map]
  refine aR (fun i:Nat=>[(0,dH a),(1,dH b),(12,i64 a.length),(13,i64 i)]) (fun i H n=>i≤a.length∧∀j,j<i→a.getD j default=b.getD j default) (fun i=>a.length - i) 0 cJ ⟨Nat.zero_le _,fun j hj=>by omega⟩ ?_
  rintro i H n ⟨hi,hall⟩
  by_cases hil:i<a.length
  ·have e0:=fun d=>gm (l:=a) hil d
   have e1:=fun d=>gm (l:=b) (i:=i) (by omega) d
   by_cases he:a.getD i default=b.getD i default
   ·have g0:vw [.i, .i] (a.getD i default).cells (b.getD i default).cells=some true:=by rw[KW,decide_eq_true he]
    refine cM ?_
    exact⟨i+1,by omega,cJ,by omega,fun j hj=>by
     by_cases e:j=i
     ·rw[e];exact he
     ·exact hall j (by omega)⟩
   ·have g0:vw [.i, .i] (a.getD i default).cells (b.getD i default).cells=some false:=by rw[KW,decide_eq_false he]
    refine cM ?_
    refine ee (Eq.symm (decide_eq_false ?_))
    rintro rfl
    exact he rfl
  ·refine cM ?_
   refine ee (Eq.symm (decide_eq_true ?_))
   apply List.ext_getElem hl
   intro j q1 q2
   have:=hall j (by omega)
   simpa[List.getD,q1,q2] using this
 ·refine cM ?_
  refine ee (Eq.symm (decide_eq_false ?_))
  rintro rfl
  exact hl rfl
def fX (l:List cA) (want:List cL) (k:Nat):Bool:=(l.take k).any fun f=>decide (f.m.bh=want)
theorem sU {l:List cA} {want:List cL} {k:Nat} (hk:k<l.length):fX l want (k+1)=(fX l want k||decide ((l.getD k default).m.bh=want)):=by
 unfold fX
 rw[List.take_succ_eq_append_getElem hk,List.any_append,show l.getD k default=l[k] by simp[List.getD,hk]]
 simp
set_option maxHeartbeats 1000000 in
theorem EA {u:bf} {l:List cA} (hf:fm u l) (hl:l.length≤65536) {want:List cL} (hw:want.length * 16≤140737488355328) {k:Nat} (hk:k<l.length) {ib wb:Nat} {H:Hp} {nx:Nat} (h1:ib<nx) (h2:wb<nx) (hne:ib≠wb)
 (r1:∃d,bd H ib=some (.row 4 1 d [bl (fX l want k)])) (r2:∃d,bd H wb=some (.row 37 1 d [dH want])):
 cD Tryz.prog 60 [gv u l,i64 k, .pt ib 1 0 0, .pt wb 1 0 0] H nx (fun _ H' n=>(∃d,bd H' ib=some (.row 4 1 d [bl (fX l want (k+1))]))∧nx≤n∧∀y,y<nx→y≠ib→bd H' y=bd H y):=by
 obtain⟨d1,r1⟩:=r1
 obtain⟨d2,r2⟩:=r2
 obtain⟨hm,hp⟩:=hf.ok k hk
 have e0:∀d,(l.map (cA.av u)).getD ((k:Int)).toNat d= .agg [(l.getD k default).m.fz u,i64 (l.getD k default).from_,i64 (l.getD k default).cR]:=fun d=>by rw[Int.toNat_natCast];exact dJ (cA.av u) l k d hk
 have a0:(l.map (cA.av u)).length=l.length:=by simp
 have c0:=nJ u (l.getD k default).m (by omega)
 have c1:=py (l.getD k default).m.bh want (by omega) hw
 rw[sU hk]
 generalize (l.getD k default).m=m at *
 cases hs:fX l want k with
 |true=>
  rw[hs] at r1
  refine aQ zg rfl ?_
  refine cM ?_
  refine⟨⟨⟨_,bg⟩,cW,fun y y1 y2=>bq⟩⟩
 |false=>
  rw[hs] at r1
  refine aQ zg rfl ?_
  refine cM ?_
  refine⟨⟨⟨_,bg⟩,cW,fun y y1 y2=>bq⟩⟩
set_option maxHeartbeats 1000000 in
theorem pY (u:bf) (hu:u.Wf) (most:Int) (want:List cL) (hw:want.length * 16≤140737488355328):Pure Tryz.prog 27 [u.av,i64 most,dH want] (fun r=>r= .dc [bl (fX (fZ u most).2 want (fZ u most).2.length),i64 (fZ u most).1]):=by
 refine eX ?_ (by simp[bx,cN])
 refine aQ CQ rfl ?_
 by_cases hr:ch u
 ·by_cases hm:1≤most∧most≤65536
  ·rw[iI hr hm]
   refine cM ?_
   refine aJ (l9 u hu hr most hm _ [.pt 4 1 0 0, .pt 1 1 0 0] _ _ (fun k H=>(∃d,bd H 4=some (.row 4 1 d [bl (fX ((ft u most.toNat).getD []) want k)]))∧(∃d,bd H 1=some (.row 37 1 d [dH want]))) ⟨⟨_,bg⟩,⟨_,bg⟩⟩ ?_ ?_) ?_
   ·rintro k H H' ⟨⟨d1,q1⟩,⟨d2,q2⟩⟩ hk
    exact⟨⟨d1,(hk 4 cW).trans q1⟩,⟨d2,(hk 1 cW).trans q2⟩⟩
   ·intro l hl k H n hk hn ⟨q1,⟨d2,q2⟩⟩
    simp only[hl,Option.getD_some] at q1 ⊢
    obtain⟨hf,hlm,_⟩:=l8 hu hr (by omega) hl
    refine(EA hf (by omega) hw hk (by omega) (by omega) (by omega) q1 ⟨d2,q2⟩).mono ?_
    rintro _ H' n' ⟨p1,p2,p3⟩
    exact⟨⟨p1,⟨d2,(p3 1 (by omega) (by omega)).trans q2⟩⟩,p2,fun y y1 y2=>p3 y y2 (by omega)⟩
   rintro r H' n' ⟨hn,hA⟩
   revert hA
   cases ft u most.toNat with
   |none=>
    rintro⟨rfl,hk⟩
    have r8:bd H' 4=some (.row 4 1 (fI false [.bool false]) [bl false]):=(hk 4 cW).trans bg
    refine cM ?_
    exact⟨rfl⟩
   |some l=>
    rintro⟨rfl,⟨d1,q1⟩,_⟩
    simp only[Option.getD_some] at q1
    cases hs:fX l want l.length with
    |true=>
     rw[hs] at q1
     refine cM ?_
     exact⟨by simp only[hs];rfl⟩
    |false=>
     rw[hs] at q1
     refine cM ?_
     exact⟨by simp only[hs];rfl⟩
  ·rw[gq hr hm]
   refine cM ?_
   refine aJ (kK u hu hr most hm _ [.pt 4 1 0 0, .pt 1 1 0 0] _ _) ?_
   rintro r H' n' ⟨rfl,hn,hk⟩
   have r8:bd H' 4=some (.row 4 1 (fI false [.bool false]) [bl false]):=(hk 4 cW).trans bg
   refine cM ?_
   exact⟨rfl⟩
 ·rw[jj hr]
  refine cM ?_
  refine aJ (nw u hu hr most _ [.pt 4 1 0 0, .pt 1 1 0 0] _ _) ?_
  rintro r H' n' ⟨rfl,hn,hk⟩
  have r8:bd H' 4=some (.row 4 1 (fI false [.bool false]) [bl false]):=(hk 4 cW).trans bg
  refine cM ?_
  exact⟨rfl⟩
end Go.Proofs.YtekfmjjmihomlaaGreat
end
