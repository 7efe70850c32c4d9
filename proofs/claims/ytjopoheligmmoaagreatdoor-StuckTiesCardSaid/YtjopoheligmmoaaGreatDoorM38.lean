import Derived.Test.YtjopoheligmmoaaGreatDoorM34
import Derived.Test.YtjopoheligmmoaaGreatDoorM36
import Derived.Test.YtjopoheligmmoaaGreatDoorM37
import Derived.Lib.ItoaLen
import Derived.Test.YtjopoheligmmoaaGreatDoorM32
section
/- A machine in rows told by value, within a list of what was found. -/
namespace Go.Proofs.YtjopoheligmmoaaGreatDoor
open Go Go.cY Go.Proofs
set_option linter.unusedSimpArgs false
set_option linter.unusedVariables false
set_option maxRecDepth 8000
def jg (S:List Nat) (H:Hp):Hp:=S.map fun y=>(y,bt H y)
theorem AG {S:List Nat} {H:Hp} {y:Nat} (h:y∈S):bt (jg S H) y=bt H y:=by
 induction S with
 |nil=>cases h
 |cons x S ih=>
  rw[jg,List.map_cons]
  by_cases e:y=x
  ·subst e;exact cp _ _ _
  ·rw[cX e]
   exact ih (by simpa[e] using h)
theorem qN {S:List Nat} {H:Hp} {y:Nat} {q:eT} (h:bt (jg S H) y=some q):bt H y=some q:=by
 have:y∈S:=by
  have:=mg h
  simpa[jg] using this
 rw[AG this] at h;exact h
theorem dz {S:List Nat} {H H2:Hp} {y:Nat} (h:y∉S):bt (lP (jg S H) H2) y=bt H2 y:=fU (by simpa[jg] using h)
section
variable {u:bw} {m:MS} {L:ML} {H:Hp}
theorem ML.At.tT (h:L.At u m H) (k:Nat):Go.cY.gl (jg L.all H) (k+4) (.pt L.mr 1 0 0)=m.fz u:=by
 have h:=h.cQ (H':=jg L.all H) fun y hy=>AG hy
 generalize jg L.all H=G at *
 obtain⟨d1,h1⟩:=h.rM
 obtain⟨d2,h2⟩:=h.rA
 obtain⟨d3,h3⟩:=h.rS
 obtain⟨d4,h4⟩:=h.rE
 obtain⟨d5,h5⟩:=h.rH
 obtain⟨d6,h6⟩:=h.rP
 have hsl:(eS L.ids m.bz).length=m.bz.length:=vD h.len
 have hs:(eS L.ids m.bz).map (Go.cY.gl G (k+1))=m.bz.map cO:=by
  apply List.ext_getElem (by simp[hsl])
  intro t q1 q2
  have ht:t<m.bz.length:=by simpa using q2
  have hti:t<L.ids.length:=by rw[h.len];exact ht
  obtain⟨d,hd⟩:=h.rL t ht
  rw[show L.ids.getD t 0=L.ids[t] by simp[List.getD,hti],show m.bz.getD t []=m.bz[t] by simp[List.getD,ht]] at hd
  rw[List.getElem_map,List.getElem_map]
  simp only[eS,List.getElem_map,List.getElem_zip]
  rw[mh hd (by simp),ft _ ((cC _ _).2 fun _ _=>by simp[cK])]
 rw[show Go.cY.gl G (k+4) (.pt L.mr 1 0 0)= .ip 8 .any ([m.rows u L.a L.s L.me L.ho L.pr].map (Go.cY.gl G (k+3))) 0 0 from RE h1 rfl]
 simp only[List.map_cons,List.map_nil,MS.rows]
 rw[xx]
 simp only[List.map_cons,List.map_nil]
 rw[mh h2 (by simp),mh h3 hsl,mh h4 (by simp),mh h5 (by simp),mh h6 (by simp),hs]
 rw[ft _ ((cC _ _).2 fun _ _=>by simp[cK]),ft _ ((cC _ _).2 fun _ _=>by simp[cK]),ft _ ((cC _ _).2 fun _ _=>by simp[cK]),ft _ ((cC _ _).2 fun _ _=>by simp[cK])]
 rw[kR _ (show cK 0 (ct u.shared) by simp[cK,cC]),kR _ (show cK 0 (ct u.cE) by simp[cK,cC]),kR _ (show cK 0 (de u.bu) by simp[cK,cC])]
 rfl
end
def cV.cells (u:bw) (f:cV):List AV:=[f.m.fz u,i64 f.from_,i64 f.dW]
abbrev cV.av (u:bw) (f:cV):AV:= .agg (f.cells u)
abbrev kJ (u:bw) (l:List cV):AV:= .im 3 .any (l.map (cV.av u))
@[simp] theorem H8 (n:Nat) (u:bw) (f:cV):cZ n (f.cells u):=by
  have:=nc n u f.m
  simp[cV.cells,cZ,cK]
theorem BS (u:bw) (l:List cV):cZ 0 (l.map (cV.av u)):=(cC _ _).2 fun _ _=>by simp only[cV.av,cK];exact H8 _ _ _
theorem u0 {u:bw} {m:MS} {L:ML} {H:Hp} {lb nx:Nat} {d:AV} {l:List cV} {fr th:Int} (hM:L.At u m H) (hl:bt H lb=some (.row 163 3 d (l.map (cV.av u)++[.agg [.pt L.mr 1 0 0,i64 fr,i64 th]]))) (hlb:lb∉L.all):
 Wk .any H nx .any (lP (jg L.all H) ((lb,some (.row 163 3 .any ((l++[(⟨m,fr,th⟩:cV)]).map (cV.av u))))::H)) nx:=by
 have:=Wk.gl (nx:=nx) (jg L.all H) 5 .any hl (fun b q hq=>qN hq)
 rw[List.map_append,ft _ (BS u l),List.map_cons,List.map_nil,xx,List.map_cons,List.map_cons,List.map_cons,List.map_nil,hM.tT 0,kR _ (show cK 0 (i64 fr) by simp[cK]),kR _ (show cK 0 (i64 th) by simp[cK])] at this
 rw[List.map_append]
 exact this
end Go.Proofs.YtjopoheligmmoaaGreatDoor
end
section
/- Keys are short, and tell situations apart as texts do. -/
namespace Go.Proofs.YtjopoheligmmoaaGreatDoor
open Go Go.cY Go.Proofs
set_option linter.unusedSimpArgs false
set_option linter.unusedVariables false
theorem mc {α:Type} (f:α→List UInt8) (k:Nat):∀l:List α,(∀a∈l,(f a).length≤k)→(l.flatMap f).length≤l.length * k
 |[],_=>by simp
 |a::l,h=>by
  have h1:=mc f k l fun b hb=>h b (by simp[hb])
  have h2:=h a (by simp)
  rw[List.flatMap_cons,List.length_append,List.length_cons,Nat.add_mul]
  omega
theorem mz {x:Int} (e:List UInt8) (h:eP x):(ep x e).length≤21+e.length:=by
 have:=Go.Lib.itoa_length_le x h.1 (by have:=h.2;omega)
 unfold ep
 rw[List.length_append]
 omega
theorem eM.VV {u:bw} {m:MS} (hr:cT u) (h:eM u m):(gm m).length≤100000000+m.cP.length * 50:=by
 have hf:=hr.qX
 have hal:=h.pd
 have hml:=h.ml
 have hhl:=h.hl
 have hn:∀t,t<u.bu.length→(u.gr t).nodes.length≤4096∧(u.gr t).bz≤4160:=fun t ht=>⟨(hr.gr ht).len.2,(hr.gr ht).bz.2⟩
 have h1:((List.range m.at_.length).flatMap (we m)).length≤(List.range m.at_.length).length * 100000:=by
  refine mc _ _ _ fun t ht=> ?_
  have ht:=List.mem_range.1 ht
  have hat:=h.fy t (by omega)
  obtain⟨n1,n2⟩:=hn t (by omega)
  have hs:=h.DM t (by omega)
  have a1:=mz (x:=m.at_.getD t 0) [44] ⟨by omega,by omega⟩
  have a2:=mc (fun w=>ep w [44]) 22 (m.bz.getD t []) fun w hw=>mz [44] (h.DN t (by omega) w hw)
  have e:(we m t).length=(ep (m.at_.getD t 0) [44]).length+((m.bz.getD t []).flatMap (fun w=>ep w [44])).length+1:=by simp only[we,List.length_append,List.length_cons,List.length_nil]
  simp only[List.length_cons,List.length_nil] at a1
  rw[e]
  omega
 rw[List.length_range] at h1
 have h2:=mc (fun w=>ep w [44]) 22 m.mem fun w hw=>mz [44] (h.mw w hw)
 have h3:=mc (fun w=>ep w [44]) 22 m.hold fun w hw=>mz [44] (by have:=h.hw w hw;exact⟨by omega,by omega⟩)
 have h4:=mc JU 50 m.cP fun p hp=>by
  obtain⟨p1,p2,p3⟩:=h.pw p hp
  have a1:=mz (x:=p.dW) [58] ⟨by omega,by omega⟩
  have a2:=mz (x:=p.word) [44] p3
  simp only[List.length_cons,List.length_nil] at a1 a2
  unfold JU
  rw[List.length_append]
  omega
 rw[wE]
 omega
theorem eM.ZB {u:bw} {m:MS} (hr:cT u) (h:eM u m) (hp:m.cP.length≤1048576):Z3 m:=by
 have hf:=hr.qX
 refine⟨fun w hw=> ?_,by rw[h.sl,h.pd],fun l hl w hw=> ?_,h.mw,fun w hw=> ?_,fun p hp=> ?_, ?_⟩
 ·obtain⟨t,ht,rfl⟩:=List.mem_iff_getElem.1 hw
  have h1:=h.fy t (by rw[←h.pd];exact ht)
  have h2:=(hr.gr (t:=t) (by rw[←h.pd];exact ht)).len.2
  rw[show m.at_.getD t 0=m.at_[t] by simp[List.getD,ht]] at h1
  exact⟨by omega,by omega⟩
 ·obtain⟨t,ht,rfl⟩:=List.mem_iff_getElem.1 hl
  have:=h.DN t (by rw[←h.sl];exact ht) w
  rw[show m.bz.getD t []=m.bz[t] by simp[List.getD,ht]] at this
  exact this hw
 ·have:=h.hw w hw
  exact⟨by omega,by omega⟩
 ·obtain⟨p1,p2,p3⟩:=h.pw p hp
  exact⟨⟨by omega,by omega⟩,p3⟩
 ·have:=h.VV hr
  omega
theorem TX {a b:List UInt8} (h:kd a=kd b):a=b:=by
 have:=congrArg (fun x:ByteArray=>x.data.toList) h
 simpa[kd] using this
abbrev jN (l:List cV):List (ByteArray×Int):=l.map fun f=>(kd (gm f.m),1)
abbrev nr (l:List cV):List AV:=qG (fun s:ByteArray=>Value.string s) i64 (jN l)
theorem sU (l:List cV) (k:List UInt8):ej (jN l) (kd k)=if k∈jL l then some 1 else none:=by
 split
 ·rename_i h
  cases hl:ej (jN l) (kd k) with
  |none=>
   exfalso
   refine(qB _ _).1 hl ?_
   rw[List.map_map]
   obtain⟨f,h1,h2⟩:=List.mem_map.1 h
   exact List.mem_map.2 ⟨f,h1,by simp only[Function.comp];rw[h2]⟩
  |some v=>
   have hv:∀(l:List cV),ej (jN l) (kd k)=some v→v=1:=by
    intro l
    induction l with
    |nil=>intro h;cases h
    |cons f l ih=>
     intro h
     rw[jN,List.map_cons,ej] at h
     split at h
     ·cases h;rfl
     ·exact ih h
   rw[hv l hl]
 ·rename_i h
  refine(qB _ _).2 fun hm=>h ?_
  rw[List.map_map] at hm
  obtain⟨f,h1,h2⟩:=List.mem_map.1 hm
  simp only[Function.comp] at h2
  exact List.mem_map.2 ⟨f,h1,TX h2⟩
theorem IZ {l:List cV} {m:MS} {a b:Int} (h:gm m∉jL l):ij (jN l) (kd (gm m)) 1=jN (l++[⟨m,a,b⟩]):=by
 have key:∀E:List (ByteArray×Int),ej E (kd (gm m))=none→ij E (kd (gm m)) 1=E++[(kd (gm m),1)]:=by
  intro E
  induction E with
  |nil=>intro _;rfl
  |cons p E ih=>
   intro hn
   obtain⟨x,y⟩:=p
   rw[ej] at hn
   rw[ij]
   split at hn
   ·cases hn
   ·rename_i hx
    rw[if_neg hx,ih hn];rfl
 rw[key _ (by rw[sU,if_neg h]),jN,jN,List.map_append];rfl
end Go.Proofs.YtjopoheligmmoaaGreatDoor
end
section
/- All situations: the walk. -/
namespace Go.Proofs.YtjopoheligmmoaaGreatDoor
open Go Go.cY Go.Proofs
set_option linter.unusedSimpArgs false
set_option linter.unusedVariables false
set_option maxRecDepth 8000
theorem EA (u:bw) (hu:u.Wf) (hr:¬cT u) (most:Int) (g:Nat) (caps:List AV) (H0:Hp) (nx:Nat):cJ Tryz.prog 92 [u.av,i64 most, .fn (.func g) [] caps] H0 nx (fun r H n=>r= .dP [i64 0,i64 60]∧nx≤n∧∀y,y<nx→bt H y=bt H0 y):=by
 have c0:=wN u hu hr
 refine aL CI rfl ?_
 refine cU ?_
 exact⟨⟨rfl,c8,fun y hy=>cA⟩⟩
theorem tv (u:bw) (hu:u.Wf) (hr:cT u) (most:Int) (hm:¬(1≤most∧most≤65536)) (g:Nat) (caps:List AV) (H0:Hp) (nx:Nat):cJ Tryz.prog 92 [u.av,i64 most, .fn (.func g) [] caps] H0 nx (fun r H n=>r= .dP [i64 0,i64 2]∧nx≤n∧∀y,y<nx→bt H y=bt H0 y):=by
 refine aL CI rfl ?_
 refine cU ?_
 refine aJ (kT u hu hr _ _) ?_
 rintro r H1 n1 ⟨L,rfl,hM,hlt,hn1,hk1⟩
 by_cases h1:most<1
 ·refine cU ?_
  exact⟨⟨rfl,c8,fun y hy=>Eq.trans cA ((hk1 y c8).trans cA)⟩⟩
 ·have h2:65536<most:=by omega
  refine cU ?_
  exact⟨⟨rfl,c8,fun y hy=>Eq.trans cA ((hk1 y c8).trans cA)⟩⟩
theorem BF (u:bw) (hr:cT u) (m:MS) (h:eM u m) (hp:m.cP.length≤1048576) (H0:Hp) (nx:Nat):cJ Tryz.prog 146 [m.fz u] H0 nx (fun r H n=>∃L:ML,r= .pt L.mr 1 0 0∧L.At u m H∧(∀x∈L.all,nx≤x∧x<n)∧nx≤n∧∀y,y<nx→bt H y=bt H0 y):=by
 have hgl:=hr.qX
 refine(BG u m (by have:=h.pd;omega) (by have:=h.ml;omega) (by have:=h.hl;omega) hp (by have:=h.sl;omega) (fun x hx=> ?_) H0 nx).mono ?_
 ·obtain⟨s,hs,rfl⟩:=List.mem_iff_getElem.1 hx
  have h1:=h.DM s (by rw[←h.sl];exact hs)
  have h2:=(hr.gr (t:=s) (by rw[←h.sl];exact hs)).bz.2
  rw[show m.bz.getD s []=m.bz[s] by simp[List.getD,hs]] at h1
  omega
 ·rintro r H n ⟨mr,a,s,me,ho,pr,ids,rfl,h1,h2,h3,h4⟩
  exact⟨⟨mr,a,s,me,ho,pr,ids⟩,rfl,h1,h2,h3,h4⟩
def P7 (u:bw) (most:Int) (I:Nat→Hp→Prop) (nx:Nat) (H0:Hp) (r:AV) (H:Hp) (n:Nat):Prop:=
 nx≤n∧match gU u most.toNat with
 |none=>r= .dP [i64 0,i64 3]∧∀y,y<nx→bt H y=bt H0 y
 |some l=>r= .dP [i64 l.length,i64 0]∧I l.length H
set_option maxHeartbeats 4000000 in
theorem rU (u:bw) (hu:u.Wf) (hr:cT u) (most:Int) (hm:1≤most∧most≤65536) (g:Nat) (caps:List AV) (H0:Hp) (nx:Nat) (I:Nat→Hp→Prop) (hI0:I 0 H0) (hst:∀k H H',I k H→(∀y,y<nx→bt H' y=bt H y)→I k H')
 (hcl:∀l,gU u most.toNat=some l→∀k H n,k<l.length→nx≤n→I k H→cJ Tryz.prog g ([kJ u l,i64 k]++caps) H n (fun _ H' n'=>I (k+1) H'∧n≤n'∧∀y,nx≤y→y<n→bt H' y=bt H y)):
 cJ Tryz.prog 92 [u.av,i64 most, .fn (.func g) [] caps] H0 nx (P7 u most I nx H0):=by
 obtain⟨mo,rfl⟩:∃mo:Nat,most=mo:=⟨most.toNat,by omega⟩
 have hgl:=hr.qX
 unfold P7
 rw[Int.toNat_natCast] at hcl ⊢
 refine aL CI rfl ?_
 refine cU ?_
 refine aJ (kT u hu hr _ _) ?_
 rintro r H1 n1 ⟨L,rfl,hM,hlt,hn1,hk1⟩
 have hF:=iN.init u hu hr
 have hm0:=(hF.ok 0 hF.pos).1
 have hm0':(List.getD (jq u) 0 default).m=dR u:=rfl
 rw[hm0'] at hm0
 have g0:oy true (Value.string (kd (gm (dR u)))) [] (i64 1)=some (nr (jq u)):=rfl
 have h65:(65536:Int)<mo→False:=by omega
 refine cU ?_
 refine aS (wD u (dR u) (hm0.ZB hr (by simp[dR]))) (args2:=[(dR u).fz u]) ?_ (by simp[cZ,nc]) trivial ?_
 ·rw[List.map_cons,List.map_nil]
  congr 1
  exact(hM.cQ fun y hy=>by have:=hlt y hy;exact cA).IB 2
 refine cU ?_
 have hno:∀y,y<nx+1∨n1≤y→y∉L.all:=fun y hy hm=>by have:=hlt y hm;omega
 refine aU (fun σ:Nat×List cV=>[(1,i64 mo),(2, .fn (.func g) [] caps),(3, .pt nx 1 0 0),(10, .sl (n1+15) σ.2.length),(11, .mp (n1+17)),(12,i64 σ.1)])
  (fun σ H n=>σ.1≤σ.2.length∧σ.2.length≤mo∧iN u σ.2∧xF u mo (mo - σ.1) σ.1 σ.2=gU u mo∧n1+23≤n∧(∃d,bt H nx=some (.row 25 3 d [u.av]))∧(∃d,bt H (n1+15)=some (.row 163 3 d (σ.2.map (cV.av u))))∧(∃e d,bt H (n1+17)=some (.row e 0 d (mapA (nr σ.2))))∧∀y,y<nx→bt H y=bt H0 y) (fun σ=>mo - σ.1) (0,jq u)
  ⟨_,_,_,Rt.wk (u0 (lb:=n1+15) (l:=[]) (fr:=-1) (th:=0) (hM.cQ ?_) bx (hno _ (by omega))),cH,Nat.zero_le _,by show 1≤mo;omega,hF,rfl,c8,⟨_,(dz (hno _ (by omega))).trans (Eq.trans cA ((hk1 nx (by omega)).trans bx))⟩,⟨_,(dz (hno _ (by omega))).trans bx⟩,⟨_,_,(dz (hno _ (by omega))).trans bx⟩,fun y hy=>(dz (hno _ (by omega))).trans (Eq.trans cA ((hk1 y c8).trans cA))⟩ ?_
 ·intro y hy
  have:=hlt y hy
  exact cA
 clear hM hlt hk1 hno
 rintro⟨k,l⟩ H n ⟨hk,hl,hfs,hall,hn,⟨d0,r0'⟩,⟨d1,r1'⟩,⟨e2,d2,r2'⟩,hkp⟩
 dsimp only at hk hl hfs hall r1' r2' ⊢
 by_cases hkl:k<l.length
 ·have e0:∀d,(l.map (cV.av u)).getD ((k:Int)).toNat d=(l.getD k default).av u:=fun d=>by rw[Int.toNat_natCast];exact dA (cV.av u) l k d hkl
  have a0:(l.map (cV.av u)).length=l.length:=by simp
  have hgeq:∀l':List cV,l<+:l'→l'.getD k default=l.getD k default:=fun l' ⟨q,hq⟩=>by rw[←hq];simp[List.getD,List.getElem?_append,hkl]
  have hmk:mo - k=(mo - (k+1))+1:=by omega
  rw[hmk,xF,if_pos hkl] at hall
  obtain⟨hmok,hpl⟩:=hfs.ok k hkl
  have hmdef:(l.getD k default).m=(l.getD k default).m:=rfl
  generalize hmm:(l.getD k default).m=m at hmok hpl
  have e0':∀d,(l.map (cV.av u)).getD ((k:Int)).toNat d= .agg [m.fz u,i64 (l.getD k default).from_,i64 (l.getD k default).dW]:=fun d=>by rw[e0 d,←hmm];rfl
  clear e0
  have e0:=e0'
  refine cU ?_
  rw[List.length_map]
  refine aU (fun σ:Nat×List cV=>[(1,i64 mo),(2, .fn (.func g) [] caps),(3, .pt nx 1 0 0),(10, .sl (n1+15) σ.2.length),(11, .mp (n1+17)),(12,i64 k),(13,m.fz u),(52,i64 u.bu.length),(53,i64 σ.1)])
   (fun σ H n=>σ.1≤u.bu.length∧k<σ.2.length∧σ.2.length≤mo∧iN u σ.2∧(σ.2.getD k default).m=m∧(match DD u mo k ((List.range u.bu.length).drop σ.1) σ.2 with
    |none=>none
    |some l2=>xF u mo (mo - (k+1)) (k+1) l2)=gU u mo∧n1+23≤n∧(∃d,bt H nx=some (.row 25 3 d [u.av]))∧(∃d,bt H (n1+15)=some (.row 163 3 d (σ.2.map (cV.av u))))∧(∃e d,bt H (n1+17)=some (.row e 0 d (mapA (nr σ.2))))∧∀y,y<nx→bt H y=bt H0 y) (fun σ=>u.bu.length - σ.1) (0,l)
   ⟨_,_,_,Rt.refl _ _ _,cH,Nat.zero_le _,hkl,hl,hfs,hmm,hall,c8,⟨_,bx⟩,⟨_,bx⟩,⟨_,_,bx⟩,fun y hy=>Eq.trans cA (hkp y hy)⟩ ?_
  clear e0 e0' a0 r0' r1' r2' hkp hall hfs hl hkl hgeq hn hmm
  rintro⟨t,l⟩ H n ⟨ht,hkl,hl,hfs,hmm,hall,hn,⟨d0,r0'⟩,⟨d1,r1'⟩,⟨e2,d2,r2'⟩,hkp⟩
  dsimp only at ht hkl hl hfs hmm hall r1' r2' ⊢
  have a0:(l.map (cV.av u)).length=l.length:=by simp
  by_cases htl:t<u.bu.length
  ·rw[show(List.range u.bu.length).drop t=t::(List.range u.bu.length).drop (t+1) by rw[List.drop_eq_getElem_cons (by simpa using htl)];simp,DD] at hall
   have c0:=LS u hr m hmok t
   by_cases hb:m.k9 u t=0
   ·have hal:=hmok.pd
    refine cU ?_
    refine aJ (BF u hr m hmok (by omega) _ _) ?_
    rintro r H2 n2 ⟨L2,rfl,hM2,hlt2,hn2,hk2⟩
    have hlt2:∀x∈L2.all,n+7≤x∧x<n2:=hlt2
    refine cU ?_
    refine aJ (vF hu hr hmok (L:=L2) (hM2.cQ ?_) ?_ (by omega) htl hb) ?_
    ·intro y hy
     have:=hlt2 y hy
     exact cA
    ·intro y hy
     have:=hlt2 y hy
     exact c8
    rintro r H3 n3 ⟨rfl,hM3,hn3,hk3⟩
    have hno:∀y,y<n+7∨n2≤y→y∉L2.all:=fun y hy hm=>by have:=hlt2 y hm;omega
    have hold:∀y,y<n→bt H3 y=bt H y:=fun y hy=>(hk3 y c8 (hno y (by omega))).trans (Eq.trans cA ((hk2 y c8).trans cA))
    have hlt3:∀x∈L2.all,x<n3:=fun x hx=>by have:=hlt2 x hx;exact Nat.lt_of_lt_of_le this.2 c8
    obtain⟨hk9,_⟩:=kF hmok htl hb
    have hm2:=w6 hu hr hmok htl hk9
    have hp2:=mL u m t
    have htry:DZ u mo k t l=if gm (m.step u t).1∈jL l then some l else if l.length=mo then none else some (l++[⟨(m.step u t).1,k,t⟩]):=by
     unfold DZ
     rw[hmm,if_neg (by omega)]
    rw[htry] at hall
    have hput:=fun(h:gm (m.step u t).1∉jL l)=>IZ (l:=l) (m:=(m.step u t).1) (a:=k) (b:=t) h
    have hadd:=fun(h:gm (m.step u t).1∉jL l)=>hfs.add hu hr hkl htl (by rw[hmm];exact hb) (by rw[hmm];exact h)
    rw[hmm] at hadd
    generalize (m.step u t).1=m2 at *
    have hkp3:∀y,y<nx→bt H3 y=bt H0 y:=fun y hy=>(hold y (by omega)).trans (hkp y hy)
    have q0:=(hold nx (by omega)).trans r0'
    have q1:=(hold (n1+15) (by omega)).trans r1'
    have q2:=(hold (n1+17) (by omega)).trans r2'
    have hget:=CM wC i64 (kd (gm m2)) (jN l) (i64 0)
    rw[sU] at hget
    clear hk2 hk3 hM2 r0' r1' r2' hold hkp
    by_cases hin:gm m2∈jL l
    ·rw[if_pos hin] at hget hall
     have g0:mD true (Value.string (kd (gm m2))) (nr l) (i64 0)=some (i64 1,true):=hget
     refine cU ?_
     refine aS (wD u m2 (hm2.ZB hr (by omega))) (args2:=[m2.fz u]) ?_ (by simp[cZ,nc]) trivial ?_
     ·rw[List.map_cons,List.map_nil]
      congr 1
      exact(hM3.cQ fun y hy=>by have:=hlt3 y hy;exact cA).IB 2
     refine cU ?_
     exact⟨(t+1,l),by dsimp only;omega,_,_,_,Rt.refl _ _ _,cH,by dsimp only;omega,hkl,hl,hfs,hmm,hall,c8,⟨_,bx⟩,⟨_,bx⟩,⟨_,_,bx⟩,fun y hy=>Eq.trans cA (hkp3 y hy)⟩
    ·rw[if_neg hin] at hget hall
     have g0:mD true (Value.string (kd (gm m2))) (nr l) (i64 0)=some (i64 0,false):=hget
     by_cases hfull:l.length=mo
     ·rw[if_pos hfull] at hall
      refine cU ?_
      refine aS (wD u m2 (hm2.ZB hr (by omega))) (args2:=[m2.fz u]) ?_ (by simp[cZ,nc]) trivial ?_
      ·rw[List.map_cons,List.map_nil]
       congr 1
       exact(hM3.cQ fun y hy=>by have:=hlt3 y hy;exact cA).IB 2
      refine cU ?_
      have hall2:none=gU u mo:=hall
      rw[←hall2]
      exact⟨⟨c8,rfl,fun y hy=>Eq.trans cA (hkp3 y hy)⟩⟩
     ·rw[if_neg hfull] at hall
      have g1:oy true (Value.string (kd (gm m2))) (nr l) (i64 1)=some (nr (l++[⟨m2,k,t⟩])):=by
       have:=CN wC i64 (kd (gm m2)) 1 (jN l)
       rw[hput hin] at this
       exact this
      refine cU ?_
      refine aS (wD u m2 (hm2.ZB hr (by omega))) (args2:=[m2.fz u]) ?_ (by simp[cZ,nc]) trivial ?_
      ·rw[List.map_cons,List.map_nil]
       congr 1
       exact(hM3.cQ fun y hy=>by have:=hlt3 y hy;exact cA).IB 2
      refine cU ?_
      have hout:=hno
      refine⟨(t+1,l++[⟨m2,k,t⟩]),by dsimp only;omega,_,_,_,Rt.wk (u0 (L:=L2) (lb:=n1+15) (m:=m2) (l:=l) (fr:=k) (th:=t) (hM3.cQ ?_) bx (hno _ (by omega))),cH,by dsimp only;omega,by dsimp only;rw[List.length_append];omega,by dsimp only;simp only[List.length_append,List.length_cons,List.length_nil];omega,hadd hin,by dsimp only;rw[fk hkl];exact hmm,hall,c8,⟨_,(dz (hno _ (by omega))).trans bx⟩,⟨_,(dz (hno _ (by omega))).trans bx⟩,⟨_,_,(dz (hno _ (by omega))).trans bx⟩,fun y hy=>(dz (hno _ (by omega))).trans (Eq.trans cA (hkp3 y hy))⟩
      intro y hy
      have:=hlt2 y hy
      have:=hlt3 y hy
      exact cA
   ·have htry:DZ u mo k t l=some l:=by
     unfold DZ
     rw[hmm,if_pos hb]
    rw[htry] at hall
    refine cU ?_
    exact⟨(t+1,l),by dsimp only;omega,_,_,_,Rt.refl _ _ _,cH,by dsimp only;omega,hkl,hl,hfs,hmm,hall,c8,⟨_,bx⟩,⟨_,bx⟩,⟨_,_,bx⟩,fun y hy=>Eq.trans cA (hkp y hy)⟩
  ·have htG:t=u.bu.length:=by omega
   subst htG
   rw[List.drop_of_length_le (by simp),DD] at hall
   refine cU ?_
   exact⟨(k+1,l),by dsimp only;omega,_,_,_,Rt.refl _ _ _,cH,by dsimp only;omega,hl,hfs,hall,c8,⟨_,bx⟩,⟨_,bx⟩,⟨_,_,bx⟩,fun y hy=>Eq.trans cA (hkp y hy)⟩
 ·have hk2:k=l.length:=by omega
  refine cU ?_
  have hl2:gU u mo=some l:=by
   rw[←hall]
   subst hk2
   cases h:mo - l.length with
   |zero=>rfl
   |succ q=>rw[xF,if_neg (by omega)]
  have hw:=fun(H':Hp) (n':Nat) (hr:bt H' (n1+15)=some (.row 163 3 d1 (l.map (cV.av u))))=>Wk.XY (r:= .sl (n1+15) l.length) (H:=H') (nx:=n') [(n1+15,some (.row 163 3 d1 (l.map (cV.av u))))] 1 (fun b q hq=>by
   by_cases hb:b=n1+15
   ·subst hb;rw[cp] at hq;rw[←hq];exact hr
   ·rw[cX hb] at hq;cases hq)
  rw[NI (cp _ _ _) (by simp),sQ] at hw
  rw[hl2]
  refine aU (fun i:Nat=>[(2, .fn (.func g) [] caps),(10,kJ u l),(86,i64 l.length),(87,i64 i)])
   (fun i H n=>i≤l.length∧nx≤n∧I i H) (fun i=>l.length - i) 0
   ⟨_,_,_,Rt.slot 10 rfl (hw _ _ bx),cH,Nat.zero_le _,c8,hst 0 _ _ hI0 fun y hy=>(cX (by omega)).trans (Eq.trans cA (hkp y hy))⟩ ?_
  clear r0' r1' r2' hkp hw hn
  rintro i H n ⟨hi,hn,hI⟩
  by_cases hil:i<l.length
  ·refine cU ?_
   refine Eq.mpr (iB caps _) ?_
   show iF Tryz.prog g (kJ u l::i64 i::caps) _ _ _
   refine aJ (hcl l hl2 i _ _ hil c8 (hst i H _ hI fun y hy=>cA)) ?_
   rintro _ H2 n2 ⟨hI2,hn2,_⟩
   refine cU ?_
   exact⟨i+1,by omega,_,_,_,Rt.refl _ _ _,cH,by omega,c8,hst _ _ _ hI2 fun y hy=>cA⟩
  ·obtain rfl:i=l.length:=by omega
   refine cU ?_
   exact⟨⟨c8,by rw[List.length_map],hst _ _ _ hI fun y hy=>cA⟩⟩
end Go.Proofs.YtjopoheligmmoaaGreatDoor
end
section
/- Ends compared: the code's Compare and Same. -/
namespace Go.Proofs.YtjopoheligmmoaaGreatDoor
open Go Go.cY Go.Proofs
set_option linter.unusedSimpArgs false
set_option linter.unusedVariables false
theorem HK (p q:dV):Pure Tryz.prog 151 [p.av,q.av] (fun r=>r=i64 (jH p q)):=by
 have c0:=ri p.dW q.dW
 have c1:=uI p.word q.word
 have c2:=wS [eX p.dW q.dW,eX p.word q.word] (by simp)
 refine aI y9 rfl ?_
 refine cU ?_
 refine aS (args2:=[cO [eX p.dW q.dW,eX p.word q.word]]) (r:=i64 (jH p q)) c2 rfl (by simp[cZ,cK]) trivial ?_
 refine cU ?_
 first|exact rfl|trivial
theorem uz {l:List dV} {i:Nat} (h:i<l.length) (d:AV):(l.map dV.av).getD ((i:Int)).toNat d=(l.getD i default).av:=by
 rw[Int.toNat_natCast];exact dA dV.av l i d h
theorem BE (a b:List dV) (ha:a.length<9223372036854775807):Pure Tryz.prog 150 [fp a,fp b, .fn (.func 151) [] []] (fun r=>r=i64 (ec jH a b)):=by
 refine aI y8 rfl ?_
 refine cU ?_
 rw[List.length_map]
 refine aM (fun i:Nat=>[(0,fp a),(1,fp b),(2, .fn (.func 151) [] []),(11,fp a),(12,i64 a.length),(13,i64 i)]) (fun i H n=>i≤a.length∧i≤b.length∧ec jH a b=ec jH (a.drop i) (b.drop i)) (fun i=>a.length - i) 0 cH ⟨Nat.zero_le _,Nat.zero_le _,rfl⟩ ?_
 rintro i H n ⟨hi,hib,ho⟩
 rw[ho]
 have a0:(a.map dV.av).length=a.length:=by simp
 have a1:(b.map dV.av).length=b.length:=by simp
 by_cases hil:i<a.length
 ·have e0:=fun d=>uz hil d
  by_cases hbl:i<b.length
  ·have e1:=fun d=>uz hbl d
   have hd:=vm jH default hil hbl
   have c0:=HK (a.getD i default) (b.getD i default)
   generalize a.getD i default=p at *
   generalize b.getD i default=q at *
   by_cases hz:jH p q=0
   ·have r0:=hz
    rw[if_pos hz] at hd
    refine cU ?_
    exact⟨i+1,by omega,cH,by omega,by omega,hd⟩
   ·have r0:=decide_eq_true hz
    rw[if_neg hz] at hd
    refine cU ?_
    rw[hd]
  ·rw[rn jH hil (by omega)]
   refine cU ?_
   first|exact rfl|trivial
 ·obtain rfl:i=a.length:=by omega
  rw[rk jH (Nat.le_refl _) hib]
  by_cases h:a.length<b.length
  ·rw[if_pos h]
   refine cU ?_
   first|exact rfl|trivial
  ·rw[if_neg h]
   refine cU ?_
   first|exact rfl|trivial
theorem BC (a b:List Int) (ha:a.length<9223372036854775807):Pure Tryz.prog 153 [cO a,cO b] (fun r=>r=i64 (ec eX a b)):=by
 refine aI yb rfl ?_
 refine cU ?_
 rw[List.length_map]
 refine aM (fun i:Nat=>[(0,cO a),(1,cO b),(9,cO a),(10,i64 a.length),(11,i64 i)]) (fun i H n=>i≤a.length∧i≤b.length∧ec eX a b=ec eX (a.drop i) (b.drop i)) (fun i=>a.length - i) 0 cH ⟨Nat.zero_le _,Nat.zero_le _,rfl⟩ ?_
 rintro i H n ⟨hi,hib,ho⟩
 rw[ho]
 have a0:(a.map i64).length=a.length:=by simp
 have a1:(b.map i64).length=b.length:=by simp
 by_cases hil:i<a.length
 ·have e0:=fun d=>ints_at hil d
  by_cases hbl:i<b.length
  ·have e1:=fun d=>ints_at hbl d
   have hd:=vm eX 0 hil hbl
   have c0:=uI (a.getD i 0) (b.getD i 0)
   generalize a.getD i 0=p at *
   generalize b.getD i 0=q at *
   by_cases hz:eX p q=0
   ·have r0:=hz
    rw[if_pos hz] at hd
    refine cU ?_
    exact⟨i+1,by omega,cH,by omega,by omega,hd⟩
   ·have r0:=decide_eq_true hz
    rw[if_neg hz] at hd
    refine cU ?_
    rw[hd]
  ·rw[rn eX hil (by omega)]
   refine cU ?_
   first|exact rfl|trivial
 ·obtain rfl:i=a.length:=by omega
  rw[rk eX (Nat.le_refl _) hib]
  by_cases h:a.length<b.length
  ·rw[if_pos h]
   refine cU ?_
   first|exact rfl|trivial
  ·rw[if_neg h]
   refine cU ?_
   first|exact rfl|trivial
theorem uH (a b:cm) (h1:a.cP.length<9223372036854775807) (h2:a.mem.length<9223372036854775807):Pure Tryz.prog 96 [a.av,b.av] (fun r=>r=i64 (fq a b)):=by
 have c0:=BE a.cP b.cP h1
 have c1:=BC a.mem b.mem h2
 have c2:=wS [ec jH a.cP b.cP,ec eX a.mem b.mem,vk a.ended b.ended] (by simp)
 obtain⟨ap,am,ae⟩:=a
 obtain⟨bp,bm,be⟩:=b
 cases ae<;>cases be<;>(refine aI OM rfl ?_;refine cU ?_;refine aS (args2:=[cO [ec jH ap bp,ec eX am bm,_]]) (r:=i64 (sj [ec jH ap bp,ec eX am bm,_])) c2 rfl (by simp[cZ,cK]) trivial ?_;refine cU ?_;first|exact rfl|trivial)
theorem oA (a b:cm) (h1:a.cP.length<9223372036854775807) (h2:a.mem.length<9223372036854775807):Pure Tryz.prog 98 [a.av,b.av] (fun r=>r=bl (decide (fq a b=0))):=by
 have c0:=uH a b h1 h2
 refine aI ON rfl ?_
 refine cU ?_
 refine fA ?_
 simp
end Go.Proofs.YtjopoheligmmoaaGreatDoor
end
section
/- Ends compared: the document's Compare; the plain laws. -/
namespace Go.Proofs.YtjopoheligmmoaaGreatDoor
open Go Go.cY Go.Proofs
set_option linter.unusedSimpArgs false
set_option linter.unusedVariables false
theorem QQ (x:Int):eX x x=0:=by unfold eX;simp
end Go.Proofs.YtjopoheligmmoaaGreatDoor
end
section
/- Ends compared: the order's plain laws. -/
namespace Go.Proofs.YtjopoheligmmoaaGreatDoor
open Go Go.cY Go.Proofs
set_option linter.unusedSimpArgs false
set_option linter.unusedVariables false
theorem rj (x y:Int):eX y x=-eX x y:=by
 unfold eX
 repeat' (first|omega|split)
theorem wR:∀l:List Int,sj (l.map (-·))=-sj l
 |[]=>rfl
 |x::l=>by
  simp only[List.map_cons,sj]
  by_cases h:x=0
  ·rw[if_pos (by omega),if_pos h];exact wR l
  ·rw[if_neg (by omega),if_neg h]
theorem LW (p q:dV):jH q p=-jH p q:=by
 unfold jH
 rw[←wR,rj p.dW,rj p.word];rfl
theorem rl {α:Type} {f:α→α→Int} (hf:∀x y,f y x=-f x y):∀a b:List α,ec f b a=-ec f a b
 |[],[]=>rfl
 |[],_::_=>rfl
 |_::_,[]=>rfl
 |x::a,y::b=>by
  rw[ec,ec,hf x y]
  by_cases h:f x y=0
  ·rw[if_pos (by omega),if_pos h];exact rl hf a b
  ·rw[if_neg (by omega),if_neg h]
theorem LU (a b:Bool):vk b a=-vk a b:=by cases a<;>cases b<;>rfl
theorem LV (a b:cm):fq b a=-fq a b:=by
 unfold fq
 rw[←wR,rl LW a.cP,rl rj a.mem,LU a.ended];rfl
theorem zi {l:List Int}:sj l=0↔∀x∈l,x=0:=by
 induction l with
 |nil=>simp[sj]
 |cons x l ih=>
  rw[sj]
  by_cases h:x=0
  ·rw[if_pos h,ih];simp[h]
  ·rw[if_neg h];simp[h]
theorem kH {x y:Int}:eX x y=0↔x=y:=by
 constructor
 ·unfold eX;intro h;revert h;repeat' (first|omega|split)
 ·rintro rfl;exact QQ _
theorem pg {p q:dV}:jH p q=0↔p=q:=by
 unfold jH
 rw[zi]
 simp only[List.mem_cons,List.not_mem_nil,or_false,forall_eq_or_imp,forall_eq,kH]
 constructor
 ·rintro⟨h1,h2⟩;cases p;cases q;simp_all
 ·rintro rfl;exact⟨rfl,rfl⟩
theorem kI {α:Type} {f:α→α→Int} (hf:∀x y,f x y=0↔x=y):∀a b:List α,ec f a b=0↔a=b
 |[],[]=>by simp[ec]
 |[],_::_=>by simp[ec]
 |_::_,[]=>by simp[ec]
 |x::a,y::b=>by
  rw[ec]
  by_cases h:f x y=0
  ·rw[if_pos h,kI hf a b]
   have:=(hf x y).1 h
   simp[this]
  ·rw[if_neg h]
   have:x≠y:=fun e=>h ((hf x y).2 e)
   simp[h,this]
theorem pf {a b:cm}:fq a b=0↔a=b:=by
 unfold fq
 rw[zi]
 simp only[List.mem_cons,List.not_mem_nil,or_false,forall_eq_or_imp,forall_eq,kI (fun x y=>pg),kI (fun x y=>kH)]
 constructor
 ·rintro⟨h1,h2,h3⟩
  obtain⟨ap,am,ae⟩:=a
  obtain⟨bp,bm,be⟩:=b
  cases ae<;>cases be<;>simp_all[vk]
 ·rintro rfl
  exact⟨rfl,rfl,by cases a.ended<;>rfl⟩
end Go.Proofs.YtjopoheligmmoaaGreatDoor
end
section
/- Count; the closures that ends, ways and what is shown hand to the exploring. -/
namespace Go.Proofs.YtjopoheligmmoaaGreatDoor
open Go Go.cY Go.Proofs
set_option linter.unusedSimpArgs false
set_option linter.unusedVariables false
set_option maxRecDepth 8000
open Classical in
noncomputable def eH (u:bw) (most:Int):Int×List cV:=
 if ¬cT u then(60,[]) else if ¬(1≤most∧most≤65536) then(2,[]) else match gU u most.toNat with
  |none=>(3,[])
  |some l=>(0,l)
theorem oM {u:bw} {most:Int} (h:¬cT u):eH u most=(60,[]):=by unfold eH;rw[if_pos h]
theorem kj {u:bw} {most:Int} (h:cT u) (hm:¬(1≤most∧most≤65536)):eH u most=(2,[]):=by unfold eH;rw[if_neg (fun e=>e h),if_pos hm]
theorem oO {u:bw} {most:Int} (h:cT u) (hm:1≤most∧most≤65536):eH u most=(match gU u most.toNat with|none=>(3,[])|some l=>(0,l)):=by unfold eH;rw[if_neg (fun e=>e h),if_neg (fun e=>e hm)]
def dS (u:bw) (l:List cV) (k:Nat):List cm:=(l.take k).filterMap fun f=>if f.m.stuck u then some (f.m.end_ u) else none
theorem x7 {u:bw} {l:List cV} {k:Nat} (hk:k<l.length):dS u l (k+1)=dS u l k++(if(l.getD k default).m.stuck u then[(l.getD k default).m.end_ u] else[]):=by
 unfold dS
 rw[List.take_succ_eq_append_getElem hk,List.filterMap_append,show l.getD k default=l[k] by simp[List.getD,hk]]
 congr 1
 simp only[List.filterMap_cons,List.filterMap_nil]
 split
 ·rename_i h;split at h<;>simp_all
 ·rename_i h;split at h<;>simp_all
theorem ky (u:bw) (l:List cV) (k:Nat):(dS u l k).length≤k:=by
 unfold dS
 refine Nat.le_trans (List.length_filterMap_le _ _) ?_
 rw[List.length_take];omega
set_option maxHeartbeats 1000000 in
theorem EK {u:bw} (hr:cT u) {l:List cV} (hf:iN u l) (hl:l.length≤65536) {k:Nat} (hk:k<l.length) {ub ob o:Nat} {H:Hp} {nx:Nat} (h1:ub<nx) (h2:ob<nx) (h3:o<nx) (hne:ob≠o)
 (r1:∃d,bt H ub=some (.row 25 3 d [u.av])) (r2:∃d,bt H ob=some (.row 41 1 d [.sl o (dS u l k).length])) (r3:∃d,bt H o=some (.row 105 3 d ((dS u l k).map cm.av))):
 cJ Tryz.prog 93 [kJ u l,i64 k, .pt ub 1 0 0, .pt ob 1 0 0] H nx (fun _ H' n=>(∃d,bt H' ob=some (.row 41 1 d [.sl o (dS u l (k+1)).length]))∧(∃d,bt H' o=some (.row 105 3 d ((dS u l (k+1)).map cm.av)))∧nx≤n∧∀y,y<nx→y≠ob→y≠o→bt H' y=bt H y):=by
 obtain⟨d1,r1⟩:=r1
 obtain⟨d2,r2⟩:=r2
 obtain⟨d3,r3⟩:=r3
 have hel:=ky u l k
 obtain⟨hm,hp⟩:=hf.ok k hk
 have e0:∀d,(l.map (cV.av u)).getD ((k:Int)).toNat d= .agg [(l.getD k default).m.fz u,i64 (l.getD k default).from_,i64 (l.getD k default).dW]:=fun d=>by rw[Int.toNat_natCast];exact dA (cV.av u) l k d hk
 have a0:(l.map (cV.av u)).length=l.length:=by simp
 have a1:((dS u l k).map cm.av).length=(dS u l k).length:=by simp
 have c0:=uw u hr (l.getD k default).m hm (by omega) (by have:=hm.ml;have:=hr.qX;omega)
 rw[x7 hk]
 generalize (l.getD k default).m=m at *
 cases hs:m.stuck u with
 |true=>
  rw[lI,hs] at c0
  refine aL JC rfl ?_
  refine cU ?_
  refine⟨⟨⟨_,by simp only[List.length_append,if_true,List.length_cons,List.length_nil];exact bx⟩,⟨_,by simp only[List.map_append,if_true,List.map_cons,List.map_nil];exact bx⟩,c8,fun y y1 y2 y3=>cA⟩⟩
 |false=>
  rw[lI,hs] at c0
  refine aL JC rfl ?_
  refine cU ?_
  refine⟨⟨⟨_,by rw[if_neg (by decide),List.append_nil];exact bx⟩,⟨_,by rw[if_neg (by decide),List.append_nil];exact bx⟩,c8,fun y y1 y2 y3=>cA⟩⟩
end Go.Proofs.YtjopoheligmmoaaGreatDoor
end
section
/- Shows: the walk. -/
namespace Go.Proofs.YtjopoheligmmoaaGreatDoor
open Go Go.cY Go.Proofs
set_option linter.unusedSimpArgs false
set_option linter.unusedVariables false
set_option maxRecDepth 8000
end Go.Proofs.YtjopoheligmmoaaGreatDoor
end
section
/- Way: what it does to its list; the way back. -/
namespace Go.Proofs.YtjopoheligmmoaaGreatDoor
open Go Go.cY Go.Proofs
set_option linter.unusedSimpArgs false
set_option linter.unusedVariables false
set_option maxRecDepth 8000
def kW (l:List Int) (i:Nat):List Int:=(List.range l.length).map fun q=>if q<i∨l.length≤q+i then l.getD (l.length - 1 - q) 0 else l.getD q 0
theorem gk (l:List Int) (i:Nat):(kW l i).length=l.length:=by simp[kW]
theorem nA {l:List Int} {i q:Nat} (h:q<l.length):(kW l i).getD q 0=if q<i∨l.length≤q+i then l.getD (l.length - 1 - q) 0 else l.getD q 0:=by simp[kW,List.getD,h]
theorem J0 (l:List Int):kW l 0=l:=by
 apply List.ext_getElem (gk l 0)
 intro q h1 h2
 have:=nA (l:=l) (i:=0) h2
 rw[if_neg (by omega)] at this
 simpa[List.getD,h1,h2] using this
theorem PD {l:List Int} {i:Nat} (h:l.length≤2 * i+1):kW l i=l.reverse:=by
 apply List.ext_getElem (by simp[gk])
 intro q h1 h2
 have hq:q<l.length:=by simpa using h2
 have:=nA (l:=l) (i:=i) hq
 rw[show(kW l i).getD q 0=(kW l i)[q] by simp[List.getD,h1]] at this
 rw[this,List.getElem_reverse]
 split
 ·simp[List.getD,show l.length - 1 - q<l.length by omega]
 ·have:q=l.length - 1 - q:=by omega
  conv=>lhs;rw[this]
  simp[List.getD,show l.length - 1 - q<l.length by omega]
theorem JZ {l:List Int} {i:Nat} (h:2 * i+1<l.length):((kW l i).set i (l.getD (l.length - 1 - i) 0)).set (l.length - 1 - i) (l.getD i 0)=kW l (i+1):=by
 apply List.ext_getElem (by simp[gk])
 intro q h1 h2
 have hq:q<l.length:=by simpa[gk] using h2
 have e1:=nA (l:=l) (i:=i) hq
 have e2:=nA (l:=l) (i:=i+1) hq
 rw[show(kW l (i+1)).getD q 0=(kW l (i+1))[q] by simp[List.getD,h2]] at e2
 rw[show(kW l i).getD q 0=(kW l i)[q]'(by rw[gk];exact hq) by simp[List.getD,gk,hq]] at e1
 rw[e2,List.getElem_set,List.getElem_set,e1]
 by_cases c1:l.length - 1 - i=q
 ·subst c1
  rw[if_pos rfl,if_pos (by omega),show l.length - 1 - (l.length - 1 - i)=i by omega]
 ·rw[if_neg c1]
  by_cases c2:i=q
  ·subst c2
   rw[if_pos rfl,if_pos (by omega)]
  ·rw[if_neg c2]
   by_cases c3:q<i∨l.length≤q+i
   ·rw[if_pos c3,if_pos (by omega)]
   ·rw[if_neg c3,if_neg (by omega)]
set_option maxHeartbeats 1000000 in
theorem pL {b:Nat} {l:List Int} {H:Hp} {nx:Nat} (hb:b<nx) (hl:l.length≤1048576) (r:∃d,bt H b=some (.row 3 1 d (l.map i64))):
 cJ Tryz.prog 83 [.sl b l.length] H nx (fun _ H' n=>(∃d,bt H' b=some (.row 3 1 d (l.reverse.map i64)))∧nx≤n∧∀y,y<nx→y≠b→bt H' y=bt H y):=by
 obtain⟨d0,r0'⟩:=r
 refine aL OI rfl ?_
 have a0:(l.map i64).length=l.length:=by simp
 refine cU ?_
 refine aM (fun σ:Nat×Int=>[(0, .sl b l.length),(2,i64 σ.1),(3,i64 σ.2)]) (fun σ H2 n=>σ.2=(l.length:Int) - 1 - σ.1∧2 * σ.1≤l.length+1∧nx≤n∧(∃d,bt H2 b=some (.row 3 1 d ((kW l σ.1).map i64)))∧∀y,y<nx→y≠b→bt H2 y=bt H y) (fun σ=>l.length - σ.1) (0,(l.length:Int) - 1) cH ⟨by simp,by dsimp only;omega,c8,⟨d0,by rw[J0];exact bx⟩,fun y h1 h2=>cA⟩ ?_
 clear r0' a0
 rintro⟨i,j⟩ H2 n ⟨hj,hi,hn,⟨d,r1⟩,hk⟩
 dsimp only at hj hi r1 ⊢
 have a0:((kW l i).map i64).length=l.length:=by simp[gk]
 by_cases hc:2 * i+1<l.length
 ·obtain⟨jn,rfl⟩:∃jn:Nat,j=jn:=⟨j.toNat,by omega⟩
  have hjn:jn=l.length - 1 - i:=by omega
  have e0:=fun d=>ints_at (l:=kW l i) (k:=i) (by rw[gk];omega) d
  have e1:=fun d=>ints_at (l:=kW l i) (k:=jn) (by rw[gk];omega) d
  have e2:∀x d,(((kW l i).map i64).set ((i:Int)).toNat x).getD ((jn:Int)).toNat d=i64 ((kW l i).getD jn 0):=fun x d=>by
   rw[getD_set_ne (by omega)];exact e1 d
  have v0:=nA (l:=l) (i:=i) (q:=i) (by omega)
  rw[if_neg (by omega)] at v0
  have v1:=nA (l:=l) (i:=i) (q:=jn) (by omega)
  rw[if_neg (by omega)] at v1
  rw[v0] at e0
  rw[v1] at e1 e2
  have e3:=e2 (i64 (l.getD jn 0))
  clear e2
  have hnx:=JZ hc
  rw[←hjn] at hnx
  refine cU ?_
  refine⟨(i+1,(jn:Int) - 1),by dsimp only;omega,cH,by dsimp only;omega,by dsimp only;omega,c8,⟨_,by dsimp only;rw[←hnx,List.map_set,List.map_set];exact bx⟩,fun y h1 h2=>Eq.trans cA (hk y h1 h2)⟩
 ·refine cU ?_
  rw[PD (by omega)] at r1
  exact⟨⟨d,bx⟩,c8,fun y h1 h2=>Eq.trans cA (hk y h1 h2)⟩
def iV (l:List cV):Nat→Nat→List Int
 |0,_=>[]
 |f+1,k=>if 0≤(l.getD k default).from_ then(l.getD k default).dW::iV l f (l.getD k default).from_.toNat else[]
theorem iN.vv {u:bw} {l:List cV} (h:iN u l) {k:Nat} (hk:k<l.length) (h0:0≤(l.getD k default).from_):(l.getD k default).from_.toNat<k∧0<k:=by
 rcases Nat.eq_zero_or_pos k with e|e
 ·subst e;rw[h.first] at h0;exact absurd h0 (by simp)
 ·obtain⟨k',t,h1,_,_,h2⟩:=h.LR k e hk
  rw[h2]
  exact⟨by dsimp only;omega,e⟩
theorem rZ {u:bw} {l:List cV} (h:iN u l):∀{f g k:Nat},k<l.length→k≤f→k≤g→iV l f k=iV l g k
 |0,0,k,hk,hf,hg=>rfl
 |0,g+1,k,hk,hf,hg=>by
  obtain rfl:k=0:=by omega
  rw[iV,iV,h.first];rfl
 |f+1,0,k,hk,hf,hg=>by
  obtain rfl:k=0:=by omega
  rw[iV,iV,h.first];rfl
 |f+1,g+1,k,hk,hf,hg=>by
  rw[iV,iV]
  split
  ·rename_i h0
   obtain⟨h1,h2⟩:=h.vv hk h0
   rw[rZ h (f:=f) (g:=g) (by omega) (by omega) (by omega)]
  ·rfl
abbrev nJ (l:List cV) (k:Nat):List Int:=iV l k k
theorem xJ {u:bw} {l:List cV} (h:iN u l) {k:Nat} (hk:k<l.length) (h0:0≤(l.getD k default).from_):nJ l k=(l.getD k default).dW::nJ l (l.getD k default).from_.toNat:=by
 obtain⟨h1,h2⟩:=h.vv hk h0
 obtain⟨f,rfl⟩:∃f,k=f+1:=⟨k - 1,by omega⟩
 show iV l (f+1) (f+1)=_
 rw[iV,if_pos h0]
 congr 1
 exact rZ h (by omega) (by omega) (Nat.le_refl _)
theorem uC {l:List cV} {k:Nat} (h0:¬0≤(l.getD k default).from_):nJ l k=[]:=by
 show iV l k k=[]
 cases k with
 |zero=>rfl
 |succ f=>rw[iV,if_neg h0]
theorem uB (l:List cV):∀f k,(iV l f k).length≤f
 |0,k=>Nat.le_refl _
 |f+1,k=>by
  rw[iV]
  split
  ·rw[List.length_cons];have:=uB l f (l.getD k default).from_.toNat;omega
  ·simp
def fM (u:bw) (l:List cV) (e:cm) (k:Nat):Option Nat:=(List.range k).find? fun i=>(l.getD i default).m.stuck u&&decide (fq ((l.getD i default).m.end_ u) e=0)
theorem B4 (u:bw) (l:List cV) (e:cm) (k:Nat):fM u l e (k+1)=match fM u l e k with
 |some i=>some i
 |none=>if(l.getD k default).m.stuck u&&decide (fq ((l.getD k default).m.end_ u) e=0) then some k else none:=by
 unfold fM
 rw[List.range_succ,List.find?_append]
 cases(List.range k).find? fun i=>(l.getD i default).m.stuck u&&decide (fq ((l.getD i default).m.end_ u) e=0) with
 |some i=>rfl
 |none=>
  simp only[Option.none_or,List.find?_cons,List.find?_nil]
  split<;>simp_all
theorem NF {u:bw} {l:List cV} {e:cm} {k i:Nat} (h:fM u l e k=some i):i<k:=by
 have:=List.mem_of_find?_eq_some h
 exact List.mem_range.1 this
def jh (l:List cV):Option Nat→List Int
 |none=>[]
 |some i=>(nJ l i).reverse
set_option maxHeartbeats 2000000 in
theorem WU {u:bw} (hr:cT u) {l:List cV} (hf:iN u l) (hl:l.length≤65536) {e:cm} (he1:e.cP.length * 16≤140737488355328) (he2:e.mem.length * 8≤140737488355328) {k:Nat} (hk:k<l.length) {ub ib eb wb W:Nat} {H:Hp} {nx:Nat} (hn:ub<nx∧ib<nx∧eb<nx∧wb<nx∧W<nx) (hne:ub≠ib∧ub≠wb∧ub≠W∧ib≠eb∧ib≠wb∧ib≠W∧eb≠wb∧eb≠W∧wb≠W)
 (r0:∃d,bt H ub=some (.row 25 3 d [u.av])) (r1:∃d,bt H ib=some (.row 4 1 d [bl (fM u l e k).isSome])) (r2:∃d,bt H eb=some (.row 105 3 d [e.av])) (r3:∃d,bt H wb=some (.row 31 1 d [.sl W (jh l (fM u l e k)).length])) (r4:∃d,bt H W=some (.row 3 1 d ((jh l (fM u l e k)).map i64))):
 cJ Tryz.prog 103 [kJ u l,i64 k, .pt ub 1 0 0, .pt ib 1 0 0, .pt eb 1 0 0, .pt wb 1 0 0] H nx (fun _ H' n=>(∃d,bt H' ib=some (.row 4 1 d [bl (fM u l e (k+1)).isSome]))∧(∃d,bt H' wb=some (.row 31 1 d [.sl W (jh l (fM u l e (k+1))).length]))∧(∃d,bt H' W=some (.row 3 1 d ((jh l (fM u l e (k+1))).map i64)))∧nx≤n∧∀y,y<nx→y≠ib→y≠wb→y≠W→bt H' y=bt H y):=by
 obtain⟨d0,r0'⟩:=r0
 obtain⟨d1,r1'⟩:=r1
 obtain⟨d2,r2'⟩:=r2
 obtain⟨d3,r3'⟩:=r3
 obtain⟨d4,r4'⟩:=r4
 obtain⟨n0,n1,n2,n3,n4⟩:=hn
 obtain⟨m0,m1,m2,m3,m4,m5,m6,m7,m8⟩:=hne
 obtain⟨hm,hp⟩:=hf.ok k hk
 have e0:∀d,(l.map (cV.av u)).getD ((k:Int)).toNat d= .agg [(l.getD k default).m.fz u,i64 (l.getD k default).from_,i64 (l.getD k default).dW]:=fun d=>by rw[Int.toNat_natCast];exact dA (cV.av u) l k d hk
 have a0:(l.map (cV.av u)).length=l.length:=by simp
 have hgl:=hr.qX
 have hml:=hm.ml
 have c0:=uw u hr (l.getD k default).m hm (by omega) (by omega)
 have c1:=oA ((l.getD k default).m.end_ u) e (by show(l.getD k default).m.cP.length<_;omega) (by show(l.getD k default).m.mem.length<_;omega)
 rw[B4]
 cases hh:fM u l e k with
 |some i=>
  rw[hh] at r1' r3' r4'
  dsimp only
  generalize (l.getD k default).m=m at *
  cases hs:m.stuck u with
  |true=>
   rw[lI,hs] at c0
   refine aL oq rfl ?_
   refine cU ?_
   exact⟨⟨_,bx⟩,⟨_,bx⟩,⟨_,bx⟩,c8,fun y y1 y2 y3 y4=>cA⟩
  |false=>
   rw[lI,hs] at c0
   refine aL oq rfl ?_
   refine cU ?_
   exact⟨⟨_,bx⟩,⟨_,bx⟩,⟨_,bx⟩,c8,fun y y1 y2 y3 y4=>cA⟩
 |none=>
  rw[hh] at r1' r3' r4'
  dsimp only
  by_cases hs:(l.getD k default).m.stuck u=true
  ·rw[lI,hs] at c0
   by_cases hc:fq ((l.getD k default).m.end_ u) e=0
   ·rw[hs,decide_eq_true hc,if_pos (by rfl)]
    rw[decide_eq_true hc] at c1
    refine aL oq rfl ?_
    refine cU ?_
    clear c0 c1 e0 r0' r2'
    have hway:jh l none=[]:=rfl
    rw[hway] at r3' r4'
    refine aM (fun σ:Nat×List Int=>[(0,kJ u l),(5, .pt wb 1 0 0),(10,i64 σ.1)])
     (fun σ H2 n=>σ.1<l.length∧σ.2++nJ l σ.1=nJ l k∧nx≤n∧(∃d,bt H2 ib=some (.row 4 1 d [bl true]))∧(∃d,bt H2 wb=some (.row 31 1 d [.sl W σ.2.length]))∧(∃d,bt H2 W=some (.row 3 1 d (σ.2.map i64)))∧∀y,y<nx→y≠ib→y≠wb→y≠W→bt H2 y=bt H y) (fun σ=>σ.1) (k,[]) cH
     ⟨hk,rfl,c8,⟨_,bx⟩,⟨_,bx⟩,⟨_,bx⟩,fun y y1 y2 y3 y4=>cA⟩ ?_
    clear r1' r3' r4'
    rintro⟨at_,acc⟩ H2 n ⟨hat,hacc,hn2,⟨d1,r1'⟩,⟨d3,r3'⟩,⟨d4,r4'⟩,hkp⟩
    dsimp only at hat hacc r3' r4' ⊢
    have hbl:=uB l k k
    have hal:acc.length≤65536:=by
     have:=congrArg List.length hacc
     rw[List.length_append] at this
     have:(nJ l k).length≤k:=hbl
     omega
    have a1:(acc.map i64).length=acc.length:=by simp
    have e0:∀d,(l.map (cV.av u)).getD ((at_:Int)).toNat d= .agg [(l.getD at_ default).m.fz u,i64 (l.getD at_ default).from_,i64 (l.getD at_ default).dW]:=fun d=>by rw[Int.toNat_natCast];exact dA (cV.av u) l at_ d hat
    by_cases h0:0≤(l.getD at_ default).from_
    ·obtain⟨hlt,hpos⟩:=hf.vv hat h0
     have hon:=xJ hf hat h0
     obtain⟨q,hq⟩:∃q:Nat,(l.getD at_ default).from_=q:=⟨_,(Int.toNat_of_nonneg h0).symm⟩
     rw[hq] at e0 hlt hon
     rw[Int.toNat_natCast] at hlt hon
     have hge:¬(q:Int)<0:=by omega
     refine cU ?_
     refine⟨(q,acc++[(l.getD at_ default).dW]),hlt,cH,by dsimp only;omega,by dsimp only;rw[List.append_assoc,List.singleton_append,←hon];exact hacc,c8,⟨_,bx⟩,⟨_,by dsimp only;rw[List.length_append];exact bx⟩,⟨_,by dsimp only;rw[List.map_append];exact bx⟩,fun y y1 y2 y3 y4=>Eq.trans cA (hkp y y1 y2 y3 y4)⟩
    ·have hon:=uC h0
     rw[hon,List.append_nil] at hacc
     subst hacc
     refine cU ?_
     refine aJ (pL (b:=W) (l:=nJ l k) ?_ (by omega) ?_) ?_
     ·exact c8
     ·exact⟨_,bx⟩
     rintro _ H3 n3 ⟨⟨d5,r5⟩,hn3,hk3⟩
     have q1:=hk3 ib c8 (by omega)
     have q2:=hk3 wb c8 (by omega)
     refine cU ?_
     exact⟨⟨d1,q1.trans bx⟩,⟨d3,by simp only[jh,List.length_reverse];exact q2.trans bx⟩,⟨d5,bx⟩,c8,fun y y1 y2 y3 y4=>(hk3 y c8 y4).trans (Eq.trans cA (hkp y y1 y2 y3 y4))⟩
   ·rw[hs,decide_eq_false hc,if_neg (by decide)]
    rw[decide_eq_false hc] at c1
    refine aL oq rfl ?_
    refine cU ?_
    exact⟨⟨_,bx⟩,⟨_,bx⟩,⟨_,bx⟩,c8,fun y y1 y2 y3 y4=>cA⟩
  ·have hs2:(l.getD k default).m.stuck u=false:=by simpa using hs
   rw[lI,hs2] at c0
   rw[hs2,Bool.false_and,if_neg (by decide)]
   refine aL oq rfl ?_
   refine cU ?_
   exact⟨⟨_,bx⟩,⟨_,bx⟩,⟨_,bx⟩,c8,fun y y1 y2 y3 y4=>cA⟩
end Go.Proofs.YtjopoheligmmoaaGreatDoor
end
