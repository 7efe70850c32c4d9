import Derived.Test.YtjopoheligmmoaaGreatDoorM34
import Derived.Test.YtjopoheligmmoaaGreatDoorM36
import Derived.Test.YtjopoheligmmoaaGreatDoorM37
import Derived.Lib.ItoaLen
import Derived.Test.YtjopoheligmmoaaGreatDoorM32
section
/- A machine in rows told by value, within a list of what was found. -/
namespace Go.Proofs.YtjopoheligmmoaaGreatDoor
open Go Go.cZ Go.Proofs
set_option linter.unusedSimpArgs false
set_option linter.unusedVariables false
set_option maxRecDepth 8000
def jr (S:List Nat) (H:Hp):Hp:=S.map fun y=>(y,bu H y)
theorem A1 {S:List Nat} {H:Hp} {y:Nat} (h:y∈S):bu (jr S H) y=bu H y:=by
 induction S with
 |nil=>cases h
 |cons x S ih=>
  rw[jr,List.map_cons]
  by_cases e:y=x
  ·subst e;exact cq _ _ _
  ·rw[c8 e]
   exact ih (by simpa[e] using h)
theorem qY {S:List Nat} {H:Hp} {y:Nat} {q:eU} (h:bu (jr S H) y=some q):bu H y=some q:=by
 have:y∈S:=by
  have:=mq h
  simpa[jr] using this
 rw[A1 this] at h;exact h
theorem eG {S:List Nat} {H H2:Hp} {y:Nat} (h:y∉S):bu (lY (jr S H) H2) y=bu H2 y:=fW (by simpa[jr] using h)
section
variable {u:bx} {m:MS} {L:ML} {H:Hp}
theorem ML.At.tq (h:L.At u m H) (k:Nat):Go.cZ.gw (jr L.all H) (k+4) (.pt L.mr 1 0 0)=m.fz u:=by
 have h:=h.cU (H':=jr L.all H) fun y hy=>A1 hy
 generalize jr L.all H=G at *
 obtain⟨d1,h1⟩:=h.rM
 obtain⟨d2,h2⟩:=h.rA
 obtain⟨d3,h3⟩:=h.rS
 obtain⟨d4,h4⟩:=h.rE
 obtain⟨d5,h5⟩:=h.rH
 obtain⟨d6,h6⟩:=h.rP
 have hsl:(eT L.ids m.cA).length=m.cA.length:=vQ h.len
 have hs:(eT L.ids m.cA).map (Go.cZ.gw G (k+1))=m.cA.map cM:=by
  apply List.ext_getElem (by simp[hsl])
  intro t q1 q2
  have ht:t<m.cA.length:=by simpa using q2
  have hti:t<L.ids.length:=by rw[h.len];exact ht
  obtain⟨d,hd⟩:=h.rL t ht
  rw[show L.ids.getD t 0=L.ids[t] by simp[List.getD,hti],show m.cA.getD t []=m.cA[t] by simp[List.getD,ht]] at hd
  rw[List.getElem_map,List.getElem_map]
  simp only[eT,List.getElem_map,List.getElem_zip]
  rw[mu hd (by simp),fx _ ((cB _ _).2 fun _ _=>by simp[cI])]
 rw[show Go.cZ.gw G (k+4) (.pt L.mr 1 0 0)= .ip 8 .any ([m.rows u L.a L.s L.me L.ho L.pr].map (Go.cZ.gw G (k+3))) 0 0 from RS h1 rfl]
 simp only[List.map_cons,List.map_nil,MS.rows]
 rw[yP]
 simp only[List.map_cons,List.map_nil]
 rw[mu h2 (by simp),mu h3 hsl,mu h4 (by simp),mu h5 (by simp),mu h6 (by simp),hs]
 rw[fx _ ((cB _ _).2 fun _ _=>by simp[cI]),fx _ ((cB _ _).2 fun _ _=>by simp[cI]),fx _ ((cB _ _).2 fun _ _=>by simp[cI]),fx _ ((cB _ _).2 fun _ _=>by simp[cI])]
 rw[k8 _ (show cI 0 (ct u.shared) by simp[cI,cB]),k8 _ (show cI 0 (ct u.cE) by simp[cI,cB]),k8 _ (show cI 0 (di u.bz) by simp[cI,cB])]
 rfl
end
def cW.cells (u:bx) (f:cW):List AV:=[f.m.fz u,i64 f.from_,i64 f.df]
abbrev cW.av (u:bx) (f:cW):AV:= .agg (f.cells u)
abbrev kT (u:bx) (l:List cW):AV:= .im 3 .any (l.map (cW.av u))
@[simp] theorem IU (n:Nat) (u:bx) (f:cW):cX n (f.cells u):=by
  have:=nr n u f.m
  simp[cW.cells,cX,cI]
theorem CA (u:bx) (l:List cW):cX 0 (l.map (cW.av u)):=(cB _ _).2 fun _ _=>by simp only[cW.av,cI];exact IU _ _ _
theorem uk {u:bx} {m:MS} {L:ML} {H:Hp} {lb nx:Nat} {d:AV} {l:List cW} {fr th:Int} (hM:L.At u m H) (hl:bu H lb=some (.row 163 3 d (l.map (cW.av u)++[.agg [.pt L.mr 1 0 0,i64 fr,i64 th]]))) (hlb:lb∉L.all):
 Wk .any H nx .any (lY (jr L.all H) ((lb,some (.row 163 3 .any ((l++[(⟨m,fr,th⟩:cW)]).map (cW.av u))))::H)) nx:=by
 have:=Wk.gw (nx:=nx) (jr L.all H) 5 .any hl (fun b q hq=>qY hq)
 rw[List.map_append,fx _ (CA u l),List.map_cons,List.map_nil,yP,List.map_cons,List.map_cons,List.map_cons,List.map_nil,hM.tq 0,k8 _ (show cI 0 (i64 fr) by simp[cI]),k8 _ (show cI 0 (i64 th) by simp[cI])] at this
 rw[List.map_append]
 exact this
end Go.Proofs.YtjopoheligmmoaaGreatDoor
end
section
/- Keys are short, and tell situations apart as texts do. -/
namespace Go.Proofs.YtjopoheligmmoaaGreatDoor
open Go Go.cZ Go.Proofs
set_option linter.unusedSimpArgs false
set_option linter.unusedVariables false
theorem mm {α:Type} (f:α→List UInt8) (k:Nat):∀l:List α,(∀a∈l,(f a).length≤k)→(l.flatMap f).length≤l.length * k
 |[],_=>by simp
 |a::l,h=>by
  have h1:=mm f k l fun b hb=>h b (by simp[hb])
  have h2:=h a (by simp)
  rw[List.flatMap_cons,List.length_append,List.length_cons,Nat.add_mul]
  omega
theorem nG {x:Int} (e:List UInt8) (h:eQ x):(ej x e).length≤21+e.length:=by
 have:=Go.Lib.itoa_length_le x h.1 (by have:=h.2;omega)
 unfold ej
 rw[List.length_append]
 omega
theorem eN.WB {u:bx} {m:MS} (hr:cT u) (h:eN u m):(gx m).length≤100000000+m.cP.length * 50:=by
 have hf:=hr.pz
 have hal:=h.pk
 have hml:=h.ml
 have hhl:=h.hl
 have hn:∀t,t<u.bz.length→(u.gr t).nodes.length≤4096∧(u.gr t).cA≤4160:=fun t ht=>⟨(hr.gr ht).len.2,(hr.gr ht).cA.2⟩
 have h1:((List.range m.at_.length).flatMap (xF m)).length≤(List.range m.at_.length).length * 100000:=by
  refine mm _ _ _ fun t ht=> ?_
  have ht:=List.mem_range.1 ht
  have hat:=h.gb t (by omega)
  obtain⟨n1,n2⟩:=hn t (by omega)
  have hs:=h.D4 t (by omega)
  have a1:=nG (x:=m.at_.getD t 0) [44] ⟨by omega,by omega⟩
  have a2:=mm (fun w=>ej w [44]) 22 (m.cA.getD t []) fun w hw=>nG [44] (h.D5 t (by omega) w hw)
  have e:(xF m t).length=(ej (m.at_.getD t 0) [44]).length+((m.cA.getD t []).flatMap (fun w=>ej w [44])).length+1:=by simp only[xF,List.length_append,List.length_cons,List.length_nil]
  simp only[List.length_cons,List.length_nil] at a1
  rw[e]
  omega
 rw[List.length_range] at h1
 have h2:=mm (fun w=>ej w [44]) 22 m.mem fun w hw=>nG [44] (h.mw w hw)
 have h3:=mm (fun w=>ej w [44]) 22 m.hold fun w hw=>nG [44] (by have:=h.hw w hw;exact⟨by omega,by omega⟩)
 have h4:=mm KF 50 m.cP fun p hp=>by
  obtain⟨p1,p2,p3⟩:=h.pw p hp
  have a1:=nG (x:=p.df) [58] ⟨by omega,by omega⟩
  have a2:=nG (x:=p.word) [44] p3
  simp only[List.length_cons,List.length_nil] at a1 a2
  unfold KF
  rw[List.length_append]
  omega
 rw[wV]
 omega
theorem eN.ZW {u:bx} {m:MS} (hr:cT u) (h:eN u m) (hp:m.cP.length≤1048576):MsW m:=by
 have hf:=hr.pz
 refine⟨fun w hw=> ?_,by rw[h.sl,h.pk],fun l hl w hw=> ?_,h.mw,fun w hw=> ?_,fun p hp=> ?_, ?_⟩
 ·obtain⟨t,ht,rfl⟩:=List.mem_iff_getElem.1 hw
  have h1:=h.gb t (by rw[←h.pk];exact ht)
  have h2:=(hr.gr (t:=t) (by rw[←h.pk];exact ht)).len.2
  rw[show m.at_.getD t 0=m.at_[t] by simp[List.getD,ht]] at h1
  exact⟨by omega,by omega⟩
 ·obtain⟨t,ht,rfl⟩:=List.mem_iff_getElem.1 hl
  have:=h.D5 t (by rw[←h.sl];exact ht) w
  rw[show m.cA.getD t []=m.cA[t] by simp[List.getD,ht]] at this
  exact this hw
 ·have:=h.hw w hw
  exact⟨by omega,by omega⟩
 ·obtain⟨p1,p2,p3⟩:=h.pw p hp
  exact⟨⟨by omega,by omega⟩,p3⟩
 ·have:=h.WB hr
  omega
theorem UB {a b:List UInt8} (h:kz a=kz b):a=b:=by
 have:=congrArg (fun x:ByteArray=>x.data.toList) h
 simpa[kz] using this
abbrev jT (l:List cW):List (ByteArray×Int):=l.map fun f=>(kz (gx f.m),1)
abbrev oC (l:List cW):List AV:=qP (fun s:ByteArray=>Value.string s) i64 (jT l)
theorem sh (l:List cW) (k:List UInt8):eh (jT l) (kz k)=if k∈jS l then some 1 else none:=by
 split
 ·rename_i h
  cases hl:eh (jT l) (kz k) with
  |none=>
   exfalso
   refine(qK _ _).1 hl ?_
   rw[List.map_map]
   obtain⟨f,h1,h2⟩:=List.mem_map.1 h
   exact List.mem_map.2 ⟨f,h1,by simp only[Function.comp];rw[h2]⟩
  |some v=>
   have hv:∀(l:List cW),eh (jT l) (kz k)=some v→v=1:=by
    intro l
    induction l with
    |nil=>intro h;cases h
    |cons f l ih=>
     intro h
     rw[jT,List.map_cons,eh] at h
     split at h
     ·cases h;rfl
     ·exact ih h
   rw[hv l hl]
 ·rename_i h
  refine(qK _ _).2 fun hm=>h ?_
  rw[List.map_map] at hm
  obtain⟨f,h1,h2⟩:=List.mem_map.1 hm
  simp only[Function.comp] at h2
  exact List.mem_map.2 ⟨f,h1,UB h2⟩
theorem JJ {l:List cW} {m:MS} {a b:Int} (h:gx m∉jS l):jA (jT l) (kz (gx m)) 1=jT (l++[⟨m,a,b⟩]):=by
 have key:∀E:List (ByteArray×Int),eh E (kz (gx m))=none→jA E (kz (gx m)) 1=E++[(kz (gx m),1)]:=by
  intro E
  induction E with
  |nil=>intro _;rfl
  |cons p E ih=>
   intro hn
   obtain⟨x,y⟩:=p
   rw[eh] at hn
   rw[jA]
   split at hn
   ·cases hn
   ·rename_i hx
    rw[if_neg hx,ih hn];rfl
 rw[key _ (by rw[sh,if_neg h]),jT,jT,List.map_append];rfl
end Go.Proofs.YtjopoheligmmoaaGreatDoor
end
section
/- All situations: the walk. -/
namespace Go.Proofs.YtjopoheligmmoaaGreatDoor
open Go Go.cZ Go.Proofs
set_option linter.unusedSimpArgs false
set_option linter.unusedVariables false
set_option maxRecDepth 8000
theorem ET (u:bx) (hu:u.Wf) (hr:¬cT u) (most:Int) (g:Nat) (caps:List AV) (H0:Hp) (nx:Nat):cG Tryz.prog 92 [u.av,i64 most, .fn (.func g) [] caps] H0 nx (fun r H n=>r= .dK [i64 0,i64 60]∧nx≤n∧∀y,y<nx→bu H y=bu H0 y):=by
 have c0:=HC u hu hr
 refine aM CZ rfl ?_
 refine cV ?_
 exact⟨⟨rfl,ca,fun y hy=>cD⟩⟩
theorem uK (u:bx) (hu:u.Wf) (hr:cT u) (most:Int) (hm:¬(1≤most∧most≤65536)) (g:Nat) (caps:List AV) (H0:Hp) (nx:Nat):cG Tryz.prog 92 [u.av,i64 most, .fn (.func g) [] caps] H0 nx (fun r H n=>r= .dK [i64 0,i64 2]∧nx≤n∧∀y,y<nx→bu H y=bu H0 y):=by
 refine aM CZ rfl ?_
 refine cV ?_
 refine aL (pF u hu hr _ _) ?_
 rintro r H1 n1 ⟨L,rfl,hM,hlt,hn1,hk1⟩
 by_cases h1:most<1
 ·refine cV ?_
  exact⟨⟨rfl,ca,fun y hy=>Eq.trans cD ((hk1 y ca).trans cD)⟩⟩
 ·have h2:65536<most:=by omega
  refine cV ?_
  exact⟨⟨rfl,ca,fun y hy=>Eq.trans cD ((hk1 y ca).trans cD)⟩⟩
theorem BZ (u:bx) (hr:cT u) (m:MS) (h:eN u m) (hp:m.cP.length≤1048576) (H0:Hp) (nx:Nat):cG Tryz.prog 146 [m.fz u] H0 nx (fun r H n=>∃L:ML,r= .pt L.mr 1 0 0∧L.At u m H∧(∀x∈L.all,nx≤x∧x<n)∧nx≤n∧∀y,y<nx→bu H y=bu H0 y):=by
 have hgl:=hr.pz
 refine(B0 u m (by have:=h.pk;omega) (by have:=h.ml;omega) (by have:=h.hl;omega) hp (by have:=h.sl;omega) (fun x hx=> ?_) H0 nx).mono ?_
 ·obtain⟨s,hs,rfl⟩:=List.mem_iff_getElem.1 hx
  have h1:=h.D4 s (by rw[←h.sl];exact hs)
  have h2:=(hr.gr (t:=s) (by rw[←h.sl];exact hs)).cA.2
  rw[show m.cA.getD s []=m.cA[s] by simp[List.getD,hs]] at h1
  omega
 ·rintro r H n ⟨mr,a,s,me,ho,pr,ids,rfl,h1,h2,h3,h4⟩
  exact⟨⟨mr,a,s,me,ho,pr,ids⟩,rfl,h1,h2,h3,h4⟩
def QL (u:bx) (most:Int) (I:Nat→Hp→Prop) (nx:Nat) (H0:Hp) (r:AV) (H:Hp) (n:Nat):Prop:=
 nx≤n∧match gZ u most.toNat with
 |none=>r= .dK [i64 0,i64 3]∧∀y,y<nx→bu H y=bu H0 y
 |some l=>r= .dK [i64 l.length,i64 0]∧I l.length H
set_option maxHeartbeats 4000000 in
theorem rh (u:bx) (hu:u.Wf) (hr:cT u) (most:Int) (hm:1≤most∧most≤65536) (g:Nat) (caps:List AV) (H0:Hp) (nx:Nat) (I:Nat→Hp→Prop) (hI0:I 0 H0) (hst:∀k H H',I k H→(∀y,y<nx→bu H' y=bu H y)→I k H')
 (hcl:∀l,gZ u most.toNat=some l→∀k H n,k<l.length→nx≤n→I k H→cG Tryz.prog g ([kT u l,i64 k]++caps) H n (fun _ H' n'=>I (k+1) H'∧n≤n'∧∀y,nx≤y→y<n→bu H' y=bu H y)):
 cG Tryz.prog 92 [u.av,i64 most, .fn (.func g) [] caps] H0 nx (QL u most I nx H0):=by
 obtain⟨mo,rfl⟩:∃mo:Nat,most=mo:=⟨most.toNat,by omega⟩
 have hgl:=hr.pz
 unfold QL
 rw[Int.toNat_natCast] at hcl ⊢
 refine aM CZ rfl ?_
 refine cV ?_
 refine aL (pF u hu hr _ _) ?_
 rintro r H1 n1 ⟨L,rfl,hM,hlt,hn1,hk1⟩
 have hF:=iU.init u hu hr
 have hm0:=(hF.ok 0 hF.pos).1
 have hm0':(List.getD (jz u) 0 default).m=dY u:=rfl
 rw[hm0'] at hm0
 have g0:pD true (Value.string (kz (gx (dY u)))) [] (i64 1)=some (oC (jz u)):=rfl
 have h65:(65536:Int)<mo→False:=by omega
 refine cV ?_
 refine aT (wU u (dY u) (hm0.ZW hr (by simp[dY]))) (args2:=[(dY u).fz u]) ?_ (by simp[cX,nr]) trivial ?_
 ·rw[List.map_cons,List.map_nil]
  congr 1
  exact(hM.cU fun y hy=>by have:=hlt y hy;exact cD).IX 2
 refine cV ?_
 have hno:∀y,y<nx+1∨n1≤y→y∉L.all:=fun y hy hm=>by have:=hlt y hm;omega
 refine aV (fun σ:Nat×List cW=>[(1,i64 mo),(2, .fn (.func g) [] caps),(3, .pt nx 1 0 0),(10, .sl (n1+15) σ.2.length),(11, .mp (n1+17)),(12,i64 σ.1)])
  (fun σ H n=>σ.1≤σ.2.length∧σ.2.length≤mo∧iU u σ.2∧xX u mo (mo - σ.1) σ.1 σ.2=gZ u mo∧n1+23≤n∧(∃d,bu H nx=some (.row 25 3 d [u.av]))∧(∃d,bu H (n1+15)=some (.row 163 3 d (σ.2.map (cW.av u))))∧(∃e d,bu H (n1+17)=some (.row e 0 d (mapA (oC σ.2))))∧∀y,y<nx→bu H y=bu H0 y) (fun σ=>mo - σ.1) (0,jz u)
  ⟨_,_,_,Rt.wk (uk (lb:=n1+15) (l:=[]) (fr:=-1) (th:=0) (hM.cU ?_) bw (hno _ (by omega))),cK,Nat.zero_le _,by show 1≤mo;omega,hF,rfl,ca,⟨_,(eG (hno _ (by omega))).trans (Eq.trans cD ((hk1 nx (by omega)).trans bw))⟩,⟨_,(eG (hno _ (by omega))).trans bw⟩,⟨_,_,(eG (hno _ (by omega))).trans bw⟩,fun y hy=>(eG (hno _ (by omega))).trans (Eq.trans cD ((hk1 y ca).trans cD))⟩ ?_
 ·intro y hy
  have:=hlt y hy
  exact cD
 clear hM hlt hk1 hno
 rintro⟨k,l⟩ H n ⟨hk,hl,hfs,hall,hn,⟨d0,r0'⟩,⟨d1,r1'⟩,⟨e2,d2,r2'⟩,hkp⟩
 dsimp only at hk hl hfs hall r1' r2' ⊢
 by_cases hkl:k<l.length
 ·have e0:∀d,(l.map (cW.av u)).getD ((k:Int)).toNat d=(l.getD k default).av u:=fun d=>by rw[Int.toNat_natCast];exact dQ (cW.av u) l k d hkl
  have a0:(l.map (cW.av u)).length=l.length:=by simp
  have hgeq:∀l':List cW,l<+:l'→l'.getD k default=l.getD k default:=fun l' ⟨q,hq⟩=>by rw[←hq];simp[List.getD,List.getElem?_append,hkl]
  have hmk:mo - k=(mo - (k+1))+1:=by omega
  rw[hmk,xX,if_pos hkl] at hall
  obtain⟨hmok,hpl⟩:=hfs.ok k hkl
  have hmdef:(l.getD k default).m=(l.getD k default).m:=rfl
  generalize hmm:(l.getD k default).m=m at hmok hpl
  have e0':∀d,(l.map (cW.av u)).getD ((k:Int)).toNat d= .agg [m.fz u,i64 (l.getD k default).from_,i64 (l.getD k default).df]:=fun d=>by rw[e0 d,←hmm];rfl
  clear e0
  have e0:=e0'
  refine cV ?_
  rw[List.length_map]
  refine aV (fun σ:Nat×List cW=>[(1,i64 mo),(2, .fn (.func g) [] caps),(3, .pt nx 1 0 0),(10, .sl (n1+15) σ.2.length),(11, .mp (n1+17)),(12,i64 k),(13,m.fz u),(52,i64 u.bz.length),(53,i64 σ.1)])
   (fun σ H n=>σ.1≤u.bz.length∧k<σ.2.length∧σ.2.length≤mo∧iU u σ.2∧(σ.2.getD k default).m=m∧(match DV u mo k ((List.range u.bz.length).drop σ.1) σ.2 with
    |none=>none
    |some l2=>xX u mo (mo - (k+1)) (k+1) l2)=gZ u mo∧n1+23≤n∧(∃d,bu H nx=some (.row 25 3 d [u.av]))∧(∃d,bu H (n1+15)=some (.row 163 3 d (σ.2.map (cW.av u))))∧(∃e d,bu H (n1+17)=some (.row e 0 d (mapA (oC σ.2))))∧∀y,y<nx→bu H y=bu H0 y) (fun σ=>u.bz.length - σ.1) (0,l)
   ⟨_,_,_,Rt.refl _ _ _,cK,Nat.zero_le _,hkl,hl,hfs,hmm,hall,ca,⟨_,bw⟩,⟨_,bw⟩,⟨_,_,bw⟩,fun y hy=>Eq.trans cD (hkp y hy)⟩ ?_
  clear e0 e0' a0 r0' r1' r2' hkp hall hfs hl hkl hgeq hn hmm
  rintro⟨t,l⟩ H n ⟨ht,hkl,hl,hfs,hmm,hall,hn,⟨d0,r0'⟩,⟨d1,r1'⟩,⟨e2,d2,r2'⟩,hkp⟩
  dsimp only at ht hkl hl hfs hmm hall r1' r2' ⊢
  have a0:(l.map (cW.av u)).length=l.length:=by simp
  by_cases htl:t<u.bz.length
  ·rw[show(List.range u.bz.length).drop t=t::(List.range u.bz.length).drop (t+1) by rw[List.drop_eq_getElem_cons (by simpa using htl)];simp,DV] at hall
   have c0:=L9 u hr m hmok t
   by_cases hb:m.kx u t=0
   ·have hal:=hmok.pk
    refine cV ?_
    refine aL (BZ u hr m hmok (by omega) _ _) ?_
    rintro r H2 n2 ⟨L2,rfl,hM2,hlt2,hn2,hk2⟩
    have hlt2:∀x∈L2.all,n+7≤x∧x<n2:=hlt2
    refine cV ?_
    refine aL (vS hu hr hmok (L:=L2) (hM2.cU ?_) ?_ (by omega) htl hb) ?_
    ·intro y hy
     have:=hlt2 y hy
     exact cD
    ·intro y hy
     have:=hlt2 y hy
     exact ca
    rintro r H3 n3 ⟨rfl,hM3,hn3,hk3⟩
    have hno:∀y,y<n+7∨n2≤y→y∉L2.all:=fun y hy hm=>by have:=hlt2 y hm;omega
    have hold:∀y,y<n→bu H3 y=bu H y:=fun y hy=>(hk3 y ca (hno y (by omega))).trans (Eq.trans cD ((hk2 y ca).trans cD))
    have hlt3:∀x∈L2.all,x<n3:=fun x hx=>by have:=hlt2 x hx;exact Nat.lt_of_lt_of_le this.2 ca
    obtain⟨hk9,_⟩:=kO hmok htl hb
    have hm2:=wy hu hr hmok htl hk9
    have hp2:=mS u m t
    have htry:EH u mo k t l=if gx (m.step u t).1∈jS l then some l else if l.length=mo then none else some (l++[⟨(m.step u t).1,k,t⟩]):=by
     unfold EH
     rw[hmm,if_neg (by omega)]
    rw[htry] at hall
    have hput:=fun(h:gx (m.step u t).1∉jS l)=>JJ (l:=l) (m:=(m.step u t).1) (a:=k) (b:=t) h
    have hadd:=fun(h:gx (m.step u t).1∉jS l)=>hfs.add hu hr hkl htl (by rw[hmm];exact hb) (by rw[hmm];exact h)
    rw[hmm] at hadd
    generalize (m.step u t).1=m2 at *
    have hkp3:∀y,y<nx→bu H3 y=bu H0 y:=fun y hy=>(hold y (by omega)).trans (hkp y hy)
    have q0:=(hold nx (by omega)).trans r0'
    have q1:=(hold (n1+15) (by omega)).trans r1'
    have q2:=(hold (n1+17) (by omega)).trans r2'
    have hget:=C3 wT i64 (kz (gx m2)) (jT l) (i64 0)
    rw[sh] at hget
    clear hk2 hk3 hM2 r0' r1' r2' hold hkp
    by_cases hin:gx m2∈jS l
    ·rw[if_pos hin] at hget hall
     have g0:mK true (Value.string (kz (gx m2))) (oC l) (i64 0)=some (i64 1,true):=hget
     refine cV ?_
     refine aT (wU u m2 (hm2.ZW hr (by omega))) (args2:=[m2.fz u]) ?_ (by simp[cX,nr]) trivial ?_
     ·rw[List.map_cons,List.map_nil]
      congr 1
      exact(hM3.cU fun y hy=>by have:=hlt3 y hy;exact cD).IX 2
     refine cV ?_
     exact⟨(t+1,l),by dsimp only;omega,_,_,_,Rt.refl _ _ _,cK,by dsimp only;omega,hkl,hl,hfs,hmm,hall,ca,⟨_,bw⟩,⟨_,bw⟩,⟨_,_,bw⟩,fun y hy=>Eq.trans cD (hkp3 y hy)⟩
    ·rw[if_neg hin] at hget hall
     have g0:mK true (Value.string (kz (gx m2))) (oC l) (i64 0)=some (i64 0,false):=hget
     by_cases hfull:l.length=mo
     ·rw[if_pos hfull] at hall
      refine cV ?_
      refine aT (wU u m2 (hm2.ZW hr (by omega))) (args2:=[m2.fz u]) ?_ (by simp[cX,nr]) trivial ?_
      ·rw[List.map_cons,List.map_nil]
       congr 1
       exact(hM3.cU fun y hy=>by have:=hlt3 y hy;exact cD).IX 2
      refine cV ?_
      have hall2:none=gZ u mo:=hall
      rw[←hall2]
      exact⟨⟨ca,rfl,fun y hy=>Eq.trans cD (hkp3 y hy)⟩⟩
     ·rw[if_neg hfull] at hall
      have g1:pD true (Value.string (kz (gx m2))) (oC l) (i64 1)=some (oC (l++[⟨m2,k,t⟩])):=by
       have:=C4 wT i64 (kz (gx m2)) 1 (jT l)
       rw[hput hin] at this
       exact this
      refine cV ?_
      refine aT (wU u m2 (hm2.ZW hr (by omega))) (args2:=[m2.fz u]) ?_ (by simp[cX,nr]) trivial ?_
      ·rw[List.map_cons,List.map_nil]
       congr 1
       exact(hM3.cU fun y hy=>by have:=hlt3 y hy;exact cD).IX 2
      refine cV ?_
      have hout:=hno
      refine⟨(t+1,l++[⟨m2,k,t⟩]),by dsimp only;omega,_,_,_,Rt.wk (uk (L:=L2) (lb:=n1+15) (m:=m2) (l:=l) (fr:=k) (th:=t) (hM3.cU ?_) bw (hno _ (by omega))),cK,by dsimp only;omega,by dsimp only;rw[List.length_append];omega,by dsimp only;simp only[List.length_append,List.length_cons,List.length_nil];omega,hadd hin,by dsimp only;rw[fp hkl];exact hmm,hall,ca,⟨_,(eG (hno _ (by omega))).trans bw⟩,⟨_,(eG (hno _ (by omega))).trans bw⟩,⟨_,_,(eG (hno _ (by omega))).trans bw⟩,fun y hy=>(eG (hno _ (by omega))).trans (Eq.trans cD (hkp3 y hy))⟩
      intro y hy
      have:=hlt2 y hy
      have:=hlt3 y hy
      exact cD
   ·have htry:EH u mo k t l=some l:=by
     unfold EH
     rw[hmm,if_pos hb]
    rw[htry] at hall
    refine cV ?_
    exact⟨(t+1,l),by dsimp only;omega,_,_,_,Rt.refl _ _ _,cK,by dsimp only;omega,hkl,hl,hfs,hmm,hall,ca,⟨_,bw⟩,⟨_,bw⟩,⟨_,_,bw⟩,fun y hy=>Eq.trans cD (hkp y hy)⟩
  ·have htG:t=u.bz.length:=by omega
   subst htG
   rw[List.drop_of_length_le (by simp),DV] at hall
   refine cV ?_
   exact⟨(k+1,l),by dsimp only;omega,_,_,_,Rt.refl _ _ _,cK,by dsimp only;omega,hl,hfs,hall,ca,⟨_,bw⟩,⟨_,bw⟩,⟨_,_,bw⟩,fun y hy=>Eq.trans cD (hkp y hy)⟩
 ·have hk2:k=l.length:=by omega
  refine cV ?_
  have hl2:gZ u mo=some l:=by
   rw[←hall]
   subst hk2
   cases h:mo - l.length with
   |zero=>rfl
   |succ q=>rw[xX,if_neg (by omega)]
  have hw:=fun(H':Hp) (n':Nat) (hr:bu H' (n1+15)=some (.row 163 3 d1 (l.map (cW.av u))))=>Wk.YG (r:= .sl (n1+15) l.length) (H:=H') (nx:=n') [(n1+15,some (.row 163 3 d1 (l.map (cW.av u))))] 1 (fun b q hq=>by
   by_cases hb:b=n1+15
   ·subst hb;rw[cq] at hq;rw[←hq];exact hr
   ·rw[c8 hb] at hq;cases hq)
  rw[NU (cq _ _ _) (by simp),se] at hw
  rw[hl2]
  refine aV (fun i:Nat=>[(2, .fn (.func g) [] caps),(10,kT u l),(86,i64 l.length),(87,i64 i)])
   (fun i H n=>i≤l.length∧nx≤n∧I i H) (fun i=>l.length - i) 0
   ⟨_,_,_,Rt.slot 10 rfl (hw _ _ bw),cK,Nat.zero_le _,ca,hst 0 _ _ hI0 fun y hy=>(c8 (by omega)).trans (Eq.trans cD (hkp y hy))⟩ ?_
  clear r0' r1' r2' hkp hw hn
  rintro i H n ⟨hi,hn,hI⟩
  by_cases hil:i<l.length
  ·refine cV ?_
   refine Eq.mpr (iH caps _) ?_
   show iL Tryz.prog g (kT u l::i64 i::caps) _ _ _
   refine aL (hcl l hl2 i _ _ hil ca (hst i H _ hI fun y hy=>cD)) ?_
   rintro _ H2 n2 ⟨hI2,hn2,_⟩
   refine cV ?_
   exact⟨i+1,by omega,_,_,_,Rt.refl _ _ _,cK,by omega,ca,hst _ _ _ hI2 fun y hy=>cD⟩
  ·obtain rfl:i=l.length:=by omega
   refine cV ?_
   exact⟨⟨ca,by rw[List.length_map],hst _ _ _ hI fun y hy=>cD⟩⟩
end Go.Proofs.YtjopoheligmmoaaGreatDoor
end
section
/- Ends compared: the code's Compare and Same. -/
namespace Go.Proofs.YtjopoheligmmoaaGreatDoor
open Go Go.cZ Go.Proofs
set_option linter.unusedSimpArgs false
set_option linter.unusedVariables false
theorem IE (p q:dW):Pure Tryz.prog 151 [p.av,q.av] (fun r=>r=i64 (jO p q)):=by
 have c0:=sA p.df q.df
 have c1:=uV p.word q.word
 have c2:=wc [eX p.df q.df,eX p.word q.word] (by simp)
 refine aJ yy rfl ?_
 refine cV ?_
 refine aT (args2:=[cM [eX p.df q.df,eX p.word q.word]]) (r:=i64 (jO p q)) c2 rfl (by simp[cX,cI]) trivial ?_
 refine cV ?_
 first|exact rfl|trivial
theorem vL {l:List dW} {i:Nat} (h:i<l.length) (d:AV):(l.map dW.av).getD ((i:Int)).toNat d=(l.getD i default).av:=by
 rw[Int.toNat_natCast];exact dQ dW.av l i d h
theorem BY (a b:List dW) (ha:a.length<9223372036854775807):Pure Tryz.prog 150 [fu a,fu b, .fn (.func 151) [] []] (fun r=>r=i64 (e8 jO a b)):=by
 refine aJ yx rfl ?_
 refine cV ?_
 rw[List.length_map]
 refine aN (fun i:Nat=>[(0,fu a),(1,fu b),(2, .fn (.func 151) [] []),(11,fu a),(12,i64 a.length),(13,i64 i)]) (fun i H n=>i≤a.length∧i≤b.length∧e8 jO a b=e8 jO (a.drop i) (b.drop i)) (fun i=>a.length - i) 0 cK ⟨Nat.zero_le _,Nat.zero_le _,rfl⟩ ?_
 rintro i H n ⟨hi,hib,ho⟩
 rw[ho]
 have a0:(a.map dW.av).length=a.length:=by simp
 have a1:(b.map dW.av).length=b.length:=by simp
 by_cases hil:i<a.length
 ·have e0:=fun d=>vL hil d
  by_cases hbl:i<b.length
  ·have e1:=fun d=>vL hbl d
   have hd:=wD jO default hil hbl
   have c0:=IE (a.getD i default) (b.getD i default)
   generalize a.getD i default=p at *
   generalize b.getD i default=q at *
   by_cases hz:jO p q=0
   ·have r0:=hz
    rw[if_pos hz] at hd
    refine cV ?_
    exact⟨i+1,by omega,cK,by omega,by omega,hd⟩
   ·have r0:=decide_eq_true hz
    rw[if_neg hz] at hd
    refine cV ?_
    rw[hd]
  ·rw[sE jO hil (by omega)]
   refine cV ?_
   first|exact rfl|trivial
 ·obtain rfl:i=a.length:=by omega
  rw[sC jO (Nat.le_refl _) hib]
  by_cases h:a.length<b.length
  ·rw[if_pos h]
   refine cV ?_
   first|exact rfl|trivial
  ·rw[if_neg h]
   refine cV ?_
   first|exact rfl|trivial
theorem BW (a b:List Int) (ha:a.length<9223372036854775807):Pure Tryz.prog 153 [cM a,cM b] (fun r=>r=i64 (e8 eX a b)):=by
 refine aJ yz rfl ?_
 refine cV ?_
 rw[List.length_map]
 refine aN (fun i:Nat=>[(0,cM a),(1,cM b),(9,cM a),(10,i64 a.length),(11,i64 i)]) (fun i H n=>i≤a.length∧i≤b.length∧e8 eX a b=e8 eX (a.drop i) (b.drop i)) (fun i=>a.length - i) 0 cK ⟨Nat.zero_le _,Nat.zero_le _,rfl⟩ ?_
 rintro i H n ⟨hi,hib,ho⟩
 rw[ho]
 have a0:(a.map i64).length=a.length:=by simp
 have a1:(b.map i64).length=b.length:=by simp
 by_cases hil:i<a.length
 ·have e0:=fun d=>ints_at hil d
  by_cases hbl:i<b.length
  ·have e1:=fun d=>ints_at hbl d
   have hd:=wD eX 0 hil hbl
   have c0:=uV (a.getD i 0) (b.getD i 0)
   generalize a.getD i 0=p at *
   generalize b.getD i 0=q at *
   by_cases hz:eX p q=0
   ·have r0:=hz
    rw[if_pos hz] at hd
    refine cV ?_
    exact⟨i+1,by omega,cK,by omega,by omega,hd⟩
   ·have r0:=decide_eq_true hz
    rw[if_neg hz] at hd
    refine cV ?_
    rw[hd]
  ·rw[sE eX hil (by omega)]
   refine cV ?_
   first|exact rfl|trivial
 ·obtain rfl:i=a.length:=by omega
  rw[sC eX (Nat.le_refl _) hib]
  by_cases h:a.length<b.length
  ·rw[if_pos h]
   refine cV ?_
   first|exact rfl|trivial
  ·rw[if_neg h]
   refine cV ?_
   first|exact rfl|trivial
theorem uU (a b:cn) (h1:a.cP.length<9223372036854775807) (h2:a.mem.length<9223372036854775807):Pure Tryz.prog 96 [a.av,b.av] (fun r=>r=i64 (fw a b)):=by
 have c0:=BY a.cP b.cP h1
 have c1:=BW a.mem b.mem h2
 have c2:=wc [e8 jO a.cP b.cP,e8 eX a.mem b.mem,wB a.ended b.ended] (by simp)
 obtain⟨ap,am,ae⟩:=a
 obtain⟨bp,bm,be⟩:=b
 cases ae<;>cases be<;>(refine aJ OW rfl ?_;refine cV ?_;refine aT (args2:=[cM [e8 jO ap bp,e8 eX am bm,_]]) (r:=i64 (tG [e8 jO ap bp,e8 eX am bm,_])) c2 rfl (by simp[cX,cI]) trivial ?_;refine cV ?_;first|exact rfl|trivial)
theorem oH (a b:cn) (h1:a.cP.length<9223372036854775807) (h2:a.mem.length<9223372036854775807):Pure Tryz.prog 98 [a.av,b.av] (fun r=>r=bl (decide (fw a b=0))):=by
 have c0:=uU a b h1 h2
 refine aJ OX rfl ?_
 refine cV ?_
 refine fA ?_
 simp
end Go.Proofs.YtjopoheligmmoaaGreatDoor
end
section
/- Ends compared: the document's Compare; the plain laws. -/
namespace Go.Proofs.YtjopoheligmmoaaGreatDoor
open Go Go.cZ Go.Proofs
set_option linter.unusedSimpArgs false
set_option linter.unusedVariables false
theorem Q6 (x:Int):eX x x=0:=by unfold eX;simp
end Go.Proofs.YtjopoheligmmoaaGreatDoor
end
section
/- Ends compared: the order's plain laws. -/
namespace Go.Proofs.YtjopoheligmmoaaGreatDoor
open Go Go.cZ Go.Proofs
set_option linter.unusedSimpArgs false
set_option linter.unusedVariables false
theorem sB (x y:Int):eX y x=-eX x y:=by
 unfold eX
 repeat' (first|omega|split)
theorem wa:∀l:List Int,tG (l.map (-·))=-tG l
 |[]=>rfl
 |x::l=>by
  simp only[List.map_cons,tG]
  by_cases h:x=0
  ·rw[if_pos (by omega),if_pos h];exact wa l
  ·rw[if_neg (by omega),if_neg h]
theorem MC (p q:dW):jO q p=-jO p q:=by
 unfold jO
 rw[←wa,sB p.df,sB p.word];rfl
theorem sD {α:Type} {f:α→α→Int} (hf:∀x y,f y x=-f x y):∀a b:List α,e8 f b a=-e8 f a b
 |[],[]=>rfl
 |[],_::_=>rfl
 |_::_,[]=>rfl
 |x::a,y::b=>by
  rw[e8,e8,hf x y]
  by_cases h:f x y=0
  ·rw[if_pos (by omega),if_pos h];exact sD hf a b
  ·rw[if_neg (by omega),if_neg h]
theorem MA (a b:Bool):wB b a=-wB a b:=by cases a<;>cases b<;>rfl
theorem MB (a b:cn):fw b a=-fw a b:=by
 unfold fw
 rw[←wa,sD MC a.cP,sD sB a.mem,MA a.ended];rfl
theorem AH {l:List Int}:tG l=0↔∀x∈l,x=0:=by
 induction l with
 |nil=>simp[tG]
 |cons x l ih=>
  rw[tG]
  by_cases h:x=0
  ·rw[if_pos h,ih];simp[h]
  ·rw[if_neg h];simp[h]
theorem kR {x y:Int}:eX x y=0↔x=y:=by
 constructor
 ·unfold eX;intro h;revert h;repeat' (first|omega|split)
 ·rintro rfl;exact Q6 _
theorem px {p q:dW}:jO p q=0↔p=q:=by
 unfold jO
 rw[AH]
 simp only[List.mem_cons,List.not_mem_nil,or_false,forall_eq_or_imp,forall_eq,kR]
 constructor
 ·rintro⟨h1,h2⟩;cases p;cases q;simp_all
 ·rintro rfl;exact⟨rfl,rfl⟩
theorem kS {α:Type} {f:α→α→Int} (hf:∀x y,f x y=0↔x=y):∀a b:List α,e8 f a b=0↔a=b
 |[],[]=>by simp[e8]
 |[],_::_=>by simp[e8]
 |_::_,[]=>by simp[e8]
 |x::a,y::b=>by
  rw[e8]
  by_cases h:f x y=0
  ·rw[if_pos h,kS hf a b]
   have:=(hf x y).1 h
   simp[this]
  ·rw[if_neg h]
   have:x≠y:=fun e=>h ((hf x y).2 e)
   simp[h,this]
theorem pq {a b:cn}:fw a b=0↔a=b:=by
 unfold fw
 rw[AH]
 simp only[List.mem_cons,List.not_mem_nil,or_false,forall_eq_or_imp,forall_eq,kS (fun x y=>px),kS (fun x y=>kR)]
 constructor
 ·rintro⟨h1,h2,h3⟩
  obtain⟨ap,am,ae⟩:=a
  obtain⟨bp,bm,be⟩:=b
  cases ae<;>cases be<;>simp_all[wB]
 ·rintro rfl
  exact⟨rfl,rfl,by cases a.ended<;>rfl⟩
end Go.Proofs.YtjopoheligmmoaaGreatDoor
end
section
/- Count; the closures that ends, ways and what is shown hand to the exploring. -/
namespace Go.Proofs.YtjopoheligmmoaaGreatDoor
open Go Go.cZ Go.Proofs
set_option linter.unusedSimpArgs false
set_option linter.unusedVariables false
set_option maxRecDepth 8000
open Classical in
noncomputable def eI (u:bx) (most:Int):Int×List cW:=
 if ¬cT u then(60,[]) else if ¬(1≤most∧most≤65536) then(2,[]) else match gZ u most.toNat with
  |none=>(3,[])
  |some l=>(0,l)
theorem oU {u:bx} {most:Int} (h:¬cT u):eI u most=(60,[]):=by unfold eI;rw[if_pos h]
theorem lB {u:bx} {most:Int} (h:cT u) (hm:¬(1≤most∧most≤65536)):eI u most=(2,[]):=by unfold eI;rw[if_neg (fun e=>e h),if_pos hm]
theorem oV {u:bx} {most:Int} (h:cT u) (hm:1≤most∧most≤65536):eI u most=(match gZ u most.toNat with|none=>(3,[])|some l=>(0,l)):=by unfold eI;rw[if_neg (fun e=>e h),if_neg (fun e=>e hm)]
def dS (u:bx) (l:List cW) (k:Nat):List cn:=(l.take k).filterMap fun f=>if f.m.stuck u then some (f.m.end_ u) else none
theorem xo {u:bx} {l:List cW} {k:Nat} (hk:k<l.length):dS u l (k+1)=dS u l k++(if(l.getD k default).m.stuck u then[(l.getD k default).m.end_ u] else[]):=by
 unfold dS
 rw[List.take_succ_eq_append_getElem hk,List.filterMap_append,show l.getD k default=l[k] by simp[List.getD,hk]]
 congr 1
 simp only[List.filterMap_cons,List.filterMap_nil]
 split
 ·rename_i h;split at h<;>simp_all
 ·rename_i h;split at h<;>simp_all
theorem lH (u:bx) (l:List cW) (k:Nat):(dS u l k).length≤k:=by
 unfold dS
 refine Nat.le_trans (List.length_filterMap_le _ _) ?_
 rw[List.length_take];omega
set_option maxHeartbeats 1000000 in
theorem E4 {u:bx} (hr:cT u) {l:List cW} (hf:iU u l) (hl:l.length≤65536) {k:Nat} (hk:k<l.length) {ub ob o:Nat} {H:Hp} {nx:Nat} (h1:ub<nx) (h2:ob<nx) (h3:o<nx) (hne:ob≠o)
 (r1:∃d,bu H ub=some (.row 25 3 d [u.av])) (r2:∃d,bu H ob=some (.row 41 1 d [.sl o (dS u l k).length])) (r3:∃d,bu H o=some (.row 105 3 d ((dS u l k).map cn.av))):
 cG Tryz.prog 93 [kT u l,i64 k, .pt ub 1 0 0, .pt ob 1 0 0] H nx (fun _ H' n=>(∃d,bu H' ob=some (.row 41 1 d [.sl o (dS u l (k+1)).length]))∧(∃d,bu H' o=some (.row 105 3 d ((dS u l (k+1)).map cn.av)))∧nx≤n∧∀y,y<nx→y≠ob→y≠o→bu H' y=bu H y):=by
 obtain⟨d1,r1⟩:=r1
 obtain⟨d2,r2⟩:=r2
 obtain⟨d3,r3⟩:=r3
 have hel:=lH u l k
 obtain⟨hm,hp⟩:=hf.ok k hk
 have e0:∀d,(l.map (cW.av u)).getD ((k:Int)).toNat d= .agg [(l.getD k default).m.fz u,i64 (l.getD k default).from_,i64 (l.getD k default).df]:=fun d=>by rw[Int.toNat_natCast];exact dQ (cW.av u) l k d hk
 have a0:(l.map (cW.av u)).length=l.length:=by simp
 have a1:((dS u l k).map cn.av).length=(dS u l k).length:=by simp
 have c0:=vJ u hr (l.getD k default).m hm (by omega) (by have:=hm.ml;have:=hr.pz;omega)
 rw[xo hk]
 generalize (l.getD k default).m=m at *
 cases hs:m.stuck u with
 |true=>
  rw[lR,hs] at c0
  refine aM JV rfl ?_
  refine cV ?_
  refine⟨⟨⟨_,by simp only[List.length_append,if_true,List.length_cons,List.length_nil];exact bw⟩,⟨_,by simp only[List.map_append,if_true,List.map_cons,List.map_nil];exact bw⟩,ca,fun y y1 y2 y3=>cD⟩⟩
 |false=>
  rw[lR,hs] at c0
  refine aM JV rfl ?_
  refine cV ?_
  refine⟨⟨⟨_,by rw[if_neg (by decide),List.append_nil];exact bw⟩,⟨_,by rw[if_neg (by decide),List.append_nil];exact bw⟩,ca,fun y y1 y2 y3=>cD⟩⟩
end Go.Proofs.YtjopoheligmmoaaGreatDoor
end
section
/- Shows: the walk. -/
namespace Go.Proofs.YtjopoheligmmoaaGreatDoor
open Go Go.cZ Go.Proofs
set_option linter.unusedSimpArgs false
set_option linter.unusedVariables false
set_option maxRecDepth 8000
end Go.Proofs.YtjopoheligmmoaaGreatDoor
end
section
/- Way: what it does to its list; the way back. -/
namespace Go.Proofs.YtjopoheligmmoaaGreatDoor
open Go Go.cZ Go.Proofs
set_option linter.unusedSimpArgs false
set_option linter.unusedVariables false
set_option maxRecDepth 8000
def kj (l:List Int) (i:Nat):List Int:=(List.range l.length).map fun q=>if q<i∨l.length≤q+i then l.getD (l.length - 1 - q) 0 else l.getD q 0
theorem gu (l:List Int) (i:Nat):(kj l i).length=l.length:=by simp[kj]
theorem nH {l:List Int} {i q:Nat} (h:q<l.length):(kj l i).getD q 0=if q<i∨l.length≤q+i then l.getD (l.length - 1 - q) 0 else l.getD q 0:=by simp[kj,List.getD,h]
theorem KL (l:List Int):kj l 0=l:=by
 apply List.ext_getElem (gu l 0)
 intro q h1 h2
 have:=nH (l:=l) (i:=0) h2
 rw[if_neg (by omega)] at this
 simpa[List.getD,h1,h2] using this
theorem PN {l:List Int} {i:Nat} (h:l.length≤2 * i+1):kj l i=l.reverse:=by
 apply List.ext_getElem (by simp[gu])
 intro q h1 h2
 have hq:q<l.length:=by simpa using h2
 have:=nH (l:=l) (i:=i) hq
 rw[show(kj l i).getD q 0=(kj l i)[q] by simp[List.getD,h1]] at this
 rw[this,List.getElem_reverse]
 split
 ·simp[List.getD,show l.length - 1 - q<l.length by omega]
 ·have:q=l.length - 1 - q:=by omega
  conv=>lhs;rw[this]
  simp[List.getD,show l.length - 1 - q<l.length by omega]
theorem KK {l:List Int} {i:Nat} (h:2 * i+1<l.length):((kj l i).set i (l.getD (l.length - 1 - i) 0)).set (l.length - 1 - i) (l.getD i 0)=kj l (i+1):=by
 apply List.ext_getElem (by simp[gu])
 intro q h1 h2
 have hq:q<l.length:=by simpa[gu] using h2
 have e1:=nH (l:=l) (i:=i) hq
 have e2:=nH (l:=l) (i:=i+1) hq
 rw[show(kj l (i+1)).getD q 0=(kj l (i+1))[q] by simp[List.getD,h2]] at e2
 rw[show(kj l i).getD q 0=(kj l i)[q]'(by rw[gu];exact hq) by simp[List.getD,gu,hq]] at e1
 rw[e2,List.getElem_set,List.getElem_set,e1]
 by_cases c1:l.length - 1 - i=q
 ·subst c1
  rw[if_pos rfl,if_pos (by omega),show l.length - 1 - (l.length - 1 - i)=i by omega]
 ·rw[if_neg c1]
  by_cases c2:i=q
  ·subst c2
   rw[if_pos rfl,if_pos (by omega)]
  ·rw[if_neg c2]
   by_cases c3:q<i∨l.length≤q+i
   ·rw[if_pos c3,if_pos (by omega)]
   ·rw[if_neg c3,if_neg (by omega)]
set_option maxHeartbeats 1000000 in
theorem pR {b:Nat} {l:List Int} {H:Hp} {nx:Nat} (hb:b<nx) (hl:l.length≤1048576) (r:∃d,bu H b=some (.row 3 1 d (l.map i64))):
 cG Tryz.prog 83 [.sl b l.length] H nx (fun _ H' n=>(∃d,bu H' b=some (.row 3 1 d (l.reverse.map i64)))∧nx≤n∧∀y,y<nx→y≠b→bu H' y=bu H y):=by
 obtain⟨d0,r0'⟩:=r
 refine aM OS rfl ?_
 have a0:(l.map i64).length=l.length:=by simp
 refine cV ?_
 refine aN (fun σ:Nat×Int=>[(0, .sl b l.length),(2,i64 σ.1),(3,i64 σ.2)]) (fun σ H2 n=>σ.2=(l.length:Int) - 1 - σ.1∧2 * σ.1≤l.length+1∧nx≤n∧(∃d,bu H2 b=some (.row 3 1 d ((kj l σ.1).map i64)))∧∀y,y<nx→y≠b→bu H2 y=bu H y) (fun σ=>l.length - σ.1) (0,(l.length:Int) - 1) cK ⟨by simp,by dsimp only;omega,ca,⟨d0,by rw[KL];exact bw⟩,fun y h1 h2=>cD⟩ ?_
 clear r0' a0
 rintro⟨i,j⟩ H2 n ⟨hj,hi,hn,⟨d,r1⟩,hk⟩
 dsimp only at hj hi r1 ⊢
 have a0:((kj l i).map i64).length=l.length:=by simp[gu]
 by_cases hc:2 * i+1<l.length
 ·obtain⟨jn,rfl⟩:∃jn:Nat,j=jn:=⟨j.toNat,by omega⟩
  have hjn:jn=l.length - 1 - i:=by omega
  have e0:=fun d=>ints_at (l:=kj l i) (k:=i) (by rw[gu];omega) d
  have e1:=fun d=>ints_at (l:=kj l i) (k:=jn) (by rw[gu];omega) d
  have e2:∀x d,(((kj l i).map i64).set ((i:Int)).toNat x).getD ((jn:Int)).toNat d=i64 ((kj l i).getD jn 0):=fun x d=>by
   rw[getD_set_ne (by omega)];exact e1 d
  have v0:=nH (l:=l) (i:=i) (q:=i) (by omega)
  rw[if_neg (by omega)] at v0
  have v1:=nH (l:=l) (i:=i) (q:=jn) (by omega)
  rw[if_neg (by omega)] at v1
  rw[v0] at e0
  rw[v1] at e1 e2
  have e3:=e2 (i64 (l.getD jn 0))
  clear e2
  have hnx:=KK hc
  rw[←hjn] at hnx
  refine cV ?_
  refine⟨(i+1,(jn:Int) - 1),by dsimp only;omega,cK,by dsimp only;omega,by dsimp only;omega,ca,⟨_,by dsimp only;rw[←hnx,List.map_set,List.map_set];exact bw⟩,fun y h1 h2=>Eq.trans cD (hk y h1 h2)⟩
 ·refine cV ?_
  rw[PN (by omega)] at r1
  exact⟨⟨d,bw⟩,ca,fun y h1 h2=>Eq.trans cD (hk y h1 h2)⟩
def ij (l:List cW):Nat→Nat→List Int
 |0,_=>[]
 |f+1,k=>if 0≤(l.getD k default).from_ then(l.getD k default).df::ij l f (l.getD k default).from_.toNat else[]
theorem iU.wL {u:bx} {l:List cW} (h:iU u l) {k:Nat} (hk:k<l.length) (h0:0≤(l.getD k default).from_):(l.getD k default).from_.toNat<k∧0<k:=by
 rcases Nat.eq_zero_or_pos k with e|e
 ·subst e;rw[h.first] at h0;exact absurd h0 (by simp)
 ·obtain⟨k',t,h1,_,_,h2⟩:=h.L8 k e hk
  rw[h2]
  exact⟨by dsimp only;omega,e⟩
theorem ru {u:bx} {l:List cW} (h:iU u l):∀{f g k:Nat},k<l.length→k≤f→k≤g→ij l f k=ij l g k
 |0,0,k,hk,hf,hg=>rfl
 |0,g+1,k,hk,hf,hg=>by
  obtain rfl:k=0:=by omega
  rw[ij,ij,h.first];rfl
 |f+1,0,k,hk,hf,hg=>by
  obtain rfl:k=0:=by omega
  rw[ij,ij,h.first];rfl
 |f+1,g+1,k,hk,hf,hg=>by
  rw[ij,ij]
  split
  ·rename_i h0
   obtain⟨h1,h2⟩:=h.wL hk h0
   rw[ru h (f:=f) (g:=g) (by omega) (by omega) (by omega)]
  ·rfl
abbrev nQ (l:List cW) (k:Nat):List Int:=ij l k k
theorem x7 {u:bx} {l:List cW} (h:iU u l) {k:Nat} (hk:k<l.length) (h0:0≤(l.getD k default).from_):nQ l k=(l.getD k default).df::nQ l (l.getD k default).from_.toNat:=by
 obtain⟨h1,h2⟩:=h.wL hk h0
 obtain⟨f,rfl⟩:∃f,k=f+1:=⟨k - 1,by omega⟩
 show ij l (f+1) (f+1)=_
 rw[ij,if_pos h0]
 congr 1
 exact ru h (by omega) (by omega) (Nat.le_refl _)
theorem uP {l:List cW} {k:Nat} (h0:¬0≤(l.getD k default).from_):nQ l k=[]:=by
 show ij l k k=[]
 cases k with
 |zero=>rfl
 |succ f=>rw[ij,if_neg h0]
theorem uO (l:List cW):∀f k,(ij l f k).length≤f
 |0,k=>Nat.le_refl _
 |f+1,k=>by
  rw[ij]
  split
  ·rw[List.length_cons];have:=uO l f (l.getD k default).from_.toNat;omega
  ·simp
def fM (u:bx) (l:List cW) (e:cn) (k:Nat):Option Nat:=(List.range k).find? fun i=>(l.getD i default).m.stuck u&&decide (fw ((l.getD i default).m.end_ u) e=0)
theorem CN (u:bx) (l:List cW) (e:cn) (k:Nat):fM u l e (k+1)=match fM u l e k with
 |some i=>some i
 |none=>if(l.getD k default).m.stuck u&&decide (fw ((l.getD k default).m.end_ u) e=0) then some k else none:=by
 unfold fM
 rw[List.range_succ,List.find?_append]
 cases(List.range k).find? fun i=>(l.getD i default).m.stuck u&&decide (fw ((l.getD i default).m.end_ u) e=0) with
 |some i=>rfl
 |none=>
  simp only[Option.none_or,List.find?_cons,List.find?_nil]
  split<;>simp_all
theorem NR {u:bx} {l:List cW} {e:cn} {k i:Nat} (h:fM u l e k=some i):i<k:=by
 have:=List.mem_of_find?_eq_some h
 exact List.mem_range.1 this
def js (l:List cW):Option Nat→List Int
 |none=>[]
 |some i=>(nQ l i).reverse
set_option maxHeartbeats 2000000 in
theorem XA {u:bx} (hr:cT u) {l:List cW} (hf:iU u l) (hl:l.length≤65536) {e:cn} (he1:e.cP.length * 16≤140737488355328) (he2:e.mem.length * 8≤140737488355328) {k:Nat} (hk:k<l.length) {ub ib eb wb W:Nat} {H:Hp} {nx:Nat} (hn:ub<nx∧ib<nx∧eb<nx∧wb<nx∧W<nx) (hne:ub≠ib∧ub≠wb∧ub≠W∧ib≠eb∧ib≠wb∧ib≠W∧eb≠wb∧eb≠W∧wb≠W)
 (r0:∃d,bu H ub=some (.row 25 3 d [u.av])) (r1:∃d,bu H ib=some (.row 4 1 d [bl (fM u l e k).isSome])) (r2:∃d,bu H eb=some (.row 105 3 d [e.av])) (r3:∃d,bu H wb=some (.row 31 1 d [.sl W (js l (fM u l e k)).length])) (r4:∃d,bu H W=some (.row 3 1 d ((js l (fM u l e k)).map i64))):
 cG Tryz.prog 103 [kT u l,i64 k, .pt ub 1 0 0, .pt ib 1 0 0, .pt eb 1 0 0, .pt wb 1 0 0] H nx (fun _ H' n=>(∃d,bu H' ib=some (.row 4 1 d [bl (fM u l e (k+1)).isSome]))∧(∃d,bu H' wb=some (.row 31 1 d [.sl W (js l (fM u l e (k+1))).length]))∧(∃d,bu H' W=some (.row 3 1 d ((js l (fM u l e (k+1))).map i64)))∧nx≤n∧∀y,y<nx→y≠ib→y≠wb→y≠W→bu H' y=bu H y):=by
 obtain⟨d0,r0'⟩:=r0
 obtain⟨d1,r1'⟩:=r1
 obtain⟨d2,r2'⟩:=r2
 obtain⟨d3,r3'⟩:=r3
 obtain⟨d4,r4'⟩:=r4
 obtain⟨n0,n1,n2,n3,n4⟩:=hn
 obtain⟨m0,m1,m2,m3,m4,m5,m6,m7,m8⟩:=hne
 obtain⟨hm,hp⟩:=hf.ok k hk
 have e0:∀d,(l.map (cW.av u)).getD ((k:Int)).toNat d= .agg [(l.getD k default).m.fz u,i64 (l.getD k default).from_,i64 (l.getD k default).df]:=fun d=>by rw[Int.toNat_natCast];exact dQ (cW.av u) l k d hk
 have a0:(l.map (cW.av u)).length=l.length:=by simp
 have hgl:=hr.pz
 have hml:=hm.ml
 have c0:=vJ u hr (l.getD k default).m hm (by omega) (by omega)
 have c1:=oH ((l.getD k default).m.end_ u) e (by show(l.getD k default).m.cP.length<_;omega) (by show(l.getD k default).m.mem.length<_;omega)
 rw[CN]
 cases hh:fM u l e k with
 |some i=>
  rw[hh] at r1' r3' r4'
  dsimp only
  generalize (l.getD k default).m=m at *
  cases hs:m.stuck u with
  |true=>
   rw[lR,hs] at c0
   refine aM oz rfl ?_
   refine cV ?_
   exact⟨⟨_,bw⟩,⟨_,bw⟩,⟨_,bw⟩,ca,fun y y1 y2 y3 y4=>cD⟩
  |false=>
   rw[lR,hs] at c0
   refine aM oz rfl ?_
   refine cV ?_
   exact⟨⟨_,bw⟩,⟨_,bw⟩,⟨_,bw⟩,ca,fun y y1 y2 y3 y4=>cD⟩
 |none=>
  rw[hh] at r1' r3' r4'
  dsimp only
  by_cases hs:(l.getD k default).m.stuck u=true
  ·rw[lR,hs] at c0
   by_cases hc:fw ((l.getD k default).m.end_ u) e=0
   ·rw[hs,decide_eq_true hc,if_pos (by rfl)]
    rw[decide_eq_true hc] at c1
    refine aM oz rfl ?_
    refine cV ?_
    clear c0 c1 e0 r0' r2'
    have hway:js l none=[]:=rfl
    rw[hway] at r3' r4'
    refine aN (fun σ:Nat×List Int=>[(0,kT u l),(5, .pt wb 1 0 0),(10,i64 σ.1)])
     (fun σ H2 n=>σ.1<l.length∧σ.2++nQ l σ.1=nQ l k∧nx≤n∧(∃d,bu H2 ib=some (.row 4 1 d [bl true]))∧(∃d,bu H2 wb=some (.row 31 1 d [.sl W σ.2.length]))∧(∃d,bu H2 W=some (.row 3 1 d (σ.2.map i64)))∧∀y,y<nx→y≠ib→y≠wb→y≠W→bu H2 y=bu H y) (fun σ=>σ.1) (k,[]) cK
     ⟨hk,rfl,ca,⟨_,bw⟩,⟨_,bw⟩,⟨_,bw⟩,fun y y1 y2 y3 y4=>cD⟩ ?_
    clear r1' r3' r4'
    rintro⟨at_,acc⟩ H2 n ⟨hat,hacc,hn2,⟨d1,r1'⟩,⟨d3,r3'⟩,⟨d4,r4'⟩,hkp⟩
    dsimp only at hat hacc r3' r4' ⊢
    have hbl:=uO l k k
    have hal:acc.length≤65536:=by
     have:=congrArg List.length hacc
     rw[List.length_append] at this
     have:(nQ l k).length≤k:=hbl
     omega
    have a1:(acc.map i64).length=acc.length:=by simp
    have e0:∀d,(l.map (cW.av u)).getD ((at_:Int)).toNat d= .agg [(l.getD at_ default).m.fz u,i64 (l.getD at_ default).from_,i64 (l.getD at_ default).df]:=fun d=>by rw[Int.toNat_natCast];exact dQ (cW.av u) l at_ d hat
    by_cases h0:0≤(l.getD at_ default).from_
    ·obtain⟨hlt,hpos⟩:=hf.wL hat h0
     have hon:=x7 hf hat h0
     obtain⟨q,hq⟩:∃q:Nat,(l.getD at_ default).from_=q:=⟨_,(Int.toNat_of_nonneg h0).symm⟩
     rw[hq] at e0 hlt hon
     rw[Int.toNat_natCast] at hlt hon
     have hge:¬(q:Int)<0:=by omega
     refine cV ?_
     refine⟨(q,acc++[(l.getD at_ default).df]),hlt,cK,by dsimp only;omega,by dsimp only;rw[List.append_assoc,List.singleton_append,←hon];exact hacc,ca,⟨_,bw⟩,⟨_,by dsimp only;rw[List.length_append];exact bw⟩,⟨_,by dsimp only;rw[List.map_append];exact bw⟩,fun y y1 y2 y3 y4=>Eq.trans cD (hkp y y1 y2 y3 y4)⟩
    ·have hon:=uP h0
     rw[hon,List.append_nil] at hacc
     subst hacc
     refine cV ?_
     refine aL (pR (b:=W) (l:=nQ l k) ?_ (by omega) ?_) ?_
     ·exact ca
     ·exact⟨_,bw⟩
     rintro _ H3 n3 ⟨⟨d5,r5⟩,hn3,hk3⟩
     have q1:=hk3 ib ca (by omega)
     have q2:=hk3 wb ca (by omega)
     refine cV ?_
     exact⟨⟨d1,q1.trans bw⟩,⟨d3,by simp only[js,List.length_reverse];exact q2.trans bw⟩,⟨d5,bw⟩,ca,fun y y1 y2 y3 y4=>(hk3 y ca y4).trans (Eq.trans cD (hkp y y1 y2 y3 y4))⟩
   ·rw[hs,decide_eq_false hc,if_neg (by decide)]
    rw[decide_eq_false hc] at c1
    refine aM oz rfl ?_
    refine cV ?_
    exact⟨⟨_,bw⟩,⟨_,bw⟩,⟨_,bw⟩,ca,fun y y1 y2 y3 y4=>cD⟩
  ·have hs2:(l.getD k default).m.stuck u=false:=by simpa using hs
   rw[lR,hs2] at c0
   rw[hs2,Bool.false_and,if_neg (by decide)]
   refine aM oz rfl ?_
   refine cV ?_
   exact⟨⟨_,bw⟩,⟨_,bw⟩,⟨_,bw⟩,ca,fun y y1 y2 y3 y4=>cD⟩
end Go.Proofs.YtjopoheligmmoaaGreatDoor
end
