import Derived.Test.YtjopoheligmmoaaGreatDoorM34
import Derived.Test.YtjopoheligmmoaaGreatDoorM36
import Derived.Test.YtjopoheligmmoaaGreatDoorM37
import Derived.Lib.ItoaLen
import Derived.Test.YtjopoheligmmoaaGreatDoorM32
section
/- A machine in rows told by value, within a list of what was found. -/
namespace Go.Proofs.YtjopoheligmmoaaGreatDoor
open Go Go.cX Go.Proofs
set_option linter.unusedSimpArgs false
set_option linter.unusedVariables false
set_option maxRecDepth 8000
def j9 (S:List Nat) (H:Hp):Hp:=S.map fun y=>(y,br H y)
theorem zo {S:List Nat} {H:Hp} {y:Nat} (h:y∈S):br (j9 S H) y=br H y:=by
 induction S with
 |nil=>cases h
 |cons x S ih=>
  rw[j9,List.map_cons]
  by_cases e:y=x
  ·subst e;exact cn _ _ _
  ·rw[cV e]
   exact ih (by simpa[e] using h)
theorem qE {S:List Nat} {H:Hp} {y:Nat} {q:eQ} (h:br (j9 S H) y=some q):br H y=some q:=by
 have:y∈S:=by
  have:=mT h
  simpa[j9] using this
 rw[zo this] at h;exact h
theorem eE {S:List Nat} {H H2:Hp} {y:Nat} (h:y∉S):br (lE (j9 S H) H2) y=br H2 y:=fP (by simpa[j9] using h)
section
variable {u:bt} {m:MS} {L:ML} {H:Hp}
theorem ML.At.tF (h:L.At u m H) (k:Nat):Go.cX.gh (j9 L.all H) (k+4) (.pt L.mr 1 0 0)=m.fz u:=by
 have h:=h.cP (H':=j9 L.all H) fun y hy=>zo hy
 generalize j9 L.all H=G at *
 obtain⟨d1,h1⟩:=h.rM
 obtain⟨d2,h2⟩:=h.rA
 obtain⟨d3,h3⟩:=h.rS
 obtain⟨d4,h4⟩:=h.rE
 obtain⟨d5,h5⟩:=h.rH
 obtain⟨d6,h6⟩:=h.rP
 have hsl:(eP L.ids m.bx).length=m.bx.length:=uh h.len
 have hs:(eP L.ids m.bx).map (Go.cX.gh G (k+1))=m.bx.map cR:=by
  apply List.ext_getElem (by simp[hsl])
  intro t q1 q2
  have ht:t<m.bx.length:=by simpa using q2
  have hti:t<L.ids.length:=by rw[h.len];exact ht
  obtain⟨d,hd⟩:=h.rL t ht
  rw[show L.ids.getD t 0=L.ids[t] by simp[List.getD,hti],show m.bx.getD t []=m.bx[t] by simp[List.getD,ht]] at hd
  rw[List.getElem_map,List.getElem_map]
  simp only[eP,List.getElem_map,List.getElem_zip]
  rw[mU hd (by simp),fk _ ((cB _ _).2 fun _ _=>by simp[cK])]
 rw[show Go.cX.gh G (k+4) (.pt L.mr 1 0 0)= .ip 8 .any ([m.rows u L.a L.s L.me L.ho L.pr].map (Go.cX.gh G (k+3))) 0 0 from QR h1 rfl]
 simp only[List.map_cons,List.map_nil,MS.rows]
 rw[xg]
 simp only[List.map_cons,List.map_nil]
 rw[mU h2 (by simp),mU h3 hsl,mU h4 (by simp),mU h5 (by simp),mU h6 (by simp),hs]
 rw[fk _ ((cB _ _).2 fun _ _=>by simp[cK]),fk _ ((cB _ _).2 fun _ _=>by simp[cK]),fk _ ((cB _ _).2 fun _ _=>by simp[cK]),fk _ ((cB _ _).2 fun _ _=>by simp[cK])]
 rw[kI _ (show cK 0 (cq u.shared) by simp[cK,cB]),kI _ (show cK 0 (cq u.cC) by simp[cK,cB]),kI _ (show cK 0 (db u.bw) by simp[cK,cB])]
 rfl
end
def cS.cells (u:bt) (f:cS):List AV:=[f.m.fz u,i64 f.from_,i64 f.dZ]
abbrev cS.av (u:bt) (f:cS):AV:= .agg (f.cells u)
abbrev kA (u:bt) (l:List cS):AV:= .im 3 .any (l.map (cS.av u))
@[simp] theorem HH (n:Nat) (u:bt) (f:cS):cW n (f.cells u):=by
  have:=nU n u f.m
  simp[cS.cells,cW,cK]
theorem BD (u:bt) (l:List cS):cW 0 (l.map (cS.av u)):=(cB _ _).2 fun _ _=>by simp only[cS.av,cK];exact HH _ _ _
theorem uM {u:bt} {m:MS} {L:ML} {H:Hp} {lb nx:Nat} {d:AV} {l:List cS} {fr th:Int} (hM:L.At u m H) (hl:br H lb=some (.row 163 3 d (l.map (cS.av u)++[.agg [.pt L.mr 1 0 0,i64 fr,i64 th]]))) (hlb:lb∉L.all):
 Wk .any H nx .any (lE (j9 L.all H) ((lb,some (.row 163 3 .any ((l++[(⟨m,fr,th⟩:cS)]).map (cS.av u))))::H)) nx:=by
 have:=Wk.gh (nx:=nx) (j9 L.all H) 5 .any hl (fun b q hq=>qE hq)
 rw[List.map_append,fk _ (BD u l),List.map_cons,List.map_nil,xg,List.map_cons,List.map_cons,List.map_cons,List.map_nil,hM.tF 0,kI _ (show cK 0 (i64 fr) by simp[cK]),kI _ (show cK 0 (i64 th) by simp[cK])] at this
 rw[List.map_append]
 exact this
end Go.Proofs.YtjopoheligmmoaaGreatDoor
end
section
/- Keys are short, and tell situations apart as texts do. -/
namespace Go.Proofs.YtjopoheligmmoaaGreatDoor
open Go Go.cX Go.Proofs
set_option linter.unusedSimpArgs false
set_option linter.unusedVariables false
theorem mR {α:Type} (f:α→List UInt8) (k:Nat):∀l:List α,(∀a∈l,(f a).length≤k)→(l.flatMap f).length≤l.length * k
 |[],_=>by simp
 |a::l,h=>by
  have h1:=mR f k l fun b hb=>h b (by simp[hb])
  have h2:=h a (by simp)
  rw[List.flatMap_cons,List.length_append,List.length_cons,Nat.add_mul]
  omega
theorem mf {x:Int} (e:List UInt8) (h:eL x):(ed x e).length≤21+e.length:=by
 have:=Go.Lib.itoa_length_le x h.1 (by have:=h.2;omega)
 unfold ed
 rw[List.length_append]
 omega
theorem eM.U9 {u:bt} {m:MS} (hr:cY u) (h:eM u m):(gk m).length≤100000000+m.cM.length * 50:=by
 have hf:=hr.qN
 have hal:=h.pV
 have hml:=h.ml
 have hhl:=h.hl
 have hn:∀t,t<u.bw.length→(u.gr t).nodes.length≤4096∧(u.gr t).bx≤4160:=fun t ht=>⟨(hr.gr ht).len.2,(hr.gr ht).bx.2⟩
 have h1:((List.range m.at_.length).flatMap (wW m)).length≤(List.range m.at_.length).length * 100000:=by
  refine mR _ _ _ fun t ht=> ?_
  have ht:=List.mem_range.1 ht
  have hat:=h.gQ t (by omega)
  obtain⟨n1,n2⟩:=hn t (by omega)
  have hs:=h.C6 t (by omega)
  have a1:=mf (x:=m.at_.getD t 0) [44] ⟨by omega,by omega⟩
  have a2:=mR (fun w=>ed w [44]) 22 (m.bx.getD t []) fun w hw=>mf [44] (h.C7 t (by omega) w hw)
  have e:(wW m t).length=(ed (m.at_.getD t 0) [44]).length+((m.bx.getD t []).flatMap (fun w=>ed w [44])).length+1:=by simp only[wW,List.length_append,List.length_cons,List.length_nil]
  simp only[List.length_cons,List.length_nil] at a1
  rw[e]
  omega
 rw[List.length_range] at h1
 have h2:=mR (fun w=>ed w [44]) 22 m.mem fun w hw=>mf [44] (h.mw w hw)
 have h3:=mR (fun w=>ed w [44]) 22 m.hold fun w hw=>mf [44] (by have:=h.hw w hw;exact⟨by omega,by omega⟩)
 have h4:=mR JG 50 m.cM fun p hp=>by
  obtain⟨p1,p2,p3⟩:=h.pw p hp
  have a1:=mf (x:=p.dZ) [58] ⟨by omega,by omega⟩
  have a2:=mf (x:=p.word) [44] p3
  simp only[List.length_cons,List.length_nil] at a1 a2
  unfold JG
  rw[List.length_append]
  omega
 rw[vp]
 omega
theorem eM.YQ {u:bt} {m:MS} (hr:cY u) (h:eM u m) (hp:m.cM.length≤1048576):ZH m:=by
 have hf:=hr.qN
 refine⟨fun w hw=> ?_,by rw[h.sl,h.pV],fun l hl w hw=> ?_,h.mw,fun w hw=> ?_,fun p hp=> ?_, ?_⟩
 ·obtain⟨t,ht,rfl⟩:=List.mem_iff_getElem.1 hw
  have h1:=h.gQ t (by rw[←h.pV];exact ht)
  have h2:=(hr.gr (t:=t) (by rw[←h.pV];exact ht)).len.2
  rw[show m.at_.getD t 0=m.at_[t] by simp[List.getD,ht]] at h1
  exact⟨by omega,by omega⟩
 ·obtain⟨t,ht,rfl⟩:=List.mem_iff_getElem.1 hl
  have:=h.C7 t (by rw[←h.sl];exact ht) w
  rw[show m.bx.getD t []=m.bx[t] by simp[List.getD,ht]] at this
  exact this hw
 ·have:=h.hw w hw
  exact⟨by omega,by omega⟩
 ·obtain⟨p1,p2,p3⟩:=h.pw p hp
  exact⟨⟨by omega,by omega⟩,p3⟩
 ·have:=h.U9 hr
  omega
theorem S9 {a b:List UInt8} (h:kU a=kU b):a=b:=by
 have:=congrArg (fun x:ByteArray=>x.data.toList) h
 simpa[kU] using this
abbrev jH (l:List cS):List (ByteArray×Int):=l.map fun f=>(kU (gk f.m),1)
abbrev nc (l:List cS):List AV:=pq (fun s:ByteArray=>Value.string s) i64 (jH l)
theorem sI (l:List cS) (k:List UInt8):ec (jH l) (kU k)=if k∈jG l then some 1 else none:=by
 split
 ·rename_i h
  cases hl:ec (jH l) (kU k) with
  |none=>
   exfalso
   refine(ph _ _).1 hl ?_
   rw[List.map_map]
   obtain⟨f,h1,h2⟩:=List.mem_map.1 h
   exact List.mem_map.2 ⟨f,h1,by simp only[Function.comp];rw[h2]⟩
  |some v=>
   have hv:∀(l:List cS),ec (jH l) (kU k)=some v→v=1:=by
    intro l
    induction l with
    |nil=>intro h;cases h
    |cons f l ih=>
     intro h
     rw[jH,List.map_cons,ec] at h
     split at h
     ·cases h;rfl
     ·exact ih h
   rw[hv l hl]
 ·rename_i h
  refine(ph _ _).2 fun hm=>h ?_
  rw[List.map_map] at hm
  obtain⟨f,h1,h2⟩:=List.mem_map.1 hm
  simp only[Function.comp] at h2
  exact List.mem_map.2 ⟨f,h1,S9 h2⟩
theorem II {l:List cS} {m:MS} {a b:Int} (h:gk m∉jG l):iX (jH l) (kU (gk m)) 1=jH (l++[⟨m,a,b⟩]):=by
 have key:∀E:List (ByteArray×Int),ec E (kU (gk m))=none→iX E (kU (gk m)) 1=E++[(kU (gk m),1)]:=by
  intro E
  induction E with
  |nil=>intro _;rfl
  |cons p E ih=>
   intro hn
   obtain⟨x,y⟩:=p
   rw[ec] at hn
   rw[iX]
   split at hn
   ·cases hn
   ·rename_i hx
    rw[if_neg hx,ih hn];rfl
 rw[key _ (by rw[sI,if_neg h]),jH,jH,List.map_append];rfl
end Go.Proofs.YtjopoheligmmoaaGreatDoor
end
section
/- All situations: the walk. -/
namespace Go.Proofs.YtjopoheligmmoaaGreatDoor
open Go Go.cX Go.Proofs
set_option linter.unusedSimpArgs false
set_option linter.unusedVariables false
set_option maxRecDepth 8000
theorem DU (u:bt) (hu:u.Wf) (hr:¬cY u) (most:Int) (g:Nat) (caps:List AV) (H0:Hp) (nx:Nat):cI Tryz.prog 92 [u.av,i64 most, .fn (.func g) [] caps] H0 nx (fun r H n=>r= .dP [i64 0,i64 60]∧nx≤n∧∀y,y<nx→br H y=br H0 y):=by
 have c0:=R8 u hu hr
 refine aM B0 rfl ?_
 refine cT ?_
 exact⟨⟨rfl,cZ,fun y hy=>cA⟩⟩
theorem tV (u:bt) (hu:u.Wf) (hr:cY u) (most:Int) (hm:¬(1≤most∧most≤65536)) (g:Nat) (caps:List AV) (H0:Hp) (nx:Nat):cI Tryz.prog 92 [u.av,i64 most, .fn (.func g) [] caps] H0 nx (fun r H n=>r= .dP [i64 0,i64 2]∧nx≤n∧∀y,y<nx→br H y=br H0 y):=by
 refine aM B0 rfl ?_
 refine cT ?_
 refine aJ (sU u hu hr _ _) ?_
 rintro r H1 n1 ⟨L,rfl,hM,hlt,hn1,hk1⟩
 by_cases h1:most<1
 ·refine cT ?_
  exact⟨⟨rfl,cZ,fun y hy=>Eq.trans cA ((hk1 y cZ).trans cA)⟩⟩
 ·have h2:65536<most:=by omega
  refine cT ?_
  exact⟨⟨rfl,cZ,fun y hy=>Eq.trans cA ((hk1 y cZ).trans cA)⟩⟩
theorem AX (u:bt) (hr:cY u) (m:MS) (h:eM u m) (hp:m.cM.length≤1048576) (H0:Hp) (nx:Nat):cI Tryz.prog 146 [m.fz u] H0 nx (fun r H n=>∃L:ML,r= .pt L.mr 1 0 0∧L.At u m H∧(∀x∈L.all,nx≤x∧x<n)∧nx≤n∧∀y,y<nx→br H y=br H0 y):=by
 have hgl:=hr.qN
 refine(AY u m (by have:=h.pV;omega) (by have:=h.ml;omega) (by have:=h.hl;omega) hp (by have:=h.sl;omega) (fun x hx=> ?_) H0 nx).mono ?_
 ·obtain⟨s,hs,rfl⟩:=List.mem_iff_getElem.1 hx
  have h1:=h.C6 s (by rw[←h.sl];exact hs)
  have h2:=(hr.gr (t:=s) (by rw[←h.sl];exact hs)).bx.2
  rw[show m.bx.getD s []=m.bx[s] by simp[List.getD,hs]] at h1
  omega
 ·rintro r H n ⟨mr,a,s,me,ho,pr,ids,rfl,h1,h2,h3,h4⟩
  exact⟨⟨mr,a,s,me,ho,pr,ids⟩,rfl,h1,h2,h3,h4⟩
def PJ (u:bt) (most:Int) (I:Nat→Hp→Prop) (nx:Nat) (H0:Hp) (r:AV) (H:Hp) (n:Nat):Prop:=
 nx≤n∧match gP u most.toNat with
 |none=>r= .dP [i64 0,i64 3]∧∀y,y<nx→br H y=br H0 y
 |some l=>r= .dP [i64 l.length,i64 0]∧I l.length H
set_option maxHeartbeats 4000000 in
theorem rC (u:bt) (hu:u.Wf) (hr:cY u) (most:Int) (hm:1≤most∧most≤65536) (g:Nat) (caps:List AV) (H0:Hp) (nx:Nat) (I:Nat→Hp→Prop) (hI0:I 0 H0) (hst:∀k H H',I k H→(∀y,y<nx→br H' y=br H y)→I k H')
 (hcl:∀l,gP u most.toNat=some l→∀k H n,k<l.length→nx≤n→I k H→cI Tryz.prog g ([kA u l,i64 k]++caps) H n (fun _ H' n'=>I (k+1) H'∧n≤n'∧∀y,nx≤y→y<n→br H' y=br H y)):
 cI Tryz.prog 92 [u.av,i64 most, .fn (.func g) [] caps] H0 nx (PJ u most I nx H0):=by
 obtain⟨mo,rfl⟩:∃mo:Nat,most=mo:=⟨most.toNat,by omega⟩
 have hgl:=hr.qN
 unfold PJ
 rw[Int.toNat_natCast] at hcl ⊢
 refine aM B0 rfl ?_
 refine cT ?_
 refine aJ (sU u hu hr _ _) ?_
 rintro r H1 n1 ⟨L,rfl,hM,hlt,hn1,hk1⟩
 have hF:=iI.init u hu hr
 have hm0:=(hF.ok 0 hF.pos).1
 have hm0':(List.getD (jg u) 0 default).m=dn u:=rfl
 rw[hm0'] at hm0
 have g0:oe true (Value.string (kU (gk (dn u)))) [] (i64 1)=some (nc (jg u)):=rfl
 have h65:(65536:Int)<mo→False:=by omega
 refine cT ?_
 refine aS (vo u (dn u) (hm0.YQ hr (by simp[dn]))) (args2:=[(dn u).fz u]) ?_ (by simp[cW,nU]) trivial ?_
 ·rw[List.map_cons,List.map_nil]
  congr 1
  exact(hM.cP fun y hy=>by have:=hlt y hy;exact cA).HL 2
 refine cT ?_
 have hno:∀y,y<nx+1∨n1≤y→y∉L.all:=fun y hy hm=>by have:=hlt y hm;omega
 refine aU (fun σ:Nat×List cS=>[(1,i64 mo),(2, .fn (.func g) [] caps),(3, .pt nx 1 0 0),(10, .sl (n1+15) σ.2.length),(11, .mp (n1+17)),(12,i64 σ.1)])
  (fun σ H n=>σ.1≤σ.2.length∧σ.2.length≤mo∧iI u σ.2∧wj u mo (mo - σ.1) σ.1 σ.2=gP u mo∧n1+23≤n∧(∃d,br H nx=some (.row 25 3 d [u.av]))∧(∃d,br H (n1+15)=some (.row 163 3 d (σ.2.map (cS.av u))))∧(∃e d,br H (n1+17)=some (.row e 0 d (mapA (nc σ.2))))∧∀y,y<nx→br H y=br H0 y) (fun σ=>mo - σ.1) (0,jg u)
  ⟨_,_,_,Rt.wk (uM (lb:=n1+15) (l:=[]) (fr:=-1) (th:=0) (hM.cP ?_) bu (hno _ (by omega))),cF,Nat.zero_le _,by show 1≤mo;omega,hF,rfl,cZ,⟨_,(eE (hno _ (by omega))).trans (Eq.trans cA ((hk1 nx (by omega)).trans bu))⟩,⟨_,(eE (hno _ (by omega))).trans bu⟩,⟨_,_,(eE (hno _ (by omega))).trans bu⟩,fun y hy=>(eE (hno _ (by omega))).trans (Eq.trans cA ((hk1 y cZ).trans cA))⟩ ?_
 ·intro y hy
  have:=hlt y hy
  exact cA
 clear hM hlt hk1 hno
 rintro⟨k,l⟩ H n ⟨hk,hl,hfs,hall,hn,⟨d0,r0'⟩,⟨d1,r1'⟩,⟨e2,d2,r2'⟩,hkp⟩
 dsimp only at hk hl hfs hall r1' r2' ⊢
 by_cases hkl:k<l.length
 ·have e0:∀d,(l.map (cS.av u)).getD ((k:Int)).toNat d=(l.getD k default).av u:=fun d=>by rw[Int.toNat_natCast];exact cy (cS.av u) l k d hkl
  have a0:(l.map (cS.av u)).length=l.length:=by simp
  have hgeq:∀l':List cS,l<+:l'→l'.getD k default=l.getD k default:=fun l' ⟨q,hq⟩=>by rw[←hq];simp[List.getD,List.getElem?_append,hkl]
  have hmk:mo - k=(mo - (k+1))+1:=by omega
  rw[hmk,wj,if_pos hkl] at hall
  obtain⟨hmok,hpl⟩:=hfs.ok k hkl
  have hmdef:(l.getD k default).m=(l.getD k default).m:=rfl
  generalize hmm:(l.getD k default).m=m at hmok hpl
  have e0':∀d,(l.map (cS.av u)).getD ((k:Int)).toNat d= .agg [m.fz u,i64 (l.getD k default).from_,i64 (l.getD k default).dZ]:=fun d=>by rw[e0 d,←hmm];rfl
  clear e0
  have e0:=e0'
  refine cT ?_
  rw[List.length_map]
  refine aU (fun σ:Nat×List cS=>[(1,i64 mo),(2, .fn (.func g) [] caps),(3, .pt nx 1 0 0),(10, .sl (n1+15) σ.2.length),(11, .mp (n1+17)),(12,i64 k),(13,m.fz u),(52,i64 u.bw.length),(53,i64 σ.1)])
   (fun σ H n=>σ.1≤u.bw.length∧k<σ.2.length∧σ.2.length≤mo∧iI u σ.2∧(σ.2.getD k default).m=m∧(match CX u mo k ((List.range u.bw.length).drop σ.1) σ.2 with
    |none=>none
    |some l2=>wj u mo (mo - (k+1)) (k+1) l2)=gP u mo∧n1+23≤n∧(∃d,br H nx=some (.row 25 3 d [u.av]))∧(∃d,br H (n1+15)=some (.row 163 3 d (σ.2.map (cS.av u))))∧(∃e d,br H (n1+17)=some (.row e 0 d (mapA (nc σ.2))))∧∀y,y<nx→br H y=br H0 y) (fun σ=>u.bw.length - σ.1) (0,l)
   ⟨_,_,_,Rt.refl _ _ _,cF,Nat.zero_le _,hkl,hl,hfs,hmm,hall,cZ,⟨_,bu⟩,⟨_,bu⟩,⟨_,_,bu⟩,fun y hy=>Eq.trans cA (hkp y hy)⟩ ?_
  clear e0 e0' a0 r0' r1' r2' hkp hall hfs hl hkl hgeq hn hmm
  rintro⟨t,l⟩ H n ⟨ht,hkl,hl,hfs,hmm,hall,hn,⟨d0,r0'⟩,⟨d1,r1'⟩,⟨e2,d2,r2'⟩,hkp⟩
  dsimp only at ht hkl hl hfs hmm hall r1' r2' ⊢
  have a0:(l.map (cS.av u)).length=l.length:=by simp
  by_cases htl:t<u.bw.length
  ·rw[show(List.range u.bw.length).drop t=t::(List.range u.bw.length).drop (t+1) by rw[List.drop_eq_getElem_cons (by simpa using htl)];simp,CX] at hall
   have c0:=K3 u hr m hmok t
   by_cases hb:m.mI u t=0
   ·have hal:=hmok.pV
    refine cT ?_
    refine aJ (AX u hr m hmok (by omega) _ _) ?_
    rintro r H2 n2 ⟨L2,rfl,hM2,hlt2,hn2,hk2⟩
    have hlt2:∀x∈L2.all,n+7≤x∧x<n2:=hlt2
    refine cT ?_
    refine aJ (uj hu hr hmok (L:=L2) (hM2.cP ?_) ?_ (by omega) htl hb) ?_
    ·intro y hy
     have:=hlt2 y hy
     exact cA
    ·intro y hy
     have:=hlt2 y hy
     exact cZ
    rintro r H3 n3 ⟨rfl,hM3,hn3,hk3⟩
    have hno:∀y,y<n+7∨n2≤y→y∉L2.all:=fun y hy hm=>by have:=hlt2 y hm;omega
    have hold:∀y,y<n→br H3 y=br H y:=fun y hy=>(hk3 y cZ (hno y (by omega))).trans (Eq.trans cA ((hk2 y cZ).trans cA))
    have hlt3:∀x∈L2.all,x<n3:=fun x hx=>by have:=hlt2 x hx;exact Nat.lt_of_lt_of_le this.2 cZ
    obtain⟨hk9,_⟩:=jv hmok htl hb
    have hm2:=wQ hu hr hmok htl hk9
    have hp2:=lz u m t
    have htry:DI u mo k t l=if gk (m.step u t).1∈jG l then some l else if l.length=mo then none else some (l++[⟨(m.step u t).1,k,t⟩]):=by
     unfold DI
     rw[hmm,if_neg (by omega)]
    rw[htry] at hall
    have hput:=fun(h:gk (m.step u t).1∉jG l)=>II (l:=l) (m:=(m.step u t).1) (a:=k) (b:=t) h
    have hadd:=fun(h:gk (m.step u t).1∉jG l)=>hfs.add hu hr hkl htl (by rw[hmm];exact hb) (by rw[hmm];exact h)
    rw[hmm] at hadd
    generalize (m.step u t).1=m2 at *
    have hkp3:∀y,y<nx→br H3 y=br H0 y:=fun y hy=>(hold y (by omega)).trans (hkp y hy)
    have q0:=(hold nx (by omega)).trans r0'
    have q1:=(hold (n1+15) (by omega)).trans r1'
    have q2:=(hold (n1+17) (by omega)).trans r2'
    have hget:=B5 vm i64 (kU (gk m2)) (jH l) (i64 0)
    rw[sI] at hget
    clear hk2 hk3 hM2 r0' r1' r2' hold hkp
    by_cases hin:gk m2∈jG l
    ·rw[if_pos hin] at hget hall
     have g0:lh true (Value.string (kU (gk m2))) (nc l) (i64 0)=some (i64 1,true):=hget
     refine cT ?_
     refine aS (vo u m2 (hm2.YQ hr (by omega))) (args2:=[m2.fz u]) ?_ (by simp[cW,nU]) trivial ?_
     ·rw[List.map_cons,List.map_nil]
      congr 1
      exact(hM3.cP fun y hy=>by have:=hlt3 y hy;exact cA).HL 2
     refine cT ?_
     exact⟨(t+1,l),by dsimp only;omega,_,_,_,Rt.refl _ _ _,cF,by dsimp only;omega,hkl,hl,hfs,hmm,hall,cZ,⟨_,bu⟩,⟨_,bu⟩,⟨_,_,bu⟩,fun y hy=>Eq.trans cA (hkp3 y hy)⟩
    ·rw[if_neg hin] at hget hall
     have g0:lh true (Value.string (kU (gk m2))) (nc l) (i64 0)=some (i64 0,false):=hget
     by_cases hfull:l.length=mo
     ·rw[if_pos hfull] at hall
      refine cT ?_
      refine aS (vo u m2 (hm2.YQ hr (by omega))) (args2:=[m2.fz u]) ?_ (by simp[cW,nU]) trivial ?_
      ·rw[List.map_cons,List.map_nil]
       congr 1
       exact(hM3.cP fun y hy=>by have:=hlt3 y hy;exact cA).HL 2
      refine cT ?_
      have hall2:none=gP u mo:=hall
      rw[←hall2]
      exact⟨⟨cZ,rfl,fun y hy=>Eq.trans cA (hkp3 y hy)⟩⟩
     ·rw[if_neg hfull] at hall
      have g1:oe true (Value.string (kU (gk m2))) (nc l) (i64 1)=some (nc (l++[⟨m2,k,t⟩])):=by
       have:=B6 vm i64 (kU (gk m2)) 1 (jH l)
       rw[hput hin] at this
       exact this
      refine cT ?_
      refine aS (vo u m2 (hm2.YQ hr (by omega))) (args2:=[m2.fz u]) ?_ (by simp[cW,nU]) trivial ?_
      ·rw[List.map_cons,List.map_nil]
       congr 1
       exact(hM3.cP fun y hy=>by have:=hlt3 y hy;exact cA).HL 2
      refine cT ?_
      have hout:=hno
      refine⟨(t+1,l++[⟨m2,k,t⟩]),by dsimp only;omega,_,_,_,Rt.wk (uM (L:=L2) (lb:=n1+15) (m:=m2) (l:=l) (fr:=k) (th:=t) (hM3.cP ?_) bu (hno _ (by omega))),cF,by dsimp only;omega,by dsimp only;rw[List.length_append];omega,by dsimp only;simp only[List.length_append,List.length_cons,List.length_nil];omega,hadd hin,by dsimp only;rw[fe hkl];exact hmm,hall,cZ,⟨_,(eE (hno _ (by omega))).trans bu⟩,⟨_,(eE (hno _ (by omega))).trans bu⟩,⟨_,_,(eE (hno _ (by omega))).trans bu⟩,fun y hy=>(eE (hno _ (by omega))).trans (Eq.trans cA (hkp3 y hy))⟩
      intro y hy
      have:=hlt2 y hy
      have:=hlt3 y hy
      exact cA
   ·have htry:DI u mo k t l=some l:=by
     unfold DI
     rw[hmm,if_pos hb]
    rw[htry] at hall
    refine cT ?_
    exact⟨(t+1,l),by dsimp only;omega,_,_,_,Rt.refl _ _ _,cF,by dsimp only;omega,hkl,hl,hfs,hmm,hall,cZ,⟨_,bu⟩,⟨_,bu⟩,⟨_,_,bu⟩,fun y hy=>Eq.trans cA (hkp y hy)⟩
  ·have htG:t=u.bw.length:=by omega
   subst htG
   rw[List.drop_of_length_le (by simp),CX] at hall
   refine cT ?_
   exact⟨(k+1,l),by dsimp only;omega,_,_,_,Rt.refl _ _ _,cF,by dsimp only;omega,hl,hfs,hall,cZ,⟨_,bu⟩,⟨_,bu⟩,⟨_,_,bu⟩,fun y hy=>Eq.trans cA (hkp y hy)⟩
 ·have hk2:k=l.length:=by omega
  refine cT ?_
  have hl2:gP u mo=some l:=by
   rw[←hall]
   subst hk2
   cases h:mo - l.length with
   |zero=>rfl
   |succ q=>rw[wj,if_neg (by omega)]
  have hw:=fun(H':Hp) (n':Nat) (hr:br H' (n1+15)=some (.row 163 3 d1 (l.map (cS.av u))))=>Wk.XD (r:= .sl (n1+15) l.length) (H:=H') (nx:=n') [(n1+15,some (.row 163 3 d1 (l.map (cS.av u))))] 1 (fun b q hq=>by
   by_cases hb:b=n1+15
   ·subst hb;rw[cn] at hq;rw[←hq];exact hr
   ·rw[cV hb] at hq;cases hq)
  rw[MT (cn _ _ _) (by simp),sF] at hw
  rw[hl2]
  refine aU (fun i:Nat=>[(2, .fn (.func g) [] caps),(10,kA u l),(86,i64 l.length),(87,i64 i)])
   (fun i H n=>i≤l.length∧nx≤n∧I i H) (fun i=>l.length - i) 0
   ⟨_,_,_,Rt.slot 10 rfl (hw _ _ bu),cF,Nat.zero_le _,cZ,hst 0 _ _ hI0 fun y hy=>(cV (by omega)).trans (Eq.trans cA (hkp y hy))⟩ ?_
  clear r0' r1' r2' hkp hw hn
  rintro i H n ⟨hi,hn,hI⟩
  by_cases hil:i<l.length
  ·refine cT ?_
   refine Eq.mpr (hC caps _) ?_
   show hX Tryz.prog g (kA u l::i64 i::caps) _ _ _
   refine aJ (hcl l hl2 i _ _ hil cZ (hst i H _ hI fun y hy=>cA)) ?_
   rintro _ H2 n2 ⟨hI2,hn2,_⟩
   refine cT ?_
   exact⟨i+1,by omega,_,_,_,Rt.refl _ _ _,cF,by omega,cZ,hst _ _ _ hI2 fun y hy=>cA⟩
  ·obtain rfl:i=l.length:=by omega
   refine cT ?_
   exact⟨⟨cZ,by rw[List.length_map],hst _ _ _ hI fun y hy=>cA⟩⟩
end Go.Proofs.YtjopoheligmmoaaGreatDoor
end
section
/- Ends compared: the code's Compare and Same. -/
namespace Go.Proofs.YtjopoheligmmoaaGreatDoor
open Go Go.cX Go.Proofs
set_option linter.unusedSimpArgs false
set_option linter.unusedVariables false
theorem G3 (p q:dR):Pure Tryz.prog 151 [p.av,q.av] (fun r=>r=i64 (jC p q)):=by
 have c0:=rQ p.dZ q.dZ
 have c1:=tn p.word q.word
 have c2:=wE [eU p.dZ q.dZ,eU p.word q.word] (by simp)
 refine aI yQ rfl ?_
 refine cT ?_
 refine aS (args2:=[cR [eU p.dZ q.dZ,eU p.word q.word]]) (r:=i64 (jC p q)) c2 rfl (by simp[cW,cK]) trivial ?_
 refine cT ?_
 first|exact rfl|trivial
theorem uc {l:List dR} {i:Nat} (h:i<l.length) (d:AV):(l.map dR.av).getD ((i:Int)).toNat d=(l.getD i default).av:=by
 rw[Int.toNat_natCast];exact cy dR.av l i d h
theorem AW (a b:List dR) (ha:a.length<9223372036854775807):Pure Tryz.prog 150 [fg a,fg b, .fn (.func 151) [] []] (fun r=>r=i64 (eX jC a b)):=by
 refine aI yP rfl ?_
 refine cT ?_
 rw[List.length_map]
 refine aL (fun i:Nat=>[(0,fg a),(1,fg b),(2, .fn (.func 151) [] []),(11,fg a),(12,i64 a.length),(13,i64 i)]) (fun i H n=>i≤a.length∧i≤b.length∧eX jC a b=eX jC (a.drop i) (b.drop i)) (fun i=>a.length - i) 0 cF ⟨Nat.zero_le _,Nat.zero_le _,rfl⟩ ?_
 rintro i H n ⟨hi,hib,ho⟩
 rw[ho]
 have a0:(a.map dR.av).length=a.length:=by simp
 have a1:(b.map dR.av).length=b.length:=by simp
 by_cases hil:i<a.length
 ·have e0:=fun d=>uc hil d
  by_cases hbl:i<b.length
  ·have e1:=fun d=>uc hbl d
   have hd:=vX jC default hil hbl
   have c0:=G3 (a.getD i default) (b.getD i default)
   generalize a.getD i default=p at *
   generalize b.getD i default=q at *
   by_cases hz:jC p q=0
   ·have r0:=hz
    rw[if_pos hz] at hd
    refine cT ?_
    exact⟨i+1,by omega,cF,by omega,by omega,hd⟩
   ·have r0:=decide_eq_true hz
    rw[if_neg hz] at hd
    refine cT ?_
    rw[hd]
  ·rw[rV jC hil (by omega)]
   refine cT ?_
   first|exact rfl|trivial
 ·obtain rfl:i=a.length:=by omega
  rw[rT jC (Nat.le_refl _) hib]
  by_cases h:a.length<b.length
  ·rw[if_pos h]
   refine cT ?_
   first|exact rfl|trivial
  ·rw[if_neg h]
   refine cT ?_
   first|exact rfl|trivial
theorem AT (a b:List Int) (ha:a.length<9223372036854775807):Pure Tryz.prog 153 [cR a,cR b] (fun r=>r=i64 (eX eU a b)):=by
 refine aI yR rfl ?_
 refine cT ?_
 rw[List.length_map]
 refine aL (fun i:Nat=>[(0,cR a),(1,cR b),(9,cR a),(10,i64 a.length),(11,i64 i)]) (fun i H n=>i≤a.length∧i≤b.length∧eX eU a b=eX eU (a.drop i) (b.drop i)) (fun i=>a.length - i) 0 cF ⟨Nat.zero_le _,Nat.zero_le _,rfl⟩ ?_
 rintro i H n ⟨hi,hib,ho⟩
 rw[ho]
 have a0:(a.map i64).length=a.length:=by simp
 have a1:(b.map i64).length=b.length:=by simp
 by_cases hil:i<a.length
 ·have e0:=fun d=>ints_at hil d
  by_cases hbl:i<b.length
  ·have e1:=fun d=>ints_at hbl d
   have hd:=vX eU 0 hil hbl
   have c0:=tn (a.getD i 0) (b.getD i 0)
   generalize a.getD i 0=p at *
   generalize b.getD i 0=q at *
   by_cases hz:eU p q=0
   ·have r0:=hz
    rw[if_pos hz] at hd
    refine cT ?_
    exact⟨i+1,by omega,cF,by omega,by omega,hd⟩
   ·have r0:=decide_eq_true hz
    rw[if_neg hz] at hd
    refine cT ?_
    rw[hd]
  ·rw[rV eU hil (by omega)]
   refine cT ?_
   first|exact rfl|trivial
 ·obtain rfl:i=a.length:=by omega
  rw[rT eU (Nat.le_refl _) hib]
  by_cases h:a.length<b.length
  ·rw[if_pos h]
   refine cT ?_
   first|exact rfl|trivial
  ·rw[if_neg h]
   refine cT ?_
   first|exact rfl|trivial
theorem tm (a b:cj) (h1:a.cM.length<9223372036854775807) (h2:a.mem.length<9223372036854775807):Pure Tryz.prog 96 [a.av,b.av] (fun r=>r=i64 (fj a b)):=by
 have c0:=AW a.cM b.cM h1
 have c1:=AT a.mem b.mem h2
 have c2:=wE [eX jC a.cM b.cM,eX eU a.mem b.mem,vV a.ended b.ended] (by simp)
 obtain⟨ap,am,ae⟩:=a
 obtain⟨bp,bm,be⟩:=b
 cases ae<;>cases be<;>(refine aI NX rfl ?_;refine cT ?_;refine aS (args2:=[cR [eX jC ap bp,eX eU am bm,_]]) (r:=i64 (sX [eX jC ap bp,eX eU am bm,_])) c2 rfl (by simp[cW,cK]) trivial ?_;refine cT ?_;first|exact rfl|trivial)
theorem np (a b:cj) (h1:a.cM.length<9223372036854775807) (h2:a.mem.length<9223372036854775807):Pure Tryz.prog 98 [a.av,b.av] (fun r=>r=bl (decide (fj a b=0))):=by
 have c0:=tm a b h1 h2
 refine aI NY rfl ?_
 refine cT ?_
 refine ee ?_
 simp
end Go.Proofs.YtjopoheligmmoaaGreatDoor
end
section
/- Ends compared: the document's Compare; the plain laws. -/
namespace Go.Proofs.YtjopoheligmmoaaGreatDoor
open Go Go.cX Go.Proofs
set_option linter.unusedSimpArgs false
set_option linter.unusedVariables false
theorem P4 (x:Int):eU x x=0:=by unfold eU;simp
end Go.Proofs.YtjopoheligmmoaaGreatDoor
end
section
/- Ends compared: the order's plain laws. -/
namespace Go.Proofs.YtjopoheligmmoaaGreatDoor
open Go Go.cX Go.Proofs
set_option linter.unusedSimpArgs false
set_option linter.unusedVariables false
theorem rR (x y:Int):eU y x=-eU x y:=by
 unfold eU
 repeat' (first|omega|split)
theorem wD:∀l:List Int,sX (l.map (-·))=-sX l
 |[]=>rfl
 |x::l=>by
  simp only[List.map_cons,sX]
  by_cases h:x=0
  ·rw[if_pos (by omega),if_pos h];exact wD l
  ·rw[if_neg (by omega),if_neg h]
theorem K6 (p q:dR):jC q p=-jC p q:=by
 unfold jC
 rw[←wD,rR p.dZ,rR p.word];rfl
theorem rU {α:Type} {f:α→α→Int} (hf:∀x y,f y x=-f x y):∀a b:List α,eX f b a=-eX f a b
 |[],[]=>rfl
 |[],_::_=>rfl
 |_::_,[]=>rfl
 |x::a,y::b=>by
  rw[eX,eX,hf x y]
  by_cases h:f x y=0
  ·rw[if_pos (by omega),if_pos h];exact rU hf a b
  ·rw[if_neg (by omega),if_neg h]
theorem K4 (a b:Bool):vV b a=-vV a b:=by cases a<;>cases b<;>rfl
theorem K5 (a b:cj):fj b a=-fj a b:=by
 unfold fj
 rw[←wD,rU K6 a.cM,rU rR a.mem,K4 a.ended];rfl
theorem zY {l:List Int}:sX l=0↔∀x∈l,x=0:=by
 induction l with
 |nil=>simp[sX]
 |cons x l ih=>
  rw[sX]
  by_cases h:x=0
  ·rw[if_pos h,ih];simp[h]
  ·rw[if_neg h];simp[h]
theorem jy {x y:Int}:eU x y=0↔x=y:=by
 constructor
 ·unfold eU;intro h;revert h;repeat' (first|omega|split)
 ·rintro rfl;exact P4 _
theorem pZ {p q:dR}:jC p q=0↔p=q:=by
 unfold jC
 rw[zY]
 simp only[List.mem_cons,List.not_mem_nil,or_false,forall_eq_or_imp,forall_eq,jy]
 constructor
 ·rintro⟨h1,h2⟩;cases p;cases q;simp_all
 ·rintro rfl;exact⟨rfl,rfl⟩
theorem jz {α:Type} {f:α→α→Int} (hf:∀x y,f x y=0↔x=y):∀a b:List α,eX f a b=0↔a=b
 |[],[]=>by simp[eX]
 |[],_::_=>by simp[eX]
 |_::_,[]=>by simp[eX]
 |x::a,y::b=>by
  rw[eX]
  by_cases h:f x y=0
  ·rw[if_pos h,jz hf a b]
   have:=(hf x y).1 h
   simp[this]
  ·rw[if_neg h]
   have:x≠y:=fun e=>h ((hf x y).2 e)
   simp[h,this]
theorem pY {a b:cj}:fj a b=0↔a=b:=by
 unfold fj
 rw[zY]
 simp only[List.mem_cons,List.not_mem_nil,or_false,forall_eq_or_imp,forall_eq,jz (fun x y=>pZ),jz (fun x y=>jy)]
 constructor
 ·rintro⟨h1,h2,h3⟩
  obtain⟨ap,am,ae⟩:=a
  obtain⟨bp,bm,be⟩:=b
  cases ae<;>cases be<;>simp_all[vV]
 ·rintro rfl
  exact⟨rfl,rfl,by cases a.ended<;>rfl⟩
end Go.Proofs.YtjopoheligmmoaaGreatDoor
end
section
/- Count; the closures that ends, ways and what is shown hand to the exploring. -/
namespace Go.Proofs.YtjopoheligmmoaaGreatDoor
open Go Go.cX Go.Proofs
set_option linter.unusedSimpArgs false
set_option linter.unusedVariables false
set_option maxRecDepth 8000
open Classical in
noncomputable def eG (u:bt) (most:Int):Int×List cS:=
 if ¬cY u then(60,[]) else if ¬(1≤most∧most≤65536) then(2,[]) else match gP u most.toNat with
  |none=>(3,[])
  |some l=>(0,l)
theorem oE {u:bt} {most:Int} (h:¬cY u):eG u most=(60,[]):=by unfold eG;rw[if_pos h]
theorem kW {u:bt} {most:Int} (h:cY u) (hm:¬(1≤most∧most≤65536)):eG u most=(2,[]):=by unfold eG;rw[if_neg (fun e=>e h),if_pos hm]
theorem oF {u:bt} {most:Int} (h:cY u) (hm:1≤most∧most≤65536):eG u most=(match gP u most.toNat with|none=>(3,[])|some l=>(0,l)):=by unfold eG;rw[if_neg (fun e=>e h),if_neg (fun e=>e hm)]
def dN (u:bt) (l:List cS) (k:Nat):List cj:=(l.take k).filterMap fun f=>if f.m.stuck u then some (f.m.end_ u) else none
theorem xM {u:bt} {l:List cS} {k:Nat} (hk:k<l.length):dN u l (k+1)=dN u l k++(if(l.getD k default).m.stuck u then[(l.getD k default).m.end_ u] else[]):=by
 unfold dN
 rw[List.take_succ_eq_append_getElem hk,List.filterMap_append,show l.getD k default=l[k] by simp[List.getD,hk]]
 congr 1
 simp only[List.filterMap_cons,List.filterMap_nil]
 split
 ·rename_i h;split at h<;>simp_all
 ·rename_i h;split at h<;>simp_all
theorem k9 (u:bt) (l:List cS) (k:Nat):(dN u l k).length≤k:=by
 unfold dN
 refine Nat.le_trans (List.length_filterMap_le _ _) ?_
 rw[List.length_take];omega
set_option maxHeartbeats 1000000 in
theorem D4 {u:bt} (hr:cY u) {l:List cS} (hf:iI u l) (hl:l.length≤65536) {k:Nat} (hk:k<l.length) {ub ob o:Nat} {H:Hp} {nx:Nat} (h1:ub<nx) (h2:ob<nx) (h3:o<nx) (hne:ob≠o)
 (r1:∃d,br H ub=some (.row 25 3 d [u.av])) (r2:∃d,br H ob=some (.row 41 1 d [.sl o (dN u l k).length])) (r3:∃d,br H o=some (.row 105 3 d ((dN u l k).map cj.av))):
 cI Tryz.prog 93 [kA u l,i64 k, .pt ub 1 0 0, .pt ob 1 0 0] H nx (fun _ H' n=>(∃d,br H' ob=some (.row 41 1 d [.sl o (dN u l (k+1)).length]))∧(∃d,br H' o=some (.row 105 3 d ((dN u l (k+1)).map cj.av)))∧nx≤n∧∀y,y<nx→y≠ob→y≠o→br H' y=br H y):=by
 obtain⟨d1,r1⟩:=r1
 obtain⟨d2,r2⟩:=r2
 obtain⟨d3,r3⟩:=r3
 have hel:=k9 u l k
 obtain⟨hm,hp⟩:=hf.ok k hk
 have e0:∀d,(l.map (cS.av u)).getD ((k:Int)).toNat d= .agg [(l.getD k default).m.fz u,i64 (l.getD k default).from_,i64 (l.getD k default).dZ]:=fun d=>by rw[Int.toNat_natCast];exact cy (cS.av u) l k d hk
 have a0:(l.map (cS.av u)).length=l.length:=by simp
 have a1:((dN u l k).map cj.av).length=(dN u l k).length:=by simp
 have c0:=u9 u hr (l.getD k default).m hm (by omega) (by have:=hm.ml;have:=hr.qN;omega)
 rw[xM hk]
 generalize (l.getD k default).m=m at *
 cases hs:m.stuck u with
 |true=>
  rw[kx,hs] at c0
  refine aM IW rfl ?_
  refine cT ?_
  refine⟨⟨⟨_,by simp only[List.length_append,if_true,List.length_cons,List.length_nil];exact bu⟩,⟨_,by simp only[List.map_append,if_true,List.map_cons,List.map_nil];exact bu⟩,cZ,fun y y1 y2 y3=>cA⟩⟩
 |false=>
  rw[kx,hs] at c0
  refine aM IW rfl ?_
  refine cT ?_
  refine⟨⟨⟨_,by rw[if_neg (by decide),List.append_nil];exact bu⟩,⟨_,by rw[if_neg (by decide),List.append_nil];exact bu⟩,cZ,fun y y1 y2 y3=>cA⟩⟩
end Go.Proofs.YtjopoheligmmoaaGreatDoor
end
section
/- Shows: the walk. -/
namespace Go.Proofs.YtjopoheligmmoaaGreatDoor
open Go Go.cX Go.Proofs
set_option linter.unusedSimpArgs false
set_option linter.unusedVariables false
set_option maxRecDepth 8000
end Go.Proofs.YtjopoheligmmoaaGreatDoor
end
section
/- Way: what it does to its list; the way back. -/
namespace Go.Proofs.YtjopoheligmmoaaGreatDoor
open Go Go.cX Go.Proofs
set_option linter.unusedSimpArgs false
set_option linter.unusedVariables false
set_option maxRecDepth 8000
def kM (l:List Int) (i:Nat):List Int:=(List.range l.length).map fun q=>if q<i∨l.length≤q+i then l.getD (l.length - 1 - q) 0 else l.getD q 0
theorem gZ (l:List Int) (i:Nat):(kM l i).length=l.length:=by simp[kM]
theorem mg {l:List Int} {i q:Nat} (h:q<l.length):(kM l i).getD q 0=if q<i∨l.length≤q+i then l.getD (l.length - 1 - q) 0 else l.getD q 0:=by simp[kM,List.getD,h]
theorem JM (l:List Int):kM l 0=l:=by
 apply List.ext_getElem (gZ l 0)
 intro q h1 h2
 have:=mg (l:=l) (i:=0) h2
 rw[if_neg (by omega)] at this
 simpa[List.getD,h1,h2] using this
theorem ON {l:List Int} {i:Nat} (h:l.length≤2 * i+1):kM l i=l.reverse:=by
 apply List.ext_getElem (by simp[gZ])
 intro q h1 h2
 have hq:q<l.length:=by simpa using h2
 have:=mg (l:=l) (i:=i) hq
 rw[show(kM l i).getD q 0=(kM l i)[q] by simp[List.getD,h1]] at this
 rw[this,List.getElem_reverse]
 split
 ·simp[List.getD,show l.length - 1 - q<l.length by omega]
 ·have:q=l.length - 1 - q:=by omega
  conv=>lhs;rw[this]
  simp[List.getD,show l.length - 1 - q<l.length by omega]
theorem JL {l:List Int} {i:Nat} (h:2 * i+1<l.length):((kM l i).set i (l.getD (l.length - 1 - i) 0)).set (l.length - 1 - i) (l.getD i 0)=kM l (i+1):=by
 apply List.ext_getElem (by simp[gZ])
 intro q h1 h2
 have hq:q<l.length:=by simpa[gZ] using h2
 have e1:=mg (l:=l) (i:=i) hq
 have e2:=mg (l:=l) (i:=i+1) hq
 rw[show(kM l (i+1)).getD q 0=(kM l (i+1))[q] by simp[List.getD,h2]] at e2
 rw[show(kM l i).getD q 0=(kM l i)[q]'(by rw[gZ];exact hq) by simp[List.getD,gZ,hq]] at e1
 rw[e2,List.getElem_set,List.getElem_set,e1]
 by_cases c1:l.length - 1 - i=q
 ·subst c1
  rw[if_pos rfl,if_pos (by omega),show l.length - 1 - (l.length - 1 - i)=i by omega]
 ·rw[if_neg c1]
  by_cases c2:i=q
  ·subst c2
   rw[if_pos rfl,if_pos (by omega)]
  ·rw[if_neg c2]
   by_cases c3:q<i∨l.length≤q+i
   ·rw[if_pos c3,if_pos (by omega)]
   ·rw[if_neg c3,if_neg (by omega)]
set_option maxHeartbeats 1000000 in
theorem pA {b:Nat} {l:List Int} {H:Hp} {nx:Nat} (hb:b<nx) (hl:l.length≤1048576) (r:∃d,br H b=some (.row 3 1 d (l.map i64))):
 cI Tryz.prog 83 [.sl b l.length] H nx (fun _ H' n=>(∃d,br H' b=some (.row 3 1 d (l.reverse.map i64)))∧nx≤n∧∀y,y<nx→y≠b→br H' y=br H y):=by
 obtain⟨d0,r0'⟩:=r
 refine aM NT rfl ?_
 have a0:(l.map i64).length=l.length:=by simp
 refine cT ?_
 refine aL (fun σ:Nat×Int=>[(0, .sl b l.length),(2,i64 σ.1),(3,i64 σ.2)]) (fun σ H2 n=>σ.2=(l.length:Int) - 1 - σ.1∧2 * σ.1≤l.length+1∧nx≤n∧(∃d,br H2 b=some (.row 3 1 d ((kM l σ.1).map i64)))∧∀y,y<nx→y≠b→br H2 y=br H y) (fun σ=>l.length - σ.1) (0,(l.length:Int) - 1) cF ⟨by simp,by dsimp only;omega,cZ,⟨d0,by rw[JM];exact bu⟩,fun y h1 h2=>cA⟩ ?_
 clear r0' a0
 rintro⟨i,j⟩ H2 n ⟨hj,hi,hn,⟨d,r1⟩,hk⟩
 dsimp only at hj hi r1 ⊢
 have a0:((kM l i).map i64).length=l.length:=by simp[gZ]
 by_cases hc:2 * i+1<l.length
 ·obtain⟨jn,rfl⟩:∃jn:Nat,j=jn:=⟨j.toNat,by omega⟩
  have hjn:jn=l.length - 1 - i:=by omega
  have e0:=fun d=>ints_at (l:=kM l i) (k:=i) (by rw[gZ];omega) d
  have e1:=fun d=>ints_at (l:=kM l i) (k:=jn) (by rw[gZ];omega) d
  have e2:∀x d,(((kM l i).map i64).set ((i:Int)).toNat x).getD ((jn:Int)).toNat d=i64 ((kM l i).getD jn 0):=fun x d=>by
   rw[getD_set_ne (by omega)];exact e1 d
  have v0:=mg (l:=l) (i:=i) (q:=i) (by omega)
  rw[if_neg (by omega)] at v0
  have v1:=mg (l:=l) (i:=i) (q:=jn) (by omega)
  rw[if_neg (by omega)] at v1
  rw[v0] at e0
  rw[v1] at e1 e2
  have e3:=e2 (i64 (l.getD jn 0))
  clear e2
  have hnx:=JL hc
  rw[←hjn] at hnx
  refine cT ?_
  refine⟨(i+1,(jn:Int) - 1),by dsimp only;omega,cF,by dsimp only;omega,by dsimp only;omega,cZ,⟨_,by dsimp only;rw[←hnx,List.map_set,List.map_set];exact bu⟩,fun y h1 h2=>Eq.trans cA (hk y h1 h2)⟩
 ·refine cT ?_
  rw[ON (by omega)] at r1
  exact⟨⟨d,bu⟩,cZ,fun y h1 h2=>Eq.trans cA (hk y h1 h2)⟩
def iQ (l:List cS):Nat→Nat→List Int
 |0,_=>[]
 |f+1,k=>if 0≤(l.getD k default).from_ then(l.getD k default).dZ::iQ l f (l.getD k default).from_.toNat else[]
theorem iI.ve {u:bt} {l:List cS} (h:iI u l) {k:Nat} (hk:k<l.length) (h0:0≤(l.getD k default).from_):(l.getD k default).from_.toNat<k∧0<k:=by
 rcases Nat.eq_zero_or_pos k with e|e
 ·subst e;rw[h.first] at h0;exact absurd h0 (by simp)
 ·obtain⟨k',t,h1,_,_,h2⟩:=h.K2 k e hk
  rw[h2]
  exact⟨by dsimp only;omega,e⟩
theorem rJ {u:bt} {l:List cS} (h:iI u l):∀{f g k:Nat},k<l.length→k≤f→k≤g→iQ l f k=iQ l g k
 |0,0,k,hk,hf,hg=>rfl
 |0,g+1,k,hk,hf,hg=>by
  obtain rfl:k=0:=by omega
  rw[iQ,iQ,h.first];rfl
 |f+1,0,k,hk,hf,hg=>by
  obtain rfl:k=0:=by omega
  rw[iQ,iQ,h.first];rfl
 |f+1,g+1,k,hk,hf,hg=>by
  rw[iQ,iQ]
  split
  ·rename_i h0
   obtain⟨h1,h2⟩:=h.ve hk h0
   rw[rJ h (f:=f) (g:=g) (by omega) (by omega) (by omega)]
  ·rfl
abbrev nA (l:List cS) (k:Nat):List Int:=iQ l k k
theorem wv {u:bt} {l:List cS} (h:iI u l) {k:Nat} (hk:k<l.length) (h0:0≤(l.getD k default).from_):nA l k=(l.getD k default).dZ::nA l (l.getD k default).from_.toNat:=by
 obtain⟨h1,h2⟩:=h.ve hk h0
 obtain⟨f,rfl⟩:∃f,k=f+1:=⟨k - 1,by omega⟩
 show iQ l (f+1) (f+1)=_
 rw[iQ,if_pos h0]
 congr 1
 exact rJ h (by omega) (by omega) (Nat.le_refl _)
theorem ta {l:List cS} {k:Nat} (h0:¬0≤(l.getD k default).from_):nA l k=[]:=by
 show iQ l k k=[]
 cases k with
 |zero=>rfl
 |succ f=>rw[iQ,if_neg h0]
theorem tZ (l:List cS):∀f k,(iQ l f k).length≤f
 |0,k=>Nat.le_refl _
 |f+1,k=>by
  rw[iQ]
  split
  ·rw[List.length_cons];have:=tZ l f (l.getD k default).from_.toNat;omega
  ·simp
def fG (u:bt) (l:List cS) (e:cj) (k:Nat):Option Nat:=(List.range k).find? fun i=>(l.getD i default).m.stuck u&&decide (fj ((l.getD i default).m.end_ u) e=0)
theorem BP (u:bt) (l:List cS) (e:cj) (k:Nat):fG u l e (k+1)=match fG u l e k with
 |some i=>some i
 |none=>if(l.getD k default).m.stuck u&&decide (fj ((l.getD k default).m.end_ u) e=0) then some k else none:=by
 unfold fG
 rw[List.range_succ,List.find?_append]
 cases(List.range k).find? fun i=>(l.getD i default).m.stuck u&&decide (fj ((l.getD i default).m.end_ u) e=0) with
 |some i=>rfl
 |none=>
  simp only[Option.none_or,List.find?_cons,List.find?_nil]
  split<;>simp_all
theorem MP {u:bt} {l:List cS} {e:cj} {k i:Nat} (h:fG u l e k=some i):i<k:=by
 have:=List.mem_of_find?_eq_some h
 exact List.mem_range.1 this
def ja (l:List cS):Option Nat→List Int
 |none=>[]
 |some i=>(nA l i).reverse
set_option maxHeartbeats 2000000 in
theorem V1 {u:bt} (hr:cY u) {l:List cS} (hf:iI u l) (hl:l.length≤65536) {e:cj} (he1:e.cM.length * 16≤140737488355328) (he2:e.mem.length * 8≤140737488355328) {k:Nat} (hk:k<l.length) {ub ib eb wb W:Nat} {H:Hp} {nx:Nat} (hn:ub<nx∧ib<nx∧eb<nx∧wb<nx∧W<nx) (hne:ub≠ib∧ub≠wb∧ub≠W∧ib≠eb∧ib≠wb∧ib≠W∧eb≠wb∧eb≠W∧wb≠W)
 (r0:∃d,br H ub=some (.row 25 3 d [u.av])) (r1:∃d,br H ib=some (.row 4 1 d [bl (fG u l e k).isSome])) (r2:∃d,br H eb=some (.row 105 3 d [e.av])) (r3:∃d,br H wb=some (.row 31 1 d [.sl W (ja l (fG u l e k)).length])) (r4:∃d,br H W=some (.row 3 1 d ((ja l (fG u l e k)).map i64))):
 cI Tryz.prog 103 [kA u l,i64 k, .pt ub 1 0 0, .pt ib 1 0 0, .pt eb 1 0 0, .pt wb 1 0 0] H nx (fun _ H' n=>(∃d,br H' ib=some (.row 4 1 d [bl (fG u l e (k+1)).isSome]))∧(∃d,br H' wb=some (.row 31 1 d [.sl W (ja l (fG u l e (k+1))).length]))∧(∃d,br H' W=some (.row 3 1 d ((ja l (fG u l e (k+1))).map i64)))∧nx≤n∧∀y,y<nx→y≠ib→y≠wb→y≠W→br H' y=br H y):=by
 obtain⟨d0,r0'⟩:=r0
 obtain⟨d1,r1'⟩:=r1
 obtain⟨d2,r2'⟩:=r2
 obtain⟨d3,r3'⟩:=r3
 obtain⟨d4,r4'⟩:=r4
 obtain⟨n0,n1,n2,n3,n4⟩:=hn
 obtain⟨m0,m1,m2,m3,m4,m5,m6,m7,m8⟩:=hne
 obtain⟨hm,hp⟩:=hf.ok k hk
 have e0:∀d,(l.map (cS.av u)).getD ((k:Int)).toNat d= .agg [(l.getD k default).m.fz u,i64 (l.getD k default).from_,i64 (l.getD k default).dZ]:=fun d=>by rw[Int.toNat_natCast];exact cy (cS.av u) l k d hk
 have a0:(l.map (cS.av u)).length=l.length:=by simp
 have hgl:=hr.qN
 have hml:=hm.ml
 have c0:=u9 u hr (l.getD k default).m hm (by omega) (by omega)
 have c1:=np ((l.getD k default).m.end_ u) e (by show(l.getD k default).m.cM.length<_;omega) (by show(l.getD k default).m.mem.length<_;omega)
 rw[BP]
 cases hh:fG u l e k with
 |some i=>
  rw[hh] at r1' r3' r4'
  dsimp only
  generalize (l.getD k default).m=m at *
  cases hs:m.stuck u with
  |true=>
   rw[kx,hs] at c0
   refine aM oY rfl ?_
   refine cT ?_
   exact⟨⟨_,bu⟩,⟨_,bu⟩,⟨_,bu⟩,cZ,fun y y1 y2 y3 y4=>cA⟩
  |false=>
   rw[kx,hs] at c0
   refine aM oY rfl ?_
   refine cT ?_
   exact⟨⟨_,bu⟩,⟨_,bu⟩,⟨_,bu⟩,cZ,fun y y1 y2 y3 y4=>cA⟩
 |none=>
  rw[hh] at r1' r3' r4'
  dsimp only
  by_cases hs:(l.getD k default).m.stuck u=true
  ·rw[kx,hs] at c0
   by_cases hc:fj ((l.getD k default).m.end_ u) e=0
   ·rw[hs,decide_eq_true hc,if_pos (by rfl)]
    rw[decide_eq_true hc] at c1
    refine aM oY rfl ?_
    refine cT ?_
    clear c0 c1 e0 r0' r2'
    have hway:ja l none=[]:=rfl
    rw[hway] at r3' r4'
    refine aL (fun σ:Nat×List Int=>[(0,kA u l),(5, .pt wb 1 0 0),(10,i64 σ.1)])
     (fun σ H2 n=>σ.1<l.length∧σ.2++nA l σ.1=nA l k∧nx≤n∧(∃d,br H2 ib=some (.row 4 1 d [bl true]))∧(∃d,br H2 wb=some (.row 31 1 d [.sl W σ.2.length]))∧(∃d,br H2 W=some (.row 3 1 d (σ.2.map i64)))∧∀y,y<nx→y≠ib→y≠wb→y≠W→br H2 y=br H y) (fun σ=>σ.1) (k,[]) cF
     ⟨hk,rfl,cZ,⟨_,bu⟩,⟨_,bu⟩,⟨_,bu⟩,fun y y1 y2 y3 y4=>cA⟩ ?_
    clear r1' r3' r4'
    rintro⟨at_,acc⟩ H2 n ⟨hat,hacc,hn2,⟨d1,r1'⟩,⟨d3,r3'⟩,⟨d4,r4'⟩,hkp⟩
    dsimp only at hat hacc r3' r4' ⊢
    have hbl:=tZ l k k
    have hal:acc.length≤65536:=by
     have:=congrArg List.length hacc
     rw[List.length_append] at this
     have:(nA l k).length≤k:=hbl
     omega
    have a1:(acc.map i64).length=acc.length:=by simp
    have e0:∀d,(l.map (cS.av u)).getD ((at_:Int)).toNat d= .agg [(l.getD at_ default).m.fz u,i64 (l.getD at_ default).from_,i64 (l.getD at_ default).dZ]:=fun d=>by rw[Int.toNat_natCast];exact cy (cS.av u) l at_ d hat
    by_cases h0:0≤(l.getD at_ default).from_
    ·obtain⟨hlt,hpos⟩:=hf.ve hat h0
     have hon:=wv hf hat h0
     obtain⟨q,hq⟩:∃q:Nat,(l.getD at_ default).from_=q:=⟨_,(Int.toNat_of_nonneg h0).symm⟩
     rw[hq] at e0 hlt hon
     rw[Int.toNat_natCast] at hlt hon
     have hge:¬(q:Int)<0:=by omega
     refine cT ?_
     refine⟨(q,acc++[(l.getD at_ default).dZ]),hlt,cF,by dsimp only;omega,by dsimp only;rw[List.append_assoc,List.singleton_append,←hon];exact hacc,cZ,⟨_,bu⟩,⟨_,by dsimp only;rw[List.length_append];exact bu⟩,⟨_,by dsimp only;rw[List.map_append];exact bu⟩,fun y y1 y2 y3 y4=>Eq.trans cA (hkp y y1 y2 y3 y4)⟩
    ·have hon:=ta h0
     rw[hon,List.append_nil] at hacc
     subst hacc
     refine cT ?_
     refine aJ (pA (b:=W) (l:=nA l k) ?_ (by omega) ?_) ?_
     ·exact cZ
     ·exact⟨_,bu⟩
     rintro _ H3 n3 ⟨⟨d5,r5⟩,hn3,hk3⟩
     have q1:=hk3 ib cZ (by omega)
     have q2:=hk3 wb cZ (by omega)
     refine cT ?_
     exact⟨⟨d1,q1.trans bu⟩,⟨d3,by simp only[ja,List.length_reverse];exact q2.trans bu⟩,⟨d5,bu⟩,cZ,fun y y1 y2 y3 y4=>(hk3 y cZ y4).trans (Eq.trans cA (hkp y y1 y2 y3 y4))⟩
   ·rw[hs,decide_eq_false hc,if_neg (by decide)]
    rw[decide_eq_false hc] at c1
    refine aM oY rfl ?_
    refine cT ?_
    exact⟨⟨_,bu⟩,⟨_,bu⟩,⟨_,bu⟩,cZ,fun y y1 y2 y3 y4=>cA⟩
  ·have hs2:(l.getD k default).m.stuck u=false:=by simpa using hs
   rw[kx,hs2] at c0
   rw[hs2,Bool.false_and,if_neg (by decide)]
   refine aM oY rfl ?_
   refine cT ?_
   exact⟨⟨_,bu⟩,⟨_,bu⟩,⟨_,bu⟩,cZ,fun y y1 y2 y3 y4=>cA⟩
end Go.Proofs.YtjopoheligmmoaaGreatDoor
end
