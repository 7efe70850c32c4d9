import Derived.Test.YtekfmjjmihomlaaGreatM32
import Derived.Test.YtekfmjjmihomlaaGreatM33
import Derived.Test.YtekfmjjmihomlaaGreatM34
import Derived.Lib.ItoaLen
import Derived.Test.YtekfmjjmihomlaaGreatM30
section
/- A machine in rows told by value, within a list of what was found. -/
namespace Go.Proofs.YtekfmjjmihomlaaGreat
open Go Go.cV Go.Proofs
set_option linter.unusedSimpArgs false
set_option linter.unusedVariables false
set_option maxRecDepth 8000
def lU (S:List Nat) (H:Hp):Hp:=S.map fun y=>(y,bd H y)
theorem xZ {S:List Nat} {H:Hp} {y:Nat} (h:y∈S):bd (lU S H) y=bd H y:=by
 induction S with
 |nil=>cases h
 |cons x S ih=>
  rw[lU,List.map_cons]
  by_cases e:y=x
  ·subst e;exact cI _ _ _
  ·rw[bz e]
   exact ih (by simpa[e] using h)
theorem DT {S:List Nat} {H:Hp} {y:Nat} {q:eT} (h:bd (lU S H) y=some q):bd H y=some q:=by
 have:y∈S:=by
  have:=nW h
  simpa[lU] using this
 rw[xZ this] at h;exact h
theorem eJ {S:List Nat} {H H2:Hp} {y:Nat} (h:y∉S):bd (mK (lU S H) H2) y=bd H2 y:=gJ (by simpa[lU] using h)
section
variable {u:bj} {m:MS} {L:ML} {H:Hp}
theorem ML.At.sq (h:L.At u m H) (k:Nat):Go.cV.iQ (lU L.all H) (k+4) (.pt L.mr 1 0 0)=m.fz u:=by
 have h:=h.cO (H':=lU L.all H) fun y hy=>xZ hy
 generalize lU L.all H=G at *
 obtain⟨d1,h1⟩:=h.rM
 obtain⟨d2,h2⟩:=h.rA
 obtain⟨d3,h3⟩:=h.rS
 obtain⟨d4,h4⟩:=h.rE
 obtain⟨d5,h5⟩:=h.rH
 obtain⟨d6,h6⟩:=h.rP
 have hsl:(cx L.ids m.bg).length=m.bg.length:=oh h.len
 have hs:(cx L.ids m.bg).map (Go.cV.iQ G (k+1))=m.bg.map cW:=by
  apply List.ext_getElem (by simp[hsl])
  intro t q1 q2
  have ht:t<m.bg.length:=by simpa using q2
  have hti:t<L.ids.length:=by rw[h.len];exact ht
  obtain⟨d,hd⟩:=h.rL t ht
  rw[show L.ids.getD t 0=L.ids[t] by simp[List.getD,hti],show m.bg.getD t []=m.bg[t] by simp[List.getD,ht]] at hd
  rw[List.getElem_map,List.getElem_map]
  simp only[cx,List.getElem_map,List.getElem_zip]
  rw[lj hd (by simp),fj _ ((bu _ _).2 fun _ _=>by simp[bw])]
 rw[show Go.cV.iQ G (k+4) (.pt L.mr 1 0 0)= .ip 8 .any ([m.rows u L.a L.s L.me L.ho L.pr].map (Go.cV.iQ G (k+3))) 0 0 from J6 h1 rfl]
 simp only[List.map_cons,List.map_nil,MS.rows]
 rw[vd]
 simp only[List.map_cons,List.map_nil]
 rw[lj h2 (by simp),lj h3 hsl,lj h4 (by simp),lj h5 (by simp),lj h6 (by simp),hs]
 rw[fj _ ((bu _ _).2 fun _ _=>by simp[bw]),fj _ ((bu _ _).2 fun _ _=>by simp[bw]),fj _ ((bu _ _).2 fun _ _=>by simp[bw]),fj _ ((bu _ _).2 fun _ _=>by simp[bw])]
 rw[jv _ (show bw 0 (bn u.shared) by simp[bw,bu]),jv _ (show bw 0 (bn u.bo) by simp[bw,bu]),jv _ (show bw 0 (cL u.bh) by simp[bw,bu])]
 rfl
end
def cH.cells (u:bj) (f:cH):List AV:=[f.m.fz u,i64 f.from_,i64 f.cS]
abbrev cH.av (u:bj) (f:cH):AV:= .agg (f.cells u)
abbrev jJ (u:bj) (l:List cH):AV:= .im 3 .any (l.map (cH.av u))
@[simp] theorem B2 (n:Nat) (u:bj) (f:cH):cP n (f.cells u):=by
  have:=oX n u f.m
  simp[cH.cells,cP,bw]
theorem yL (u:bj) (l:List cH):cP 0 (l.map (cH.av u)):=(bu _ _).2 fun _ _=>by simp only[cH.av,bw];exact B2 _ _ _
theorem se {u:bj} {m:MS} {L:ML} {H:Hp} {lb nx:Nat} {d:AV} {l:List cH} {fr th:Int} (hM:L.At u m H) (hl:bd H lb=some (.row 75 3 d (l.map (cH.av u)++[.agg [.pt L.mr 1 0 0,i64 fr,i64 th]]))) (hlb:lb∉L.all):
 Wk .any H nx .any (mK (lU L.all H) ((lb,some (.row 75 3 .any ((l++[(⟨m,fr,th⟩:cH)]).map (cH.av u))))::H)) nx:=by
 have:=Wk.iQ (nx:=nx) (lU L.all H) 5 .any hl (fun b q hq=>DT hq)
 rw[List.map_append,fj _ (yL u l),List.map_cons,List.map_nil,vd,List.map_cons,List.map_cons,List.map_cons,List.map_nil,hM.sq 0,jv _ (show bw 0 (i64 fr) by simp[bw]),jv _ (show bw 0 (i64 th) by simp[bw])] at this
 rw[List.map_append]
 exact this
end Go.Proofs.YtekfmjjmihomlaaGreat
end
section
/- Keys are short, and tell situations apart as texts do. -/
namespace Go.Proofs.YtekfmjjmihomlaaGreat
open Go Go.cV Go.Proofs
set_option linter.unusedSimpArgs false
set_option linter.unusedVariables false
theorem la {α:Type} (f:α→List UInt8) (k:Nat):∀l:List α,(∀a∈l,(f a).length≤k)→(l.flatMap f).length≤l.length * k
 |[],_=>by simp
 |a::l,h=>by
  have h1:=la f k l fun b hb=>h b (by simp[hb])
  have h2:=h a (by simp)
  rw[List.flatMap_cons,List.length_append,List.length_cons,Nat.add_mul]
  omega
theorem lx {x:Int} (e:List UInt8) (h:dz x):(cz x e).length≤21+e.length:=by
 have:=Go.Lib.itoa_length_le x h.1 (by have:=h.2;omega)
 unfold cz
 rw[List.length_append]
 omega
theorem eN.NP {u:bj} {m:MS} (hr:ct u) (h:eN u m):(eW m).length≤100000000+m.bk.length * 50:=by
 have hf:=hr.tv
 have hal:=h.nD
 have hml:=h.ml
 have hhl:=h.hl
 have hn:∀t,t<u.bh.length→(u.gr t).nodes.length≤4096∧(u.gr t).bg≤4160:=fun t ht=>⟨(hr.gr ht).len.2,(hr.gr ht).bg.2⟩
 have h1:((List.range m.at_.length).flatMap (lV m)).length≤(List.range m.at_.length).length * 100000:=by
  refine la _ _ _ fun t ht=> ?_
  have ht:=List.mem_range.1 ht
  have hat:=h.gn t (by omega)
  obtain⟨n1,n2⟩:=hn t (by omega)
  have hs:=h.xi t (by omega)
  have a1:=lx (x:=m.at_.getD t 0) [44] ⟨by omega,by omega⟩
  have a2:=la (fun w=>cz w [44]) 22 (m.bg.getD t []) fun w hw=>lx [44] (h.zZ t (by omega) w hw)
  have e:(lV m t).length=(cz (m.at_.getD t 0) [44]).length+((m.bg.getD t []).flatMap (fun w=>cz w [44])).length+1:=by simp only[lV,List.length_append,List.length_cons,List.length_nil]
  simp only[List.length_cons,List.length_nil] at a1
  rw[e]
  omega
 rw[List.length_range] at h1
 have h2:=la (fun w=>cz w [44]) 22 m.mem fun w hw=>lx [44] (h.mw w hw)
 have h3:=la (fun w=>cz w [44]) 22 m.hold fun w hw=>lx [44] (by have:=h.hw w hw;exact⟨by omega,by omega⟩)
 have h4:=la rW 50 m.bk fun p hp=>by
  obtain⟨p1,p2,p3⟩:=h.pw p hp
  have a1:=lx (x:=p.cS) [58] ⟨by omega,by omega⟩
  have a2:=lx (x:=p.word) [44] p3
  simp only[List.length_cons,List.length_nil] at a1 a2
  unfold rW
  rw[List.length_append]
  omega
 rw[p9]
 omega
theorem eN.OO {u:bj} {m:MS} (hr:ct u) (h:eN u m) (hp:m.bk.length≤1048576):QJ m:=by
 have hf:=hr.tv
 refine⟨fun w hw=> ?_,by rw[h.sl,h.nD],fun l hl w hw=> ?_,h.mw,fun w hw=> ?_,fun p hp=> ?_, ?_⟩
 ·obtain⟨t,ht,rfl⟩:=List.mem_iff_getElem.1 hw
  have h1:=h.gn t (by rw[←h.nD];exact ht)
  have h2:=(hr.gr (t:=t) (by rw[←h.nD];exact ht)).len.2
  rw[show m.at_.getD t 0=m.at_[t] by simp[List.getD,ht]] at h1
  exact⟨by omega,by omega⟩
 ·obtain⟨t,ht,rfl⟩:=List.mem_iff_getElem.1 hl
  have:=h.zZ t (by rw[←h.sl];exact ht) w
  rw[show m.bg.getD t []=m.bg[t] by simp[List.getD,ht]] at this
  exact this hw
 ·have:=h.hw w hw
  exact⟨by omega,by omega⟩
 ·obtain⟨p1,p2,p3⟩:=h.pw p hp
  exact⟨⟨by omega,by omega⟩,p3⟩
 ·have:=h.NP hr
  omega
theorem BC {a b:List UInt8} (h:eL a=eL b):a=b:=by
 have:=congrArg (fun x:ByteArray=>x.data.toList) h
 simpa[eL] using this
abbrev jL (l:List cH):List (ByteArray×Int):=l.map fun f=>(eL (eW f.m),1)
abbrev mc (l:List cH):List AV:=oc (fun s:ByteArray=>Value.string s) i64 (jL l)
theorem q9 (l:List cH) (k:List UInt8):eX (jL l) (eL k)=if k∈gq l then some 1 else none:=by
 split
 ·rename_i h
  cases hl:eX (jL l) (eL k) with
  |none=>
   exfalso
   refine(o7 _ _).1 hl ?_
   rw[List.map_map]
   obtain⟨f,h1,h2⟩:=List.mem_map.1 h
   exact List.mem_map.2 ⟨f,h1,by simp only[Function.comp];rw[h2]⟩
  |some v=>
   have hv:∀(l:List cH),eX (jL l) (eL k)=some v→v=1:=by
    intro l
    induction l with
    |nil=>intro h;cases h
    |cons f l ih=>
     intro h
     rw[jL,List.map_cons,eX] at h
     split at h
     ·cases h;rfl
     ·exact ih h
   rw[hv l hl]
 ·rename_i h
  refine(o7 _ _).2 fun hm=>h ?_
  rw[List.map_map] at hm
  obtain⟨f,h1,h2⟩:=List.mem_map.1 hm
  simp only[Function.comp] at h2
  exact List.mem_map.2 ⟨f,h1,BC h2⟩
theorem CL {l:List cH} {m:MS} {a b:Int} (h:eW m∉gq l):iM (jL l) (eL (eW m)) 1=jL (l++[⟨m,a,b⟩]):=by
 have key:∀E:List (ByteArray×Int),eX E (eL (eW m))=none→iM E (eL (eW m)) 1=E++[(eL (eW m),1)]:=by
  intro E
  induction E with
  |nil=>intro _;rfl
  |cons p E ih=>
   intro hn
   obtain⟨x,y⟩:=p
   rw[eX] at hn
   rw[iM]
   split at hn
   ·cases hn
   ·rename_i hx
    rw[if_neg hx,ih hn];rfl
 rw[key _ (by rw[q9,if_neg h]),jL,jL,List.map_append];rfl
end Go.Proofs.YtekfmjjmihomlaaGreat
end
section
/- All situations: the walk. -/
namespace Go.Proofs.YtekfmjjmihomlaaGreat
open Go Go.cV Go.Proofs
set_option linter.unusedSimpArgs false
set_option linter.unusedVariables false
set_option maxRecDepth 8000
theorem pS (u:bj) (hu:u.Wf) (hr:¬ct u) (most:Int) (g:Nat) (caps:List AV) (H0:Hp) (nx:Nat):cJ Tryz.prog 32 [u.av,i64 most, .fn (.func g) [] caps] H0 nx (fun r H n=>r= .dH [i64 0,i64 60]∧nx≤n∧∀y,y<nx→bd H y=bd H0 y):=by
 have c0:=KW u hu hr
 refine aQ yY rfl ?_
 refine cN ?_
 exact⟨⟨rfl,cU,fun y hy=>br⟩⟩
theorem l3 (u:bj) (hu:u.Wf) (hr:ct u) (most:Int) (hm:¬(1≤most∧most≤65536)) (g:Nat) (caps:List AV) (H0:Hp) (nx:Nat):cJ Tryz.prog 32 [u.av,i64 most, .fn (.func g) [] caps] H0 nx (fun r H n=>r= .dH [i64 0,i64 2]∧nx≤n∧∀y,y<nx→bd H y=bd H0 y):=by
 refine aQ yY rfl ?_
 refine cN ?_
 refine aL (wx u hu hr _ _) ?_
 rintro r H1 n1 ⟨L,rfl,hM,hlt,hn1,hk1⟩
 by_cases h1:most<1
 ·refine cN ?_
  exact⟨⟨rfl,cU,fun y hy=>Eq.trans br ((hk1 y cU).trans br)⟩⟩
 ·have h2:65536<most:=by omega
  refine cN ?_
  exact⟨⟨rfl,cU,fun y hy=>Eq.trans br ((hk1 y cU).trans br)⟩⟩
theorem xz (u:bj) (hr:ct u) (m:MS) (h:eN u m) (hp:m.bk.length≤1048576) (H0:Hp) (nx:Nat):cJ Tryz.prog 65 [m.fz u] H0 nx (fun r H n=>∃L:ML,r= .pt L.mr 1 0 0∧L.At u m H∧(∀x∈L.all,nx≤x∧x<n)∧nx≤n∧∀y,y<nx→bd H y=bd H0 y):=by
 have hgl:=hr.tv
 refine(yA u m (by have:=h.nD;omega) (by have:=h.ml;omega) (by have:=h.hl;omega) hp (by have:=h.sl;omega) (fun x hx=> ?_) H0 nx).mono ?_
 ·obtain⟨s,hs,rfl⟩:=List.mem_iff_getElem.1 hx
  have h1:=h.xi s (by rw[←h.sl];exact hs)
  have h2:=(hr.gr (t:=s) (by rw[←h.sl];exact hs)).bg.2
  rw[show m.bg.getD s []=m.bg[s] by simp[List.getD,hs]] at h1
  omega
 ·rintro r H n ⟨mr,a,s,me,ho,pr,ids,rfl,h1,h2,h3,h4⟩
  exact⟨⟨mr,a,s,me,ho,pr,ids⟩,rfl,h1,h2,h3,h4⟩
def I5 (u:bj) (most:Int) (I:Nat→Hp→Prop) (nx:Nat) (H0:Hp) (r:AV) (H:Hp) (n:Nat):Prop:=
 nx≤n∧match fp u most.toNat with
 |none=>r= .dH [i64 0,i64 3]∧∀y,y<nx→bd H y=bd H0 y
 |some l=>r= .dH [i64 l.length,i64 0]∧I l.length H
set_option maxHeartbeats 4000000 in
theorem nN (u:bj) (hu:u.Wf) (hr:ct u) (most:Int) (hm:1≤most∧most≤65536) (g:Nat) (caps:List AV) (H0:Hp) (nx:Nat) (I:Nat→Hp→Prop) (hI0:I 0 H0) (hst:∀k H H',I k H→(∀y,y<nx→bd H' y=bd H y)→I k H')
 (hcl:∀l,fp u most.toNat=some l→∀k H n,k<l.length→nx≤n→I k H→cJ Tryz.prog g ([jJ u l,i64 k]++caps) H n (fun _ H' n'=>I (k+1) H'∧n≤n'∧∀y,nx≤y→y<n→bd H' y=bd H y)):
 cJ Tryz.prog 32 [u.av,i64 most, .fn (.func g) [] caps] H0 nx (I5 u most I nx H0):=by
 obtain⟨mo,rfl⟩:∃mo:Nat,most=mo:=⟨most.toNat,by omega⟩
 have hgl:=hr.tv
 unfold I5
 rw[Int.toNat_natCast] at hcl ⊢
 refine aQ yY rfl ?_
 refine cN ?_
 refine aL (wx u hu hr _ _) ?_
 rintro r H1 n1 ⟨L,rfl,hM,hlt,hn1,hk1⟩
 have hF:=gR.init u hu hr
 have hm0:=(hF.ok 0 hF.pos).1
 have hm0':(List.getD (jI u) 0 default).m=cq u:=rfl
 rw[hm0'] at hm0
 have g0:wu true (Value.string (eL (eW (cq u)))) [] (i64 1)=some (mc (jI u)):=rfl
 have h65:(65536:Int)<mo→False:=by omega
 refine cN ?_
 refine aS (uC u (cq u) (hm0.OO hr (by simp[cq]))) (args2:=[(cq u).fz u]) ?_ (by simp[cP,oX]) trivial ?_
 ·rw[List.map_cons,List.map_nil]
  congr 1
  exact(hM.cO fun y hy=>by have:=hlt y hy;exact br).yR 2
 refine cN ?_
 have hno:∀y,y<nx+1∨n1≤y→y∉L.all:=fun y hy hm=>by have:=hlt y hm;omega
 refine aU (fun σ:Nat×List cH=>[(1,i64 mo),(2, .fn (.func g) [] caps),(3, .pt nx 1 0 0),(10, .sl (n1+15) σ.2.length),(11, .mp (n1+17)),(12,i64 σ.1)])
  (fun σ H n=>σ.1≤σ.2.length∧σ.2.length≤mo∧gR u σ.2∧pM u mo (mo - σ.1) σ.1 σ.2=fp u mo∧n1+23≤n∧(∃d,bd H nx=some (.row 25 3 d [u.av]))∧(∃d,bd H (n1+15)=some (.row 75 3 d (σ.2.map (cH.av u))))∧(∃e d,bd H (n1+17)=some (.row e 0 d (mapA (mc σ.2))))∧∀y,y<nx→bd H y=bd H0 y) (fun σ=>mo - σ.1) (0,jI u)
  ⟨_,_,_,Rt.wk (se (lb:=n1+15) (l:=[]) (fr:=-1) (th:=0) (hM.cO ?_) bf (hno _ (by omega))),cC,Nat.zero_le _,by show 1≤mo;omega,hF,rfl,cU,⟨_,(eJ (hno _ (by omega))).trans (Eq.trans br ((hk1 nx (by omega)).trans bf))⟩,⟨_,(eJ (hno _ (by omega))).trans bf⟩,⟨_,_,(eJ (hno _ (by omega))).trans bf⟩,fun y hy=>(eJ (hno _ (by omega))).trans (Eq.trans br ((hk1 y cU).trans br))⟩ ?_
 ·intro y hy
  have:=hlt y hy
  exact br
 clear hM hlt hk1 hno
 rintro⟨k,l⟩ H n ⟨hk,hl,hfs,hall,hn,⟨d0,r0'⟩,⟨d1,r1'⟩,⟨e2,d2,r2'⟩,hkp⟩
 dsimp only at hk hl hfs hall r1' r2' ⊢
 by_cases hkl:k<l.length
 ·have e0:∀d,(l.map (cH.av u)).getD ((k:Int)).toNat d=(l.getD k default).av u:=fun d=>by rw[Int.toNat_natCast];exact cu (cH.av u) l k d hkl
  have a0:(l.map (cH.av u)).length=l.length:=by simp
  have hgeq:∀l':List cH,l<+:l'→l'.getD k default=l.getD k default:=fun l' ⟨q,hq⟩=>by rw[←hq];simp[List.getD,List.getElem?_append,hkl]
  have hmk:mo - k=(mo - (k+1))+1:=by omega
  rw[hmk,pM,if_pos hkl] at hall
  obtain⟨hmok,hpl⟩:=hfs.ok k hkl
  have hmdef:(l.getD k default).m=(l.getD k default).m:=rfl
  generalize hmm:(l.getD k default).m=m at hmok hpl
  have e0':∀d,(l.map (cH.av u)).getD ((k:Int)).toNat d= .agg [m.fz u,i64 (l.getD k default).from_,i64 (l.getD k default).cS]:=fun d=>by rw[e0 d,←hmm];rfl
  clear e0
  have e0:=e0'
  refine cN ?_
  rw[List.length_map]
  refine aU (fun σ:Nat×List cH=>[(1,i64 mo),(2, .fn (.func g) [] caps),(3, .pt nx 1 0 0),(10, .sl (n1+15) σ.2.length),(11, .mp (n1+17)),(12,i64 k),(13,m.fz u),(52,i64 u.bh.length),(53,i64 σ.1)])
   (fun σ H n=>σ.1≤u.bh.length∧k<σ.2.length∧σ.2.length≤mo∧gR u σ.2∧(σ.2.getD k default).m=m∧(match rl u mo k ((List.range u.bh.length).drop σ.1) σ.2 with
    |none=>none
    |some l2=>pM u mo (mo - (k+1)) (k+1) l2)=fp u mo∧n1+23≤n∧(∃d,bd H nx=some (.row 25 3 d [u.av]))∧(∃d,bd H (n1+15)=some (.row 75 3 d (σ.2.map (cH.av u))))∧(∃e d,bd H (n1+17)=some (.row e 0 d (mapA (mc σ.2))))∧∀y,y<nx→bd H y=bd H0 y) (fun σ=>u.bh.length - σ.1) (0,l)
   ⟨_,_,_,Rt.refl _ _ _,cC,Nat.zero_le _,hkl,hl,hfs,hmm,hall,cU,⟨_,bf⟩,⟨_,bf⟩,⟨_,_,bf⟩,fun y hy=>Eq.trans br (hkp y hy)⟩ ?_
  clear e0 e0' a0 r0' r1' r2' hkp hall hfs hl hkl hgeq hn hmm
  rintro⟨t,l⟩ H n ⟨ht,hkl,hl,hfs,hmm,hall,hn,⟨d0,r0'⟩,⟨d1,r1'⟩,⟨e2,d2,r2'⟩,hkp⟩
  dsimp only at ht hkl hl hfs hmm hall r1' r2' ⊢
  have a0:(l.map (cH.av u)).length=l.length:=by simp
  by_cases htl:t<u.bh.length
  ·rw[show(List.range u.bh.length).drop t=t::(List.range u.bh.length).drop (t+1) by rw[List.drop_eq_getElem_cons (by simpa using htl)];simp,rl] at hall
   have c0:=EM u hr m hmok t
   by_cases hb:m.mC u t=0
   ·have hal:=hmok.nD
    refine cN ?_
    refine aL (xz u hr m hmok (by omega) _ _) ?_
    rintro r H2 n2 ⟨L2,rfl,hM2,hlt2,hn2,hk2⟩
    have hlt2:∀x∈L2.all,n+7≤x∧x<n2:=hlt2
    refine cN ?_
    refine aL (DP hu hr hmok (L:=L2) (hM2.cO ?_) ?_ (by omega) htl hb) ?_
    ·intro y hy
     have:=hlt2 y hy
     exact br
    ·intro y hy
     have:=hlt2 y hy
     exact cU
    rintro r H3 n3 ⟨rfl,hM3,hn3,hk3⟩
    have hno:∀y,y<n+7∨n2≤y→y∉L2.all:=fun y hy hm=>by have:=hlt2 y hm;omega
    have hold:∀y,y<n→bd H3 y=bd H y:=fun y hy=>(hk3 y cU (hno y (by omega))).trans (Eq.trans br ((hk2 y cU).trans br))
    have hlt3:∀x∈L2.all,x<n3:=fun x hx=>by have:=hlt2 x hx;exact Nat.lt_of_lt_of_le this.2 cU
    obtain⟨hk9,_⟩:=lA hmok htl hb
    have hm2:=u0 hu hr hmok htl hk9
    have hp2:=lT u m t
    have htry:rJ u mo k t l=if eW (m.step u t).1∈gq l then some l else if l.length=mo then none else some (l++[⟨(m.step u t).1,k,t⟩]):=by
     unfold rJ
     rw[hmm,if_neg (by omega)]
    rw[htry] at hall
    have hput:=fun(h:eW (m.step u t).1∉gq l)=>CL (l:=l) (m:=(m.step u t).1) (a:=k) (b:=t) h
    have hadd:=fun(h:eW (m.step u t).1∉gq l)=>hfs.add hu hr hkl htl (by rw[hmm];exact hb) (by rw[hmm];exact h)
    rw[hmm] at hadd
    generalize (m.step u t).1=m2 at *
    have hkp3:∀y,y<nx→bd H3 y=bd H0 y:=fun y hy=>(hold y (by omega)).trans (hkp y hy)
    have q0:=(hold nx (by omega)).trans r0'
    have q1:=(hold (n1+15) (by omega)).trans r1'
    have q2:=(hold (n1+17) (by omega)).trans r2'
    have hget:=ye uB i64 (eL (eW m2)) (jL l) (i64 0)
    rw[q9] at hget
    clear hk2 hk3 hM2 r0' r1' r2' hold hkp
    by_cases hin:eW m2∈gq l
    ·rw[if_pos hin] at hget hall
     have g0:uH true (Value.string (eL (eW m2))) (mc l) (i64 0)=some (i64 1,true):=hget
     refine cN ?_
     refine aS (uC u m2 (hm2.OO hr (by omega))) (args2:=[m2.fz u]) ?_ (by simp[cP,oX]) trivial ?_
     ·rw[List.map_cons,List.map_nil]
      congr 1
      exact(hM3.cO fun y hy=>by have:=hlt3 y hy;exact br).yR 2
     refine cN ?_
     exact⟨(t+1,l),by dsimp only;omega,_,_,_,Rt.refl _ _ _,cC,by dsimp only;omega,hkl,hl,hfs,hmm,hall,cU,⟨_,bf⟩,⟨_,bf⟩,⟨_,_,bf⟩,fun y hy=>Eq.trans br (hkp3 y hy)⟩
    ·rw[if_neg hin] at hget hall
     have g0:uH true (Value.string (eL (eW m2))) (mc l) (i64 0)=some (i64 0,false):=hget
     by_cases hfull:l.length=mo
     ·rw[if_pos hfull] at hall
      refine cN ?_
      refine aS (uC u m2 (hm2.OO hr (by omega))) (args2:=[m2.fz u]) ?_ (by simp[cP,oX]) trivial ?_
      ·rw[List.map_cons,List.map_nil]
       congr 1
       exact(hM3.cO fun y hy=>by have:=hlt3 y hy;exact br).yR 2
      refine cN ?_
      have hall2:none=fp u mo:=hall
      rw[←hall2]
      exact⟨⟨cU,rfl,fun y hy=>Eq.trans br (hkp3 y hy)⟩⟩
     ·rw[if_neg hfull] at hall
      have g1:wu true (Value.string (eL (eW m2))) (mc l) (i64 1)=some (mc (l++[⟨m2,k,t⟩])):=by
       have:=yf uB i64 (eL (eW m2)) 1 (jL l)
       rw[hput hin] at this
       exact this
      refine cN ?_
      refine aS (uC u m2 (hm2.OO hr (by omega))) (args2:=[m2.fz u]) ?_ (by simp[cP,oX]) trivial ?_
      ·rw[List.map_cons,List.map_nil]
       congr 1
       exact(hM3.cO fun y hy=>by have:=hlt3 y hy;exact br).yR 2
      refine cN ?_
      have hout:=hno
      refine⟨(t+1,l++[⟨m2,k,t⟩]),by dsimp only;omega,_,_,_,Rt.wk (se (L:=L2) (lb:=n1+15) (m:=m2) (l:=l) (fr:=k) (th:=t) (hM3.cO ?_) bf (hno _ (by omega))),cC,by dsimp only;omega,by dsimp only;rw[List.length_append];omega,by dsimp only;simp only[List.length_append,List.length_cons,List.length_nil];omega,hadd hin,by dsimp only;rw[ew hkl];exact hmm,hall,cU,⟨_,(eJ (hno _ (by omega))).trans bf⟩,⟨_,(eJ (hno _ (by omega))).trans bf⟩,⟨_,_,(eJ (hno _ (by omega))).trans bf⟩,fun y hy=>(eJ (hno _ (by omega))).trans (Eq.trans br (hkp3 y hy))⟩
      intro y hy
      have:=hlt2 y hy
      have:=hlt3 y hy
      exact br
   ·have htry:rJ u mo k t l=some l:=by
     unfold rJ
     rw[hmm,if_pos hb]
    rw[htry] at hall
    refine cN ?_
    exact⟨(t+1,l),by dsimp only;omega,_,_,_,Rt.refl _ _ _,cC,by dsimp only;omega,hkl,hl,hfs,hmm,hall,cU,⟨_,bf⟩,⟨_,bf⟩,⟨_,_,bf⟩,fun y hy=>Eq.trans br (hkp y hy)⟩
  ·have htG:t=u.bh.length:=by omega
   subst htG
   rw[List.drop_of_length_le (by simp),rl] at hall
   refine cN ?_
   exact⟨(k+1,l),by dsimp only;omega,_,_,_,Rt.refl _ _ _,cC,by dsimp only;omega,hl,hfs,hall,cU,⟨_,bf⟩,⟨_,bf⟩,⟨_,_,bf⟩,fun y hy=>Eq.trans br (hkp y hy)⟩
 ·have hk2:k=l.length:=by omega
  refine cN ?_
  have hl2:fp u mo=some l:=by
   rw[←hall]
   subst hk2
   cases h:mo - l.length with
   |zero=>rfl
   |succ q=>rw[pM,if_neg (by omega)]
  have hw:=fun(H':Hp) (n':Nat) (hr:bd H' (n1+15)=some (.row 75 3 d1 (l.map (cH.av u))))=>Wk.NM (r:= .sl (n1+15) l.length) (H:=H') (nx:=n') [(n1+15,some (.row 75 3 d1 (l.map (cH.av u))))] 1 (fun b q hq=>by
   by_cases hb:b=n1+15
   ·subst hb;rw[cI] at hq;rw[←hq];exact hr
   ·rw[bz hb] at hq;cases hq)
  rw[yU (cI _ _ _) (by simp),nc] at hw
  rw[hl2]
  refine aU (fun i:Nat=>[(2, .fn (.func g) [] caps),(10,jJ u l),(86,i64 l.length),(87,i64 i)])
   (fun i H n=>i≤l.length∧nx≤n∧I i H) (fun i=>l.length - i) 0
   ⟨_,_,_,Rt.slot 10 rfl (hw _ _ bf),cC,Nat.zero_le _,cU,hst 0 _ _ hI0 fun y hy=>(bz (by omega)).trans (Eq.trans br (hkp y hy))⟩ ?_
  clear r0' r1' r2' hkp hw hn
  rintro i H n ⟨hi,hn,hI⟩
  by_cases hil:i<l.length
  ·refine cN ?_
   refine Eq.mpr (iD caps _) ?_
   show gQ Tryz.prog g (jJ u l::i64 i::caps) _ _ _
   refine aL (hcl l hl2 i _ _ hil cU (hst i H _ hI fun y hy=>br)) ?_
   rintro _ H2 n2 ⟨hI2,hn2,_⟩
   refine cN ?_
   exact⟨i+1,by omega,_,_,_,Rt.refl _ _ _,cC,by omega,cU,hst _ _ _ hI2 fun y hy=>br⟩
  ·obtain rfl:i=l.length:=by omega
   refine cN ?_
   exact⟨⟨cU,by rw[List.length_map],hst _ _ _ hI fun y hy=>br⟩⟩
end Go.Proofs.YtekfmjjmihomlaaGreat
end
section
/- Ends compared: the code's Compare and Same. -/
namespace Go.Proofs.YtekfmjjmihomlaaGreat
open Go Go.cV Go.Proofs
set_option linter.unusedSimpArgs false
set_option linter.unusedVariables false
theorem BU (p q:cM):Pure Tryz.prog 46 [p.av,q.av] (fun r=>r=i64 (fi p q)):=by
 have c0:=EP p.cS q.cS
 have c1:=sN p.word q.word
 have c2:=A2 [er p.cS q.cS,er p.word q.word] (by simp)
 refine aI GG rfl ?_
 refine cN ?_
 refine aS (args2:=[cW [er p.cS q.cS,er p.word q.word]]) (r:=i64 (fi p q)) c2 rfl (by simp[cP,bw]) trivial ?_
 refine cN ?_
 first|exact rfl|trivial
theorem jE {l:List cM} {i:Nat} (h:i<l.length) (d:AV):(l.map cM.av).getD ((i:Int)).toNat d=(l.getD i default).av:=by
 rw[Int.toNat_natCast];exact cu cM.av l i d h
theorem xy (a b:List cM) (ha:a.length<9223372036854775807):Pure Tryz.prog 45 [dE a,dE b, .fn (.func 46) [] []] (fun r=>r=i64 (e8 fi a b)):=by
 refine aI GF rfl ?_
 refine cN ?_
 rw[List.length_map]
 refine aP (fun i:Nat=>[(0,dE a),(1,dE b),(2, .fn (.func 46) [] []),(11,dE a),(12,i64 a.length),(13,i64 i)]) (fun i H n=>i≤a.length∧i≤b.length∧e8 fi a b=e8 fi (a.drop i) (b.drop i)) (fun i=>a.length - i) 0 cC ⟨Nat.zero_le _,Nat.zero_le _,rfl⟩ ?_
 rintro i H n ⟨hi,hib,ho⟩
 rw[ho]
 have a0:(a.map cM.av).length=a.length:=by simp
 have a1:(b.map cM.av).length=b.length:=by simp
 by_cases hil:i<a.length
 ·have e0:=fun d=>jE hil d
  by_cases hbl:i<b.length
  ·have e1:=fun d=>jE hbl d
   have hd:=pW fi default hil hbl
   have c0:=BU (a.getD i default) (b.getD i default)
   generalize a.getD i default=p at *
   generalize b.getD i default=q at *
   by_cases hz:fi p q=0
   ·have r0:=hz
    rw[if_pos hz] at hd
    refine cN ?_
    exact⟨i+1,by omega,cC,by omega,by omega,hd⟩
   ·have r0:=decide_eq_true hz
    rw[if_neg hz] at hd
    refine cN ?_
    rw[hd]
  ·rw[nT fi hil (by omega)]
   refine cN ?_
   first|exact rfl|trivial
 ·obtain rfl:i=a.length:=by omega
  rw[nS fi (Nat.le_refl _) hib]
  by_cases h:a.length<b.length
  ·rw[if_pos h]
   refine cN ?_
   first|exact rfl|trivial
  ·rw[if_neg h]
   refine cN ?_
   first|exact rfl|trivial
theorem xw (a b:List Int) (ha:a.length<9223372036854775807):Pure Tryz.prog 50 [cW a,cW b] (fun r=>r=i64 (e8 er a b)):=by
 refine aI GI rfl ?_
 refine cN ?_
 rw[List.length_map]
 refine aP (fun i:Nat=>[(0,cW a),(1,cW b),(9,cW a),(10,i64 a.length),(11,i64 i)]) (fun i H n=>i≤a.length∧i≤b.length∧e8 er a b=e8 er (a.drop i) (b.drop i)) (fun i=>a.length - i) 0 cC ⟨Nat.zero_le _,Nat.zero_le _,rfl⟩ ?_
 rintro i H n ⟨hi,hib,ho⟩
 rw[ho]
 have a0:(a.map i64).length=a.length:=by simp
 have a1:(b.map i64).length=b.length:=by simp
 by_cases hil:i<a.length
 ·have e0:=fun d=>eG hil d
  by_cases hbl:i<b.length
  ·have e1:=fun d=>eG hbl d
   have hd:=pW er 0 hil hbl
   have c0:=sN (a.getD i 0) (b.getD i 0)
   generalize a.getD i 0=p at *
   generalize b.getD i 0=q at *
   by_cases hz:er p q=0
   ·have r0:=hz
    rw[if_pos hz] at hd
    refine cN ?_
    exact⟨i+1,by omega,cC,by omega,by omega,hd⟩
   ·have r0:=decide_eq_true hz
    rw[if_neg hz] at hd
    refine cN ?_
    rw[hd]
  ·rw[nT er hil (by omega)]
   refine cN ?_
   first|exact rfl|trivial
 ·obtain rfl:i=a.length:=by omega
  rw[nS er (Nat.le_refl _) hib]
  by_cases h:a.length<b.length
  ·rw[if_pos h]
   refine cN ?_
   first|exact rfl|trivial
  ·rw[if_neg h]
   refine cN ?_
   first|exact rfl|trivial
theorem sL (a b:dc) (h1:a.bk.length<9223372036854775807) (h2:a.mem.length<9223372036854775807):Pure Tryz.prog 19 [a.av,b.av] (fun r=>r=i64 (ep a b)):=by
 have c0:=xy a.bk b.bk h1
 have c1:=xw a.mem b.mem h2
 have c2:=A2 [e8 fi a.bk b.bk,e8 er a.mem b.mem,rb a.ended b.ended] (by simp)
 obtain⟨ap,am,ae⟩:=a
 obtain⟨bp,bm,be⟩:=b
 cases ae<;>cases be<;>(refine aI FZ rfl ?_;refine cN ?_;refine aS (args2:=[cW [e8 fi ap bp,e8 er am bm,_]]) (r:=i64 (kW [e8 fi ap bp,e8 er am bm,_])) c2 rfl (by simp[cP,bw]) trivial ?_;refine cN ?_;first|exact rfl|trivial)
theorem qz (a b:dc) (h1:a.bk.length<9223372036854775807) (h2:a.mem.length<9223372036854775807):Pure Tryz.prog 20 [a.av,b.av] (fun r=>r=bl (decide (ep a b=0))):=by
 have c0:=sL a b h1 h2
 refine aI F0 rfl ?_
 refine cN ?_
 refine dW ?_
 simp
end Go.Proofs.YtekfmjjmihomlaaGreat
end
section
/- Ends compared: the document's Compare; the plain laws. -/
namespace Go.Proofs.YtekfmjjmihomlaaGreat
open Go Go.cV Go.Proofs
set_option linter.unusedSimpArgs false
set_option linter.unusedVariables false
theorem qp (b:Bool):Pure Tryz.prog 44 [bl b] (fun r=>r=i64 (if b then -1 else 1)):=by
 cases b<;>(refine aI GD rfl ?_;refine cN ?_;first|exact rfl|trivial)
theorem jz {x:Bool} {v:Int} (h:(if x=true then -1 else 1)=v):Pure Tryz.prog 44 [bl x] (fun r=>r=i64 v):=by
 have:=qp x
 rw[h] at this
 exact this
theorem JO {p q:cM} (h:p.cS<q.cS∨p.cS=q.cS∧p.word<q.word):fi p q=-1:=by
 unfold fi er
 simp only[kW]
 repeat' (first|omega|split)
theorem JN {p q:cM} (h:¬(p.cS<q.cS∨p.cS=q.cS∧p.word<q.word)) (hne:¬(p.cS=q.cS∧p.word=q.word)):fi p q=1:=by
 unfold fi er
 simp only[kW]
 repeat' (first|omega|split)
theorem JM {p q:cM} (h:p.cS=q.cS∧p.word=q.word):fi p q=0:=by
 unfold fi er
 simp only[kW]
 repeat' (first|omega|split)
theorem JL {x y:Int} (h:x≠y):er x y=if x<y then -1 else 1:=by
 unfold er;split
 ·rfl
 ·rw[if_pos (by omega)]
theorem zp (x:Int):er x x=0:=by unfold er;simp
set_option maxHeartbeats 1000000 in
theorem zA (a b:dc) (h1:a.bk.length<9223372036854775807) (h2:a.mem.length<9223372036854775807):Pure Tryz.prog 18 [a.av,b.av] (fun r=>r=i64 (ep a b)):=by
 have a0:(a.bk.map cM.av).length=a.bk.length:=by simp
 have a1:(b.bk.map cM.av).length=b.bk.length:=by simp
 have a2:(a.mem.map i64).length=a.mem.length:=by simp
 have a3:(b.mem.map i64).length=b.mem.length:=by simp
 refine aI FY rfl ?_
 refine cN ?_
 refine aP (fun i:Nat=>[(2, .pt 0 1 0 0),(3, .pt 1 1 0 0),(5,i64 i)]) (fun i H n=>2≤n∧(∃d,bd H 0=some (.row 40 3 d [a.av]))∧(∃d,bd H 1=some (.row 40 3 d [b.av]))∧i≤a.bk.length∧i≤b.bk.length∧e8 fi a.bk b.bk=e8 fi (a.bk.drop i) (b.bk.drop i)) (fun i=>a.bk.length - i) 0 cC ⟨cU,⟨_,bf⟩,⟨_,bf⟩,Nat.zero_le _,Nat.zero_le _,rfl⟩ ?_
 rintro i H n ⟨hn,⟨d0,r0⟩,⟨d1,r1⟩,hi,hib,ho⟩
 by_cases hil:i<a.bk.length
 ·have e0:=fun d=>jE hil d
  by_cases hbl:i<b.bk.length
  ·have e1:=fun d=>jE hbl d
   have hd:=pW fi default hil hbl
   generalize a.bk.getD i default=p at *
   generalize b.bk.getD i default=q at *
   have g0:=decide_eq_true hil
   have g1:=decide_eq_true hbl
   by_cases hlt:p.cS<q.cS∨p.cS=q.cS∧p.word<q.word
   ·have hc:=JO hlt
    have hE:ep a b=-1:=by unfold ep;rw[ho,hd,hc,if_neg (by decide),kW,if_neg (by decide)]
    rw[hE]
    by_cases h3:p.cS<q.cS
    ·refine cN ?_
     first|exact rfl|trivial
    ·obtain⟨h4,h5⟩:=hlt.resolve_left h3
     have g2:=decide_eq_true h4
     have g3:=decide_eq_true h5
     refine cN ?_
     first|exact rfl|trivial
   ·have g4:¬p.cS<q.cS:=fun e=>hlt (.inl e)
    by_cases heq:p.cS=q.cS∧p.word=q.word
    ·obtain⟨h4,h5⟩:=heq
     have hc:=JM ⟨h4,h5⟩
     rw[hc,if_pos rfl] at hd
     have g5:¬p.word<q.word:=by omega
     refine cN ?_
     exact⟨i+1,by omega,cC,by omega,⟨_,bf⟩,⟨_,bf⟩,by omega,by omega,ho.trans hd⟩
    ·have hc:=JN hlt heq
     have hE:ep a b=1:=by unfold ep;rw[ho,hd,hc,if_neg (by decide),kW,if_neg (by decide)]
     rw[hE]
     refine cN ?_
     first|exact rfl|trivial
  ·have hE:ep a b=1:=by unfold ep;rw[ho,nT fi hil (by omega),kW,if_neg (by decide)]
   rw[hE]
   have hne:a.bk.length≠b.bk.length:=by omega
   have c0:=jz (x:=decide (((a.bk.map cM.av).length:Int)<((b.bk.map cM.av).length:Int))) (v:=1) (by rw[decide_eq_false (by omega)];rfl)
   refine cN ?_
   first|exact rfl|trivial
 ·obtain rfl:i=a.bk.length:=by omega
  rw[nS fi (Nat.le_refl _) hib] at ho
  by_cases hpl:a.bk.length<b.bk.length
  ·rw[if_pos hpl] at ho
   have hE:ep a b=-1:=by unfold ep;rw[ho,kW,if_neg (by decide)]
   rw[hE]
   have hne:a.bk.length≠b.bk.length:=by omega
   have c0:=jz (x:=decide (((a.bk.map cM.av).length:Int)<((b.bk.map cM.av).length:Int))) (v:=-1) (by rw[decide_eq_true (by omega)];rfl)
   refine cN ?_
   first|exact rfl|trivial
  ·rw[if_neg hpl] at ho
   have hpe:b.bk.length=a.bk.length:=by omega
   refine cN ?_
   refine aP (fun i:Nat=>[(2, .pt 0 1 0 0),(3, .pt 1 1 0 0),(8,i64 i)]) (fun i H n=>2≤n∧(∃d,bd H 0=some (.row 40 3 d [a.av]))∧(∃d,bd H 1=some (.row 40 3 d [b.av]))∧i≤a.mem.length∧i≤b.mem.length∧e8 er a.mem b.mem=e8 er (a.mem.drop i) (b.mem.drop i)) (fun i=>a.mem.length - i) 0 cC ⟨cU,⟨_,bf⟩,⟨_,bf⟩,Nat.zero_le _,Nat.zero_le _,rfl⟩ ?_
   clear r0 r1 hn
   rintro i H n ⟨hn,⟨d0,r0⟩,⟨d1,r1⟩,hi,hib,hm⟩
   by_cases hil:i<a.mem.length
   ·have e0:=fun d=>eG hil d
    by_cases hbl:i<b.mem.length
    ·have e1:=fun d=>eG hbl d
     have hd:=pW er 0 hil hbl
     generalize a.mem.getD i 0=p at *
     generalize b.mem.getD i 0=q at *
     have g0:=decide_eq_true hil
     have g1:=decide_eq_true hbl
     by_cases heq:p=q
     ·rw[heq,zp,if_pos rfl] at hd
      refine cN ?_
      exact⟨i+1,by omega,cC,by omega,⟨_,bf⟩,⟨_,bf⟩,by omega,by omega,hm.trans hd⟩
     ·have hc:=JL heq
      by_cases hlt:p<q
      ·rw[if_pos hlt] at hc
       have hE:ep a b=-1:=by unfold ep;rw[ho,hm,hd,hc,if_neg (by decide),kW,if_pos rfl,kW,if_neg (by decide)]
       rw[hE]
       have c0:=jz (x:=decide (p<q)) (v:=-1) (by rw[decide_eq_true hlt];rfl)
       refine cN ?_
       first|exact rfl|trivial
      ·rw[if_neg hlt] at hc
       have hE:ep a b=1:=by unfold ep;rw[ho,hm,hd,hc,if_neg (by decide),kW,if_pos rfl,kW,if_neg (by decide)]
       rw[hE]
       have c0:=jz (x:=decide (p<q)) (v:=1) (by rw[decide_eq_false hlt];rfl)
       refine cN ?_
       first|exact rfl|trivial
    ·have hE:ep a b=1:=by unfold ep;rw[ho,hm,nT er hil (by omega),kW,if_pos rfl,kW,if_neg (by decide)]
     rw[hE]
     have hne:a.mem.length≠b.mem.length:=by omega
     have c0:=jz (x:=decide (((a.mem.map i64).length:Int)<((b.mem.map i64).length:Int))) (v:=1) (by rw[decide_eq_false (by omega)];rfl)
     refine cN ?_
     first|exact rfl|trivial
   ·obtain rfl:i=a.mem.length:=by omega
    rw[nS er (Nat.le_refl _) hib] at hm
    by_cases hml:a.mem.length<b.mem.length
    ·rw[if_pos hml] at hm
     have hE:ep a b=-1:=by unfold ep;rw[ho,hm,kW,if_pos rfl,kW,if_neg (by decide)]
     rw[hE]
     have hne:a.mem.length≠b.mem.length:=by omega
     have c0:=jz (x:=decide (((a.mem.map i64).length:Int)<((b.mem.map i64).length:Int))) (v:=-1) (by rw[decide_eq_true (by omega)];rfl)
     refine cN ?_
     first|exact rfl|trivial
    ·rw[if_neg hml] at hm
     have hme:b.mem.length=a.mem.length:=by omega
     have hE:ep a b=rb a.ended b.ended:=by
      unfold ep;rw[ho,hm,kW,if_pos rfl,kW,if_pos rfl,kW]
      split<;>simp_all[kW]
     rw[hE]
     obtain⟨ap,am,ae⟩:=a
     obtain⟨bp,bm,be⟩:=b
     have c0:=qp be
     cases ae<;>cases be<;>(refine cN ?_;first|exact rfl|trivial)
end Go.Proofs.YtekfmjjmihomlaaGreat
end
section
/- Ends compared: the order's plain laws. -/
namespace Go.Proofs.YtekfmjjmihomlaaGreat
open Go Go.cV Go.Proofs
set_option linter.unusedSimpArgs false
set_option linter.unusedVariables false
theorem qL (x y:Int):er y x=-er x y:=by
 unfold er
 repeat' (first|omega|split)
theorem uL:∀l:List Int,kW (l.map (-·))=-kW l
 |[]=>rfl
 |x::l=>by
  simp only[List.map_cons,kW]
  by_cases h:x=0
  ·rw[if_pos (by omega),if_pos h];exact uL l
  ·rw[if_neg (by omega),if_neg h]
theorem ER (p q:cM):fi q p=-fi p q:=by
 unfold fi
 rw[←uL,qL p.cS,qL p.word];rfl
theorem qM {α:Type} {f:α→α→Int} (hf:∀x y,f y x=-f x y):∀a b:List α,e8 f b a=-e8 f a b
 |[],[]=>rfl
 |[],_::_=>rfl
 |_::_,[]=>rfl
 |x::a,y::b=>by
  rw[e8,e8,hf x y]
  by_cases h:f x y=0
  ·rw[if_pos (by omega),if_pos h];exact qM hf a b
  ·rw[if_neg (by omega),if_neg h]
theorem EN (a b:Bool):rb b a=-rb a b:=by cases a<;>cases b<;>rfl
theorem EO (a b:dc):ep b a=-ep a b:=by
 unfold ep
 rw[←uL,qM ER a.bk,qM qL a.mem,EN a.ended];rfl
theorem xD {l:List Int}:kW l=0↔∀x∈l,x=0:=by
 induction l with
 |nil=>simp[kW]
 |cons x l ih=>
  rw[kW]
  by_cases h:x=0
  ·rw[if_pos h,ih];simp[h]
  ·rw[if_neg h];simp[h]
theorem jo {x y:Int}:er x y=0↔x=y:=by
 constructor
 ·unfold er;intro h;revert h;repeat' (first|omega|split)
 ·rintro rfl;exact zp _
theorem oU {p q:cM}:fi p q=0↔p=q:=by
 unfold fi
 rw[xD]
 simp only[List.mem_cons,List.not_mem_nil,or_false,forall_eq_or_imp,forall_eq,jo]
 constructor
 ·rintro⟨h1,h2⟩;cases p;cases q;simp_all
 ·rintro rfl;exact⟨rfl,rfl⟩
theorem jq {α:Type} {f:α→α→Int} (hf:∀x y,f x y=0↔x=y):∀a b:List α,e8 f a b=0↔a=b
 |[],[]=>by simp[e8]
 |[],_::_=>by simp[e8]
 |_::_,[]=>by simp[e8]
 |x::a,y::b=>by
  rw[e8]
  by_cases h:f x y=0
  ·rw[if_pos h,jq hf a b]
   have:=(hf x y).1 h
   simp[this]
  ·rw[if_neg h]
   have:x≠y:=fun e=>h ((hf x y).2 e)
   simp[h,this]
theorem sM {a b:dc}:ep a b=0↔a=b:=by
 unfold ep
 rw[xD]
 simp only[List.mem_cons,List.not_mem_nil,or_false,forall_eq_or_imp,forall_eq,jq (fun x y=>oU),jq (fun x y=>jo)]
 constructor
 ·rintro⟨h1,h2,h3⟩
  obtain⟨ap,am,ae⟩:=a
  obtain⟨bp,bm,be⟩:=b
  cases ae<;>cases be<;>simp_all[rb]
 ·rintro rfl
  exact⟨rfl,rfl,by cases a.ended<;>rfl⟩
end Go.Proofs.YtekfmjjmihomlaaGreat
end
section
/- Count; the closures that ends, ways and what is shown hand to the exploring. -/
namespace Go.Proofs.YtekfmjjmihomlaaGreat
open Go Go.cV Go.Proofs
set_option linter.unusedSimpArgs false
set_option linter.unusedVariables false
set_option maxRecDepth 8000
open Classical in
noncomputable def eo (u:bj) (most:Int):Int×List cH:=
 if ¬ct u then(60,[]) else if ¬(1≤most∧most≤65536) then(2,[]) else match fp u most.toNat with
  |none=>(3,[])
  |some l=>(0,l)
theorem jm {u:bj} {most:Int} (h:¬ct u):eo u most=(60,[]):=by unfold eo;rw[if_pos h]
theorem iA {u:bj} {most:Int} (h:ct u) (hm:¬(1≤most∧most≤65536)):eo u most=(2,[]):=by unfold eo;rw[if_neg (fun e=>e h),if_pos hm]
theorem iX {u:bj} {most:Int} (h:ct u) (hm:1≤most∧most≤65536):eo u most=(match fp u most.toNat with|none=>(3,[])|some l=>(0,l)):=by unfold eo;rw[if_neg (fun e=>e h),if_neg (fun e=>e hm)]
theorem ES (a b:AV) (H:Hp) (nx:Nat):cJ Tryz.prog 33 [a,b] H nx (fun r H' n=>H'=H∧n=nx):=by
 refine aQ F9 rfl ?_
 refine cN ?_
 exact⟨⟨rfl,rfl⟩⟩
theorem yC (u:bj) (hu:u.Wf) (most:Int):Pure Tryz.prog 11 [u.av,i64 most] (fun r=>r= .dH [i64 (eo u most).2.length,i64 (eo u most).1]):=by
 refine dP ?_ (by simp[bw,cP])
 refine aQ FV rfl ?_
 by_cases hr:ct u
 ·by_cases hm:1≤most∧most≤65536
  ·rw[iX hr hm]
   refine cN ?_
   refine aL (nN u hu hr most hm _ [] _ _ (fun _ _=>True) trivial (fun _ _ _ _ _=>trivial) ?_) ?_
   ·intro l hl k H n hk hn _
    refine(ES _ _ H n).mono ?_
    rintro r H' n' ⟨rfl,rfl⟩
    exact⟨trivial,Nat.le_refl _,fun y _ _=>rfl⟩
   rintro r H' n' ⟨hn,hA⟩
   revert hA
   cases fp u most.toNat with
   |none=>
    rintro⟨rfl,_⟩
    refine cN ?_
    exact⟨rfl⟩
   |some l=>
    rintro⟨rfl,_⟩
    refine cN ?_
    exact⟨rfl⟩
  ·rw[iA hr hm]
   refine cN ?_
   refine aL (l3 u hu hr most hm _ [] _ _) ?_
   rintro r H' n' ⟨rfl,hn,_⟩
   refine cN ?_
   exact⟨rfl⟩
 ·rw[jm hr]
  refine cN ?_
  refine aL (pS u hu hr most _ [] _ _) ?_
  rintro r H' n' ⟨rfl,hn,_⟩
  refine cN ?_
  exact⟨rfl⟩
def ec (u:bj) (l:List cH) (k:Nat):List dc:=(l.take k).filterMap fun f=>if f.m.stuck u then some (f.m.end_ u) else none
theorem vI {u:bj} {l:List cH} {k:Nat} (hk:k<l.length):ec u l (k+1)=ec u l k++(if(l.getD k default).m.stuck u then[(l.getD k default).m.end_ u] else[]):=by
 unfold ec
 rw[List.take_succ_eq_append_getElem hk,List.filterMap_append,show l.getD k default=l[k] by simp[List.getD,hk]]
 congr 1
 simp only[List.filterMap_cons,List.filterMap_nil]
 split
 ·rename_i h;split at h<;>simp_all
 ·rename_i h;split at h<;>simp_all
theorem qR (u:bj) (l:List cH) (k:Nat):(ec u l k).length≤k:=by
 unfold ec
 refine Nat.le_trans (List.length_filterMap_le _ _) ?_
 rw[List.length_take];omega
set_option maxHeartbeats 1000000 in
theorem JV {u:bj} (hr:ct u) {l:List cH} (hf:gR u l) (hl:l.length≤65536) {k:Nat} (hk:k<l.length) {ub ob o:Nat} {H:Hp} {nx:Nat} (h1:ub<nx) (h2:ob<nx) (h3:o<nx) (hne:ob≠o)
 (r1:∃d,bd H ub=some (.row 25 3 d [u.av])) (r2:∃d,bd H ob=some (.row 30 1 d [.sl o (ec u l k).length])) (r3:∃d,bd H o=some (.row 40 3 d ((ec u l k).map dc.av))):
 cJ Tryz.prog 35 [jJ u l,i64 k, .pt ub 1 0 0, .pt ob 1 0 0] H nx (fun _ H' n=>(∃d,bd H' ob=some (.row 30 1 d [.sl o (ec u l (k+1)).length]))∧(∃d,bd H' o=some (.row 40 3 d ((ec u l (k+1)).map dc.av)))∧nx≤n∧∀y,y<nx→y≠ob→y≠o→bd H' y=bd H y):=by
 obtain⟨d1,r1⟩:=r1
 obtain⟨d2,r2⟩:=r2
 obtain⟨d3,r3⟩:=r3
 have hel:=qR u l k
 obtain⟨hm,hp⟩:=hf.ok k hk
 have e0:∀d,(l.map (cH.av u)).getD ((k:Int)).toNat d= .agg [(l.getD k default).m.fz u,i64 (l.getD k default).from_,i64 (l.getD k default).cS]:=fun d=>by rw[Int.toNat_natCast];exact cu (cH.av u) l k d hk
 have a0:(l.map (cH.av u)).length=l.length:=by simp
 have a1:((ec u l k).map dc.av).length=(ec u l k).length:=by simp
 have c0:=tD u hr (l.getD k default).m hm (by omega) (by have:=hm.ml;have:=hr.tv;omega)
 rw[vI hk]
 generalize (l.getD k default).m=m at *
 cases hs:m.stuck u with
 |true=>
  rw[kX,hs] at c0
  refine aQ CP rfl ?_
  refine cN ?_
  refine⟨⟨⟨_,by simp only[List.length_append,if_true,List.length_cons,List.length_nil];exact bf⟩,⟨_,by simp only[List.map_append,if_true,List.map_cons,List.map_nil];exact bf⟩,cU,fun y y1 y2 y3=>br⟩⟩
 |false=>
  rw[kX,hs] at c0
  refine aQ CP rfl ?_
  refine cN ?_
  refine⟨⟨⟨_,by rw[if_neg (by decide),List.append_nil];exact bf⟩,⟨_,by rw[if_neg (by decide),List.append_nil];exact bf⟩,cU,fun y y1 y2 y3=>br⟩⟩
end Go.Proofs.YtekfmjjmihomlaaGreat
end
section
/- Shows: the walk. -/
namespace Go.Proofs.YtekfmjjmihomlaaGreat
open Go Go.cV Go.Proofs
set_option linter.unusedSimpArgs false
set_option linter.unusedVariables false
set_option maxRecDepth 8000
theorem O1 (p q:cM):yH [.i, .i] p.cells q.cells=some (decide (p=q)):=by
 simp only[cM.cells,yH,FU]
 by_cases h1:p.cS=q.cS<;>by_cases h2:p.word=q.word<;>simp[h1,h2]
 ·cases p;cases q;simp_all
 ·intro e;exact h2 (by rw[e])
 ·intro e;exact h1 (by rw[e])
 ·intro e;exact h1 (by rw[e])
theorem ri (a b:List cM) (ha:a.length * 16≤140737488355328) (hb:b.length * 16≤140737488355328):Pure Tryz.prog 61 [dE a,dE b] (fun r=>r=bl (decide (a=b))):=by
 refine aI GP rfl ?_
 have a0:(a.map cM.av).length=a.length:=by simp
 have a1:(b.map cM.av).length=b.length:=by simp
 by_cases hl:a.length=b.length
 ·have r0:decide ((a.map cM.av).length=(b.map cM.av).length)=true:=by simp[hl]
  refine cN ?_
  rw[List.length_map]
  refine aP (fun i:Nat=>[(0,dE a),(1,dE b),(12,i64 a.length),(13,i64 i)]) (fun i H n=>i≤a.length∧∀j,j<i→a.getD j default=b.getD j default) (fun i=>a.length - i) 0 cC ⟨Nat.zero_le _,fun j hj=>by omega⟩ ?_
  rintro i H n ⟨hi,hall⟩
  by_cases hil:i<a.length
  ·have e0:=fun d=>jE (l:=a) hil d
   have e1:=fun d=>jE (l:=b) (i:=i) (by omega) d
   by_cases he:a.getD i default=b.getD i default
   ·have g0:yH [.i, .i] (a.getD i default).cells (b.getD i default).cells=some true:=by rw[O1,decide_eq_true he]
    refine cN ?_
    exact⟨i+1,by omega,cC,by omega,fun j hj=>by
     by_cases e:j=i
     ·rw[e];exact he
     ·exact hall j (by omega)⟩
   ·have g0:yH [.i, .i] (a.getD i default).cells (b.getD i default).cells=some false:=by rw[O1,decide_eq_false he]
    refine cN ?_
    refine dW (Eq.symm (decide_eq_false ?_))
    rintro rfl
    exact he rfl
  ·refine cN ?_
   refine dW (Eq.symm (decide_eq_true ?_))
   apply List.ext_getElem hl
   intro j q1 q2
   have:=hall j (by omega)
   simpa[List.getD,q1,q2] using this
 ·refine cN ?_
  refine dW (Eq.symm (decide_eq_false ?_))
  rintro rfl
  exact hl rfl
def fD (l:List cH) (want:List cM) (k:Nat):Bool:=(l.take k).any fun f=>decide (f.m.bk=want)
theorem oE {l:List cH} {want:List cM} {k:Nat} (hk:k<l.length):fD l want (k+1)=(fD l want k||decide ((l.getD k default).m.bk=want)):=by
 unfold fD
 rw[List.take_succ_eq_append_getElem hk,List.any_append,show l.getD k default=l[k] by simp[List.getD,hk]]
 simp
set_option maxHeartbeats 1000000 in
theorem IL {u:bj} {l:List cH} (hf:gR u l) (hl:l.length≤65536) {want:List cM} (hw:want.length * 16≤140737488355328) {k:Nat} (hk:k<l.length) {ib wb:Nat} {H:Hp} {nx:Nat} (h1:ib<nx) (h2:wb<nx) (hne:ib≠wb)
 (r1:∃d,bd H ib=some (.row 4 1 d [bl (fD l want k)])) (r2:∃d,bd H wb=some (.row 37 1 d [dE want])):
 cJ Tryz.prog 60 [jJ u l,i64 k, .pt ib 1 0 0, .pt wb 1 0 0] H nx (fun _ H' n=>(∃d,bd H' ib=some (.row 4 1 d [bl (fD l want (k+1))]))∧nx≤n∧∀y,y<nx→y≠ib→bd H' y=bd H y):=by
 obtain⟨d1,r1⟩:=r1
 obtain⟨d2,r2⟩:=r2
 obtain⟨hm,hp⟩:=hf.ok k hk
 have e0:∀d,(l.map (cH.av u)).getD ((k:Int)).toNat d= .agg [(l.getD k default).m.fz u,i64 (l.getD k default).from_,i64 (l.getD k default).cS]:=fun d=>by rw[Int.toNat_natCast];exact cu (cH.av u) l k d hk
 have a0:(l.map (cH.av u)).length=l.length:=by simp
 have c0:=tE u (l.getD k default).m (by omega)
 have c1:=ri (l.getD k default).m.bk want (by omega) hw
 rw[oE hk]
 generalize (l.getD k default).m=m at *
 cases hs:fD l want k with
 |true=>
  rw[hs] at r1
  refine aQ CQ rfl ?_
  refine cN ?_
  refine⟨⟨⟨_,bf⟩,cU,fun y y1 y2=>br⟩⟩
 |false=>
  rw[hs] at r1
  refine aQ CQ rfl ?_
  refine cN ?_
  refine⟨⟨⟨_,bf⟩,cU,fun y y1 y2=>br⟩⟩
set_option maxHeartbeats 1000000 in
theorem zX (u:bj) (hu:u.Wf) (most:Int) (want:List cM) (hw:want.length * 16≤140737488355328):Pure Tryz.prog 27 [u.av,i64 most,dE want] (fun r=>r= .dH [bl (fD (eo u most).2 want (eo u most).2.length),i64 (eo u most).1]):=by
 refine dP ?_ (by simp[bw,cP])
 refine aQ F5 rfl ?_
 by_cases hr:ct u
 ·by_cases hm:1≤most∧most≤65536
  ·rw[iX hr hm]
   refine cN ?_
   refine aL (nN u hu hr most hm _ [.pt 4 1 0 0, .pt 1 1 0 0] _ _ (fun k H=>(∃d,bd H 4=some (.row 4 1 d [bl (fD ((fp u most.toNat).getD []) want k)]))∧(∃d,bd H 1=some (.row 37 1 d [dE want]))) ⟨⟨_,bf⟩,⟨_,bf⟩⟩ ?_ ?_) ?_
   ·rintro k H H' ⟨⟨d1,q1⟩,⟨d2,q2⟩⟩ hk
    exact⟨⟨d1,(hk 4 cU).trans q1⟩,⟨d2,(hk 1 cU).trans q2⟩⟩
   ·intro l hl k H n hk hn ⟨q1,⟨d2,q2⟩⟩
    simp only[hl,Option.getD_some] at q1 ⊢
    obtain⟨hf,hlm,_⟩:=nM hu hr (by omega) hl
    refine(IL hf (by omega) hw hk (by omega) (by omega) (by omega) q1 ⟨d2,q2⟩).mono ?_
    rintro _ H' n' ⟨p1,p2,p3⟩
    exact⟨⟨p1,⟨d2,(p3 1 (by omega) (by omega)).trans q2⟩⟩,p2,fun y y1 y2=>p3 y y2 (by omega)⟩
   rintro r H' n' ⟨hn,hA⟩
   revert hA
   cases fp u most.toNat with
   |none=>
    rintro⟨rfl,hk⟩
    have r8:bd H' 4=some (.row 4 1 (fU false [.bool false]) [bl false]):=(hk 4 cU).trans bf
    refine cN ?_
    exact⟨rfl⟩
   |some l=>
    rintro⟨rfl,⟨d1,q1⟩,_⟩
    simp only[Option.getD_some] at q1
    cases hs:fD l want l.length with
    |true=>
     rw[hs] at q1
     refine cN ?_
     exact⟨by simp only[hs];rfl⟩
    |false=>
     rw[hs] at q1
     refine cN ?_
     exact⟨by simp only[hs];rfl⟩
  ·rw[iA hr hm]
   refine cN ?_
   refine aL (l3 u hu hr most hm _ [.pt 4 1 0 0, .pt 1 1 0 0] _ _) ?_
   rintro r H' n' ⟨rfl,hn,hk⟩
   have r8:bd H' 4=some (.row 4 1 (fU false [.bool false]) [bl false]):=(hk 4 cU).trans bf
   refine cN ?_
   exact⟨rfl⟩
 ·rw[jm hr]
  refine cN ?_
  refine aL (pS u hu hr most _ [.pt 4 1 0 0, .pt 1 1 0 0] _ _) ?_
  rintro r H' n' ⟨rfl,hn,hk⟩
  have r8:bd H' 4=some (.row 4 1 (fU false [.bool false]) [bl false]):=(hk 4 cU).trans bf
  refine cN ?_
  exact⟨rfl⟩
end Go.Proofs.YtekfmjjmihomlaaGreat
end
