import Derived.Test.YtjopoheligmmoaaGreatDoorM34
import Derived.Test.YtjopoheligmmoaaGreatDoorM36
import Derived.Test.YtjopoheligmmoaaGreatDoorM37
import Derived.Lib.ItoaLen
import Derived.Test.YtjopoheligmmoaaGreatDoorM32
section
/- A machine in rows told by value, within a list of what was found. -/
namespace Go.Proofs.YtjopoheligmmoaaGreatDoor
open Go Go.cY Go.Proofs
set_option linter.unusedSimpArgs false
set_option linter.unusedVariables false
set_option maxRecDepth 8000
def jg (S:List Nat) (H:Hp):Hp:=S.map fun y=>(y,br H y)
theorem AG {S:List Nat} {H:Hp} {y:Nat} (h:y∈S):br (jg S H) y=br H y:=by
 induction S with
 |nil=>cases h
 |cons x S ih=>
  rw[jg,List.map_cons]
  by_cases e:y=x
  ·subst e;exact cn _ _ _
  ·rw[cW e]
   exact ih (by simpa[e] using h)
theorem qN {S:List Nat} {H:Hp} {y:Nat} {q:eS} (h:br (jg S H) y=some q):br H y=some q:=by
 have:y∈S:=by
  have:=ma h
  simpa[jg] using this
 rw[AG this] at h;exact h
theorem eF {S:List Nat} {H H2:Hp} {y:Nat} (h:y∉S):br (lO (jg S H) H2) y=br H2 y:=fV (by simpa[jg] using h)
section
variable {u:bu} {m:MS} {L:ML} {H:Hp}
theorem ML.At.tV (h:L.At u m H) (k:Nat):Go.cY.gk (jg L.all H) (k+4) (.pt L.mr 1 0 0)=m.fz u:=by
 have h:=h.cR (H':=jg L.all H) fun y hy=>AG hy
 generalize jg L.all H=G at *
 obtain⟨d1,h1⟩:=h.rM
 obtain⟨d2,h2⟩:=h.rA
 obtain⟨d3,h3⟩:=h.rS
 obtain⟨d4,h4⟩:=h.rE
 obtain⟨d5,h5⟩:=h.rH
 obtain⟨d6,h6⟩:=h.rP
 have hsl:(eR L.ids m.bx).length=m.bx.length:=vD h.len
 have hs:(eR L.ids m.bx).map (Go.cY.gk G (k+1))=m.bx.map cQ:=by
  apply List.ext_getElem (by simp[hsl])
  intro t q1 q2
  have ht:t<m.bx.length:=by simpa using q2
  have hti:t<L.ids.length:=by rw[h.len];exact ht
  obtain⟨d,hd⟩:=h.rL t ht
  rw[show L.ids.getD t 0=L.ids[t] by simp[List.getD,hti],show m.bx.getD t []=m.bx[t] by simp[List.getD,ht]] at hd
  rw[List.getElem_map,List.getElem_map]
  simp only[eR,List.getElem_map,List.getElem_zip]
  rw[mc hd (by simp),fq _ ((cB _ _).2 fun _ _=>by simp[cI])]
 rw[show Go.cY.gk G (k+4) (.pt L.mr 1 0 0)= .ip 8 .any ([m.rows u L.a L.s L.me L.ho L.pr].map (Go.cY.gk G (k+3))) 0 0 from RC h1 rfl]
 simp only[List.map_cons,List.map_nil,MS.rows]
 rw[xw]
 simp only[List.map_cons,List.map_nil]
 rw[mc h2 (by simp),mc h3 hsl,mc h4 (by simp),mc h5 (by simp),mc h6 (by simp),hs]
 rw[fq _ ((cB _ _).2 fun _ _=>by simp[cI]),fq _ ((cB _ _).2 fun _ _=>by simp[cI]),fq _ ((cB _ _).2 fun _ _=>by simp[cI]),fq _ ((cB _ _).2 fun _ _=>by simp[cI])]
 rw[kR _ (show cI 0 (cq u.shared) by simp[cI,cB]),kR _ (show cI 0 (cq u.cD) by simp[cI,cB]),kR _ (show cI 0 (dc u.bt) by simp[cI,cB])]
 rfl
end
def cT.cells (u:bu) (f:cT):List AV:=[f.m.fz u,i64 f.from_,i64 f.da]
abbrev cT.av (u:bu) (f:cT):AV:= .agg (f.cells u)
abbrev kJ (u:bu) (l:List cT):AV:= .im 3 .any (l.map (cT.av u))
@[simp] theorem IF (n:Nat) (u:bu) (f:cT):cX n (f.cells u):=by
  have:=nZ n u f.m
  simp[cT.cells,cX,cI]
theorem BT (u:bu) (l:List cT):cX 0 (l.map (cT.av u)):=(cB _ _).2 fun _ _=>by simp only[cT.av,cI];exact IF _ _ _
theorem u5 {u:bu} {m:MS} {L:ML} {H:Hp} {lb nx:Nat} {d:AV} {l:List cT} {fr th:Int} (hM:L.At u m H) (hl:br H lb=some (.row 163 3 d (l.map (cT.av u)++[.agg [.pt L.mr 1 0 0,i64 fr,i64 th]]))) (hlb:lb∉L.all):
 Wk .any H nx .any (lO (jg L.all H) ((lb,some (.row 163 3 .any ((l++[(⟨m,fr,th⟩:cT)]).map (cT.av u))))::H)) nx:=by
 have:=Wk.gk (nx:=nx) (jg L.all H) 5 .any hl (fun b q hq=>qN hq)
 rw[List.map_append,fq _ (BT u l),List.map_cons,List.map_nil,xw,List.map_cons,List.map_cons,List.map_cons,List.map_nil,hM.tV 0,kR _ (show cI 0 (i64 fr) by simp[cI]),kR _ (show cI 0 (i64 th) by simp[cI])] at this
 rw[List.map_append]
 exact this
end Go.Proofs.YtjopoheligmmoaaGreatDoor
end
section
/- Keys are short, and tell situations apart as texts do. -/
namespace Go.Proofs.YtjopoheligmmoaaGreatDoor
open Go Go.cY Go.Proofs
set_option linter.unusedSimpArgs false
set_option linter.unusedVariables false
theorem mY {α:Type} (f:α→List UInt8) (k:Nat):∀l:List α,(∀a∈l,(f a).length≤k)→(l.flatMap f).length≤l.length * k
 |[],_=>by simp
 |a::l,h=>by
  have h1:=mY f k l fun b hb=>h b (by simp[hb])
  have h2:=h a (by simp)
  rw[List.flatMap_cons,List.length_append,List.length_cons,Nat.add_mul]
  omega
theorem mq {x:Int} (e:List UInt8) (h:eN x):(ej x e).length≤21+e.length:=by
 have:=Go.Lib.itoa_length_le x h.1 (by have:=h.2;omega)
 unfold ej
 rw[List.length_append]
 omega
theorem eI.VT {u:bu} {m:MS} (hr:cS u) (h:eI u m):(gl m).length≤100000000+m.cN.length * 50:=by
 have hf:=hr.ql
 have hal:=h.pV
 have hml:=h.ml
 have hhl:=h.hl
 have hn:∀t,t<u.bt.length→(u.gr t).nodes.length≤4096∧(u.gr t).bx≤4160:=fun t ht=>⟨(hr.gr ht).len.2,(hr.gr ht).bx.2⟩
 have h1:((List.range m.at_.length).flatMap (we m)).length≤(List.range m.at_.length).length * 100000:=by
  refine mY _ _ _ fun t ht=> ?_
  have ht:=List.mem_range.1 ht
  have hat:=h.gK t (by omega)
  obtain⟨n1,n2⟩:=hn t (by omega)
  have hs:=h.DP t (by omega)
  have a1:=mq (x:=m.at_.getD t 0) [44] ⟨by omega,by omega⟩
  have a2:=mY (fun w=>ej w [44]) 22 (m.bx.getD t []) fun w hw=>mq [44] (h.DQ t (by omega) w hw)
  have e:(we m t).length=(ej (m.at_.getD t 0) [44]).length+((m.bx.getD t []).flatMap (fun w=>ej w [44])).length+1:=by simp only[we,List.length_append,List.length_cons,List.length_nil]
  simp only[List.length_cons,List.length_nil] at a1
  rw[e]
  omega
 rw[List.length_range] at h1
 have h2:=mY (fun w=>ej w [44]) 22 m.mem fun w hw=>mq [44] (h.mw w hw)
 have h3:=mY (fun w=>ej w [44]) 22 m.hold fun w hw=>mq [44] (by have:=h.hw w hw;exact⟨by omega,by omega⟩)
 have h4:=mY J3 50 m.cN fun p hp=>by
  obtain⟨p1,p2,p3⟩:=h.pw p hp
  have a1:=mq (x:=p.da) [58] ⟨by omega,by omega⟩
  have a2:=mq (x:=p.word) [44] p3
  simp only[List.length_cons,List.length_nil] at a1 a2
  unfold J3
  rw[List.length_append]
  omega
 rw[wG]
 omega
theorem eI.ZB {u:bu} {m:MS} (hr:cS u) (h:eI u m) (hp:m.cN.length≤1048576):Z2 m:=by
 have hf:=hr.ql
 refine⟨fun w hw=> ?_,by rw[h.sl,h.pV],fun l hl w hw=> ?_,h.mw,fun w hw=> ?_,fun p hp=> ?_, ?_⟩
 ·obtain⟨t,ht,rfl⟩:=List.mem_iff_getElem.1 hw
  have h1:=h.gK t (by rw[←h.pV];exact ht)
  have h2:=(hr.gr (t:=t) (by rw[←h.pV];exact ht)).len.2
  rw[show m.at_.getD t 0=m.at_[t] by simp[List.getD,ht]] at h1
  exact⟨by omega,by omega⟩
 ·obtain⟨t,ht,rfl⟩:=List.mem_iff_getElem.1 hl
  have:=h.DQ t (by rw[←h.sl];exact ht) w
  rw[show m.bx.getD t []=m.bx[t] by simp[List.getD,ht]] at this
  exact this hw
 ·have:=h.hw w hw
  exact⟨by omega,by omega⟩
 ·obtain⟨p1,p2,p3⟩:=h.pw p hp
  exact⟨⟨by omega,by omega⟩,p3⟩
 ·have:=h.VT hr
  omega
theorem TU {a b:List UInt8} (h:kb a=kb b):a=b:=by
 have:=congrArg (fun x:ByteArray=>x.data.toList) h
 simpa[kb] using this
abbrev jN (l:List cT):List (ByteArray×Int):=l.map fun f=>(kb (gl f.m),1)
abbrev nk (l:List cT):List AV:=qG (fun s:ByteArray=>Value.string s) i64 (jN l)
theorem sX (l:List cT) (k:List UInt8):ef (jN l) (kb k)=if k∈jM l then some 1 else none:=by
 split
 ·rename_i h
  cases hl:ef (jN l) (kb k) with
  |none=>
   exfalso
   refine(qB _ _).1 hl ?_
   rw[List.map_map]
   obtain⟨f,h1,h2⟩:=List.mem_map.1 h
   exact List.mem_map.2 ⟨f,h1,by simp only[Function.comp];rw[h2]⟩
  |some v=>
   have hv:∀(l:List cT),ef (jN l) (kb k)=some v→v=1:=by
    intro l
    induction l with
    |nil=>intro h;cases h
    |cons f l ih=>
     intro h
     rw[jN,List.map_cons,ef] at h
     split at h
     ·cases h;rfl
     ·exact ih h
   rw[hv l hl]
 ·rename_i h
  refine(qB _ _).2 fun hm=>h ?_
  rw[List.map_map] at hm
  obtain⟨f,h1,h2⟩:=List.mem_map.1 hm
  simp only[Function.comp] at h2
  exact List.mem_map.2 ⟨f,h1,TU h2⟩
theorem I8 {l:List cT} {m:MS} {a b:Int} (h:gl m∉jM l):iq (jN l) (kb (gl m)) 1=jN (l++[⟨m,a,b⟩]):=by
 have key:∀E:List (ByteArray×Int),ef E (kb (gl m))=none→iq E (kb (gl m)) 1=E++[(kb (gl m),1)]:=by
  intro E
  induction E with
  |nil=>intro _;rfl
  |cons p E ih=>
   intro hn
   obtain⟨x,y⟩:=p
   rw[ef] at hn
   rw[iq]
   split at hn
   ·cases hn
   ·rename_i hx
    rw[if_neg hx,ih hn];rfl
 rw[key _ (by rw[sX,if_neg h]),jN,jN,List.map_append];rfl
end Go.Proofs.YtjopoheligmmoaaGreatDoor
end
section
/- All situations: the walk. -/
namespace Go.Proofs.YtjopoheligmmoaaGreatDoor
open Go Go.cY Go.Proofs
set_option linter.unusedSimpArgs false
set_option linter.unusedVariables false
set_option maxRecDepth 8000
theorem EE (u:bu) (hu:u.Wf) (hr:¬cS u) (most:Int) (g:Nat) (caps:List AV) (H0:Hp) (nx:Nat):cH Tryz.prog 92 [u.av,i64 most, .fn (.func g) [] caps] H0 nx (fun r H n=>r= .dL [i64 0,i64 60]∧nx≤n∧∀y,y<nx→br H y=br H0 y):=by
 have c0:=GY u hu hr
 refine aL CJ rfl ?_
 refine cU ?_
 exact⟨⟨rfl,cZ,fun y hy=>cA⟩⟩
theorem tx (u:bu) (hu:u.Wf) (hr:cS u) (most:Int) (hm:¬(1≤most∧most≤65536)) (g:Nat) (caps:List AV) (H0:Hp) (nx:Nat):cH Tryz.prog 92 [u.av,i64 most, .fn (.func g) [] caps] H0 nx (fun r H n=>r= .dL [i64 0,i64 2]∧nx≤n∧∀y,y<nx→br H y=br H0 y):=by
 refine aL CJ rfl ?_
 refine cU ?_
 refine aJ (ow u hu hr _ _) ?_
 rintro r H1 n1 ⟨L,rfl,hM,hlt,hn1,hk1⟩
 by_cases h1:most<1
 ·refine cU ?_
  exact⟨⟨rfl,cZ,fun y hy=>Eq.trans cA ((hk1 y cZ).trans cA)⟩⟩
 ·have h2:65536<most:=by omega
  refine cU ?_
  exact⟨⟨rfl,cZ,fun y hy=>Eq.trans cA ((hk1 y cZ).trans cA)⟩⟩
theorem BG (u:bu) (hr:cS u) (m:MS) (h:eI u m) (hp:m.cN.length≤1048576) (H0:Hp) (nx:Nat):cH Tryz.prog 146 [m.fz u] H0 nx (fun r H n=>∃L:ML,r= .pt L.mr 1 0 0∧L.At u m H∧(∀x∈L.all,nx≤x∧x<n)∧nx≤n∧∀y,y<nx→br H y=br H0 y):=by
 have hgl:=hr.ql
 refine(BH u m (by have:=h.pV;omega) (by have:=h.ml;omega) (by have:=h.hl;omega) hp (by have:=h.sl;omega) (fun x hx=> ?_) H0 nx).mono ?_
 ·obtain⟨s,hs,rfl⟩:=List.mem_iff_getElem.1 hx
  have h1:=h.DP s (by rw[←h.sl];exact hs)
  have h2:=(hr.gr (t:=s) (by rw[←h.sl];exact hs)).bx.2
  rw[show m.bx.getD s []=m.bx[s] by simp[List.getD,hs]] at h1
  omega
 ·rintro r H n ⟨mr,a,s,me,ho,pr,ids,rfl,h1,h2,h3,h4⟩
  exact⟨⟨mr,a,s,me,ho,pr,ids⟩,rfl,h1,h2,h3,h4⟩
def P7 (u:bu) (most:Int) (I:Nat→Hp→Prop) (nx:Nat) (H0:Hp) (r:AV) (H:Hp) (n:Nat):Prop:=
 nx≤n∧match gT u most.toNat with
 |none=>r= .dL [i64 0,i64 3]∧∀y,y<nx→br H y=br H0 y
 |some l=>r= .dL [i64 l.length,i64 0]∧I l.length H
set_option maxHeartbeats 4000000 in
theorem rV (u:bu) (hu:u.Wf) (hr:cS u) (most:Int) (hm:1≤most∧most≤65536) (g:Nat) (caps:List AV) (H0:Hp) (nx:Nat) (I:Nat→Hp→Prop) (hI0:I 0 H0) (hst:∀k H H',I k H→(∀y,y<nx→br H' y=br H y)→I k H')
 (hcl:∀l,gT u most.toNat=some l→∀k H n,k<l.length→nx≤n→I k H→cH Tryz.prog g ([kJ u l,i64 k]++caps) H n (fun _ H' n'=>I (k+1) H'∧n≤n'∧∀y,nx≤y→y<n→br H' y=br H y)):
 cH Tryz.prog 92 [u.av,i64 most, .fn (.func g) [] caps] H0 nx (P7 u most I nx H0):=by
 obtain⟨mo,rfl⟩:∃mo:Nat,most=mo:=⟨most.toNat,by omega⟩
 have hgl:=hr.ql
 unfold P7
 rw[Int.toNat_natCast] at hcl ⊢
 refine aL CJ rfl ?_
 refine cU ?_
 refine aJ (ow u hu hr _ _) ?_
 rintro r H1 n1 ⟨L,rfl,hM,hlt,hn1,hk1⟩
 have hF:=gy.init u hu hr
 have hm0:=(hF.ok 0 hF.pos).1
 have hm0':(List.getD (jo u) 0 default).m=dX u:=rfl
 rw[hm0'] at hm0
 have g0:oq true (Value.string (kb (gl (dX u)))) [] (i64 1)=some (nk (jo u)):=rfl
 have h65:(65536:Int)<mo→False:=by omega
 refine cU ?_
 refine aS (wF u (dX u) (hm0.ZB hr (by simp[dX]))) (args2:=[(dX u).fz u]) ?_ (by simp[cX,nZ]) trivial ?_
 ·rw[List.map_cons,List.map_nil]
  congr 1
  exact(hM.cR fun y hy=>by have:=hlt y hy;exact cA).IJ 2
 refine cU ?_
 have hno:∀y,y<nx+1∨n1≤y→y∉L.all:=fun y hy hm=>by have:=hlt y hm;omega
 refine aU (fun σ:Nat×List cT=>[(1,i64 mo),(2, .fn (.func g) [] caps),(3, .pt nx 1 0 0),(10, .sl (n1+15) σ.2.length),(11, .mp (n1+17)),(12,i64 σ.1)])
  (fun σ H n=>σ.1≤σ.2.length∧σ.2.length≤mo∧gy u σ.2∧xF u mo (mo - σ.1) σ.1 σ.2=gT u mo∧n1+23≤n∧(∃d,br H nx=some (.row 25 3 d [u.av]))∧(∃d,br H (n1+15)=some (.row 163 3 d (σ.2.map (cT.av u))))∧(∃e d,br H (n1+17)=some (.row e 0 d (mapA (nk σ.2))))∧∀y,y<nx→br H y=br H0 y) (fun σ=>mo - σ.1) (0,jo u)
  ⟨_,_,_,Rt.wk (u5 (lb:=n1+15) (l:=[]) (fr:=-1) (th:=0) (hM.cR ?_) bw (hno _ (by omega))),cJ,Nat.zero_le _,by show 1≤mo;omega,hF,rfl,cZ,⟨_,(eF (hno _ (by omega))).trans (Eq.trans cA ((hk1 nx (by omega)).trans bw))⟩,⟨_,(eF (hno _ (by omega))).trans bw⟩,⟨_,_,(eF (hno _ (by omega))).trans bw⟩,fun y hy=>(eF (hno _ (by omega))).trans (Eq.trans cA ((hk1 y cZ).trans cA))⟩ ?_
 ·intro y hy
  have:=hlt y hy
  exact cA
 clear hM hlt hk1 hno
 rintro⟨k,l⟩ H n ⟨hk,hl,hfs,hall,hn,⟨d0,r0'⟩,⟨d1,r1'⟩,⟨e2,d2,r2'⟩,hkp⟩
 dsimp only at hk hl hfs hall r1' r2' ⊢
 by_cases hkl:k<l.length
 ·have e0:∀d,(l.map (cT.av u)).getD ((k:Int)).toNat d=(l.getD k default).av u:=fun d=>by rw[Int.toNat_natCast];exact dN (cT.av u) l k d hkl
  have a0:(l.map (cT.av u)).length=l.length:=by simp
  have hgeq:∀l':List cT,l<+:l'→l'.getD k default=l.getD k default:=fun l' ⟨q,hq⟩=>by rw[←hq];simp[List.getD,List.getElem?_append,hkl]
  have hmk:mo - k=(mo - (k+1))+1:=by omega
  rw[hmk,xF,if_pos hkl] at hall
  obtain⟨hmok,hpl⟩:=hfs.ok k hkl
  have hmdef:(l.getD k default).m=(l.getD k default).m:=rfl
  generalize hmm:(l.getD k default).m=m at hmok hpl
  have e0':∀d,(l.map (cT.av u)).getD ((k:Int)).toNat d= .agg [m.fz u,i64 (l.getD k default).from_,i64 (l.getD k default).da]:=fun d=>by rw[e0 d,←hmm];rfl
  clear e0
  have e0:=e0'
  refine cU ?_
  rw[List.length_map]
  refine aU (fun σ:Nat×List cT=>[(1,i64 mo),(2, .fn (.func g) [] caps),(3, .pt nx 1 0 0),(10, .sl (n1+15) σ.2.length),(11, .mp (n1+17)),(12,i64 k),(13,m.fz u),(52,i64 u.bt.length),(53,i64 σ.1)])
   (fun σ H n=>σ.1≤u.bt.length∧k<σ.2.length∧σ.2.length≤mo∧gy u σ.2∧(σ.2.getD k default).m=m∧(match DG u mo k ((List.range u.bt.length).drop σ.1) σ.2 with
    |none=>none
    |some l2=>xF u mo (mo - (k+1)) (k+1) l2)=gT u mo∧n1+23≤n∧(∃d,br H nx=some (.row 25 3 d [u.av]))∧(∃d,br H (n1+15)=some (.row 163 3 d (σ.2.map (cT.av u))))∧(∃e d,br H (n1+17)=some (.row e 0 d (mapA (nk σ.2))))∧∀y,y<nx→br H y=br H0 y) (fun σ=>u.bt.length - σ.1) (0,l)
   ⟨_,_,_,Rt.refl _ _ _,cJ,Nat.zero_le _,hkl,hl,hfs,hmm,hall,cZ,⟨_,bw⟩,⟨_,bw⟩,⟨_,_,bw⟩,fun y hy=>Eq.trans cA (hkp y hy)⟩ ?_
  clear e0 e0' a0 r0' r1' r2' hkp hall hfs hl hkl hgeq hn hmm
  rintro⟨t,l⟩ H n ⟨ht,hkl,hl,hfs,hmm,hall,hn,⟨d0,r0'⟩,⟨d1,r1'⟩,⟨e2,d2,r2'⟩,hkp⟩
  dsimp only at ht hkl hl hfs hmm hall r1' r2' ⊢
  have a0:(l.map (cT.av u)).length=l.length:=by simp
  by_cases htl:t<u.bt.length
  ·rw[show(List.range u.bt.length).drop t=t::(List.range u.bt.length).drop (t+1) by rw[List.drop_eq_getElem_cons (by simpa using htl)];simp,DG] at hall
   have c0:=LU u hr m hmok t
   by_cases hb:m.k8 u t=0
   ·have hal:=hmok.pV
    refine cU ?_
    refine aJ (BG u hr m hmok (by omega) _ _) ?_
    rintro r H2 n2 ⟨L2,rfl,hM2,hlt2,hn2,hk2⟩
    have hlt2:∀x∈L2.all,n+7≤x∧x<n2:=hlt2
    refine cU ?_
    refine aJ (vF hu hr hmok (L:=L2) (hM2.cR ?_) ?_ (by omega) htl hb) ?_
    ·intro y hy
     have:=hlt2 y hy
     exact cA
    ·intro y hy
     have:=hlt2 y hy
     exact cZ
    rintro r H3 n3 ⟨rfl,hM3,hn3,hk3⟩
    have hno:∀y,y<n+7∨n2≤y→y∉L2.all:=fun y hy hm=>by have:=hlt2 y hm;omega
    have hold:∀y,y<n→br H3 y=br H y:=fun y hy=>(hk3 y cZ (hno y (by omega))).trans (Eq.trans cA ((hk2 y cZ).trans cA))
    have hlt3:∀x∈L2.all,x<n3:=fun x hx=>by have:=hlt2 x hx;exact Nat.lt_of_lt_of_le this.2 cZ
    obtain⟨hk9,_⟩:=kF hmok htl hb
    have hm2:=w7 hu hr hmok htl hk9
    have hp2:=mJ u m t
    have htry:D2 u mo k t l=if gl (m.step u t).1∈jM l then some l else if l.length=mo then none else some (l++[⟨(m.step u t).1,k,t⟩]):=by
     unfold D2
     rw[hmm,if_neg (by omega)]
    rw[htry] at hall
    have hput:=fun(h:gl (m.step u t).1∉jM l)=>I8 (l:=l) (m:=(m.step u t).1) (a:=k) (b:=t) h
    have hadd:=fun(h:gl (m.step u t).1∉jM l)=>hfs.add hu hr hkl htl (by rw[hmm];exact hb) (by rw[hmm];exact h)
    rw[hmm] at hadd
    generalize (m.step u t).1=m2 at *
    have hkp3:∀y,y<nx→br H3 y=br H0 y:=fun y hy=>(hold y (by omega)).trans (hkp y hy)
    have q0:=(hold nx (by omega)).trans r0'
    have q1:=(hold (n1+15) (by omega)).trans r1'
    have q2:=(hold (n1+17) (by omega)).trans r2'
    have hget:=CN wE i64 (kb (gl m2)) (jN l) (i64 0)
    rw[sX] at hget
    clear hk2 hk3 hM2 r0' r1' r2' hold hkp
    by_cases hin:gl m2∈jM l
    ·rw[if_pos hin] at hget hall
     have g0:mB true (Value.string (kb (gl m2))) (nk l) (i64 0)=some (i64 1,true):=hget
     refine cU ?_
     refine aS (wF u m2 (hm2.ZB hr (by omega))) (args2:=[m2.fz u]) ?_ (by simp[cX,nZ]) trivial ?_
     ·rw[List.map_cons,List.map_nil]
      congr 1
      exact(hM3.cR fun y hy=>by have:=hlt3 y hy;exact cA).IJ 2
     refine cU ?_
     exact⟨(t+1,l),by dsimp only;omega,_,_,_,Rt.refl _ _ _,cJ,by dsimp only;omega,hkl,hl,hfs,hmm,hall,cZ,⟨_,bw⟩,⟨_,bw⟩,⟨_,_,bw⟩,fun y hy=>Eq.trans cA (hkp3 y hy)⟩
    ·rw[if_neg hin] at hget hall
     have g0:mB true (Value.string (kb (gl m2))) (nk l) (i64 0)=some (i64 0,false):=hget
     by_cases hfull:l.length=mo
     ·rw[if_pos hfull] at hall
      refine cU ?_
      refine aS (wF u m2 (hm2.ZB hr (by omega))) (args2:=[m2.fz u]) ?_ (by simp[cX,nZ]) trivial ?_
      ·rw[List.map_cons,List.map_nil]
       congr 1
       exact(hM3.cR fun y hy=>by have:=hlt3 y hy;exact cA).IJ 2
      refine cU ?_
      have hall2:none=gT u mo:=hall
      rw[←hall2]
      exact⟨⟨cZ,rfl,fun y hy=>Eq.trans cA (hkp3 y hy)⟩⟩
     ·rw[if_neg hfull] at hall
      have g1:oq true (Value.string (kb (gl m2))) (nk l) (i64 1)=some (nk (l++[⟨m2,k,t⟩])):=by
       have:=CO wE i64 (kb (gl m2)) 1 (jN l)
       rw[hput hin] at this
       exact this
      refine cU ?_
      refine aS (wF u m2 (hm2.ZB hr (by omega))) (args2:=[m2.fz u]) ?_ (by simp[cX,nZ]) trivial ?_
      ·rw[List.map_cons,List.map_nil]
       congr 1
       exact(hM3.cR fun y hy=>by have:=hlt3 y hy;exact cA).IJ 2
      refine cU ?_
      have hout:=hno
      refine⟨(t+1,l++[⟨m2,k,t⟩]),by dsimp only;omega,_,_,_,Rt.wk (u5 (L:=L2) (lb:=n1+15) (m:=m2) (l:=l) (fr:=k) (th:=t) (hM3.cR ?_) bw (hno _ (by omega))),cJ,by dsimp only;omega,by dsimp only;rw[List.length_append];omega,by dsimp only;simp only[List.length_append,List.length_cons,List.length_nil];omega,hadd hin,by dsimp only;rw[fj hkl];exact hmm,hall,cZ,⟨_,(eF (hno _ (by omega))).trans bw⟩,⟨_,(eF (hno _ (by omega))).trans bw⟩,⟨_,_,(eF (hno _ (by omega))).trans bw⟩,fun y hy=>(eF (hno _ (by omega))).trans (Eq.trans cA (hkp3 y hy))⟩
      intro y hy
      have:=hlt2 y hy
      have:=hlt3 y hy
      exact cA
   ·have htry:D2 u mo k t l=some l:=by
     unfold D2
     rw[hmm,if_pos hb]
    rw[htry] at hall
    refine cU ?_
    exact⟨(t+1,l),by dsimp only;omega,_,_,_,Rt.refl _ _ _,cJ,by dsimp only;omega,hkl,hl,hfs,hmm,hall,cZ,⟨_,bw⟩,⟨_,bw⟩,⟨_,_,bw⟩,fun y hy=>Eq.trans cA (hkp y hy)⟩
  ·have htG:t=u.bt.length:=by omega
   subst htG
   rw[List.drop_of_length_le (by simp),DG] at hall
   refine cU ?_
   exact⟨(k+1,l),by dsimp only;omega,_,_,_,Rt.refl _ _ _,cJ,by dsimp only;omega,hl,hfs,hall,cZ,⟨_,bw⟩,⟨_,bw⟩,⟨_,_,bw⟩,fun y hy=>Eq.trans cA (hkp y hy)⟩
 ·have hk2:k=l.length:=by omega
  refine cU ?_
  have hl2:gT u mo=some l:=by
   rw[←hall]
   subst hk2
   cases h:mo - l.length with
   |zero=>rfl
   |succ q=>rw[xF,if_neg (by omega)]
  have hw:=fun(H':Hp) (n':Nat) (hr:br H' (n1+15)=some (.row 163 3 d1 (l.map (cT.av u))))=>Wk.XY (r:= .sl (n1+15) l.length) (H:=H') (nx:=n') [(n1+15,some (.row 163 3 d1 (l.map (cT.av u))))] 1 (fun b q hq=>by
   by_cases hb:b=n1+15
   ·subst hb;rw[cn] at hq;rw[←hq];exact hr
   ·rw[cW hb] at hq;cases hq)
  rw[NH (cn _ _ _) (by simp),sU] at hw
  rw[hl2]
  refine aU (fun i:Nat=>[(2, .fn (.func g) [] caps),(10,kJ u l),(86,i64 l.length),(87,i64 i)])
   (fun i H n=>i≤l.length∧nx≤n∧I i H) (fun i=>l.length - i) 0
   ⟨_,_,_,Rt.slot 10 rfl (hw _ _ bw),cJ,Nat.zero_le _,cZ,hst 0 _ _ hI0 fun y hy=>(cW (by omega)).trans (Eq.trans cA (hkp y hy))⟩ ?_
  clear r0' r1' r2' hkp hw hn
  rintro i H n ⟨hi,hn,hI⟩
  by_cases hil:i<l.length
  ·refine cU ?_
   refine Eq.mpr (iC caps _) ?_
   show iG Tryz.prog g (kJ u l::i64 i::caps) _ _ _
   refine aJ (hcl l hl2 i _ _ hil cZ (hst i H _ hI fun y hy=>cA)) ?_
   rintro _ H2 n2 ⟨hI2,hn2,_⟩
   refine cU ?_
   exact⟨i+1,by omega,_,_,_,Rt.refl _ _ _,cJ,by omega,cZ,hst _ _ _ hI2 fun y hy=>cA⟩
  ·obtain rfl:i=l.length:=by omega
   refine cU ?_
   exact⟨⟨cZ,by rw[List.length_map],hst _ _ _ hI fun y hy=>cA⟩⟩
end Go.Proofs.YtjopoheligmmoaaGreatDoor
end
section
/- Ends compared: the code's Compare and Same. -/
namespace Go.Proofs.YtjopoheligmmoaaGreatDoor
open Go Go.cY Go.Proofs
set_option linter.unusedSimpArgs false
set_option linter.unusedVariables false
theorem HU (p q:dS):Pure Tryz.prog 151 [p.av,q.av] (fun r=>r=i64 (jI p q)):=by
 have c0:=rj p.da q.da
 have c1:=uJ p.word q.word
 have c2:=wT [eW p.da q.da,eW p.word q.word] (by simp)
 refine aI y9 rfl ?_
 refine cU ?_
 refine aS (args2:=[cQ [eW p.da q.da,eW p.word q.word]]) (r:=i64 (jI p q)) c2 rfl (by simp[cX,cI]) trivial ?_
 refine cU ?_
 first|exact rfl|trivial
theorem uy {l:List dS} {i:Nat} (h:i<l.length) (d:AV):(l.map dS.av).getD ((i:Int)).toNat d=(l.getD i default).av:=by
 rw[Int.toNat_natCast];exact dN dS.av l i d h
theorem BF (a b:List dS) (ha:a.length<9223372036854775807):Pure Tryz.prog 150 [fm a,fm b, .fn (.func 151) [] []] (fun r=>r=i64 (eZ jI a b)):=by
 refine aI y8 rfl ?_
 refine cU ?_
 rw[List.length_map]
 refine aM (fun i:Nat=>[(0,fm a),(1,fm b),(2, .fn (.func 151) [] []),(11,fm a),(12,i64 a.length),(13,i64 i)]) (fun i H n=>i≤a.length∧i≤b.length∧eZ jI a b=eZ jI (a.drop i) (b.drop i)) (fun i=>a.length - i) 0 cJ ⟨Nat.zero_le _,Nat.zero_le _,rfl⟩ ?_
 rintro i H n ⟨hi,hib,ho⟩
 rw[ho]
 have a0:(a.map dS.av).length=a.length:=by simp
 have a1:(b.map dS.av).length=b.length:=by simp
 by_cases hil:i<a.length
 ·have e0:=fun d=>uy hil d
  by_cases hbl:i<b.length
  ·have e1:=fun d=>uy hbl d
   have hd:=vo jI default hil hbl
   have c0:=HU (a.getD i default) (b.getD i default)
   generalize a.getD i default=p at *
   generalize b.getD i default=q at *
   by_cases hz:jI p q=0
   ·have r0:=hz
    rw[if_pos hz] at hd
    refine cU ?_
    exact⟨i+1,by omega,cJ,by omega,by omega,hd⟩
   ·have r0:=decide_eq_true hz
    rw[if_neg hz] at hd
    refine cU ?_
    rw[hd]
  ·rw[ru jI hil (by omega)]
   refine cU ?_
   first|exact rfl|trivial
 ·obtain rfl:i=a.length:=by omega
  rw[rl jI (Nat.le_refl _) hib]
  by_cases h:a.length<b.length
  ·rw[if_pos h]
   refine cU ?_
   first|exact rfl|trivial
  ·rw[if_neg h]
   refine cU ?_
   first|exact rfl|trivial
theorem BD (a b:List Int) (ha:a.length<9223372036854775807):Pure Tryz.prog 153 [cQ a,cQ b] (fun r=>r=i64 (eZ eW a b)):=by
 refine aI yb rfl ?_
 refine cU ?_
 rw[List.length_map]
 refine aM (fun i:Nat=>[(0,cQ a),(1,cQ b),(9,cQ a),(10,i64 a.length),(11,i64 i)]) (fun i H n=>i≤a.length∧i≤b.length∧eZ eW a b=eZ eW (a.drop i) (b.drop i)) (fun i=>a.length - i) 0 cJ ⟨Nat.zero_le _,Nat.zero_le _,rfl⟩ ?_
 rintro i H n ⟨hi,hib,ho⟩
 rw[ho]
 have a0:(a.map i64).length=a.length:=by simp
 have a1:(b.map i64).length=b.length:=by simp
 by_cases hil:i<a.length
 ·have e0:=fun d=>ints_at hil d
  by_cases hbl:i<b.length
  ·have e1:=fun d=>ints_at hbl d
   have hd:=vo eW 0 hil hbl
   have c0:=uJ (a.getD i 0) (b.getD i 0)
   generalize a.getD i 0=p at *
   generalize b.getD i 0=q at *
   by_cases hz:eW p q=0
   ·have r0:=hz
    rw[if_pos hz] at hd
    refine cU ?_
    exact⟨i+1,by omega,cJ,by omega,by omega,hd⟩
   ·have r0:=decide_eq_true hz
    rw[if_neg hz] at hd
    refine cU ?_
    rw[hd]
  ·rw[ru eW hil (by omega)]
   refine cU ?_
   first|exact rfl|trivial
 ·obtain rfl:i=a.length:=by omega
  rw[rl eW (Nat.le_refl _) hib]
  by_cases h:a.length<b.length
  ·rw[if_pos h]
   refine cU ?_
   first|exact rfl|trivial
  ·rw[if_neg h]
   refine cU ?_
   first|exact rfl|trivial
theorem uI (a b:cj) (h1:a.cN.length<9223372036854775807) (h2:a.mem.length<9223372036854775807):Pure Tryz.prog 96 [a.av,b.av] (fun r=>r=i64 (fp a b)):=by
 have c0:=BF a.cN b.cN h1
 have c1:=BD a.mem b.mem h2
 have c2:=wT [eZ jI a.cN b.cN,eZ eW a.mem b.mem,vl a.ended b.ended] (by simp)
 obtain⟨ap,am,ae⟩:=a
 obtain⟨bp,bm,be⟩:=b
 cases ae<;>cases be<;>(refine aI OJ rfl ?_;refine cU ?_;refine aS (args2:=[cQ [eZ jI ap bp,eZ eW am bm,_]]) (r:=i64 (sn [eZ jI ap bp,eZ eW am bm,_])) c2 rfl (by simp[cX,cI]) trivial ?_;refine cU ?_;first|exact rfl|trivial)
theorem nu (a b:cj) (h1:a.cN.length<9223372036854775807) (h2:a.mem.length<9223372036854775807):Pure Tryz.prog 98 [a.av,b.av] (fun r=>r=bl (decide (fp a b=0))):=by
 have c0:=uI a b h1 h2
 refine aI OK rfl ?_
 refine cU ?_
 refine ew ?_
 simp
end Go.Proofs.YtjopoheligmmoaaGreatDoor
end
section
/- Ends compared: the document's Compare; the plain laws. -/
namespace Go.Proofs.YtjopoheligmmoaaGreatDoor
open Go Go.cY Go.Proofs
set_option linter.unusedSimpArgs false
set_option linter.unusedVariables false
theorem QP (x:Int):eW x x=0:=by unfold eW;simp
end Go.Proofs.YtjopoheligmmoaaGreatDoor
end
section
/- Ends compared: the order's plain laws. -/
namespace Go.Proofs.YtjopoheligmmoaaGreatDoor
open Go Go.cY Go.Proofs
set_option linter.unusedSimpArgs false
set_option linter.unusedVariables false
theorem rk (x y:Int):eW y x=-eW x y:=by
 unfold eW
 repeat' (first|omega|split)
theorem wS:∀l:List Int,sn (l.map (-·))=-sn l
 |[]=>rfl
 |x::l=>by
  simp only[List.map_cons,sn]
  by_cases h:x=0
  ·rw[if_pos (by omega),if_pos h];exact wS l
  ·rw[if_neg (by omega),if_neg h]
theorem LX (p q:dS):jI q p=-jI p q:=by
 unfold jI
 rw[←wS,rk p.da,rk p.word];rfl
theorem rn {α:Type} {f:α→α→Int} (hf:∀x y,f y x=-f x y):∀a b:List α,eZ f b a=-eZ f a b
 |[],[]=>rfl
 |[],_::_=>rfl
 |_::_,[]=>rfl
 |x::a,y::b=>by
  rw[eZ,eZ,hf x y]
  by_cases h:f x y=0
  ·rw[if_pos (by omega),if_pos h];exact rn hf a b
  ·rw[if_neg (by omega),if_neg h]
theorem LV (a b:Bool):vl b a=-vl a b:=by cases a<;>cases b<;>rfl
theorem LW (a b:cj):fp b a=-fp a b:=by
 unfold fp
 rw[←wS,rn LX a.cN,rn rk a.mem,LV a.ended];rfl
theorem zj {l:List Int}:sn l=0↔∀x∈l,x=0:=by
 induction l with
 |nil=>simp[sn]
 |cons x l ih=>
  rw[sn]
  by_cases h:x=0
  ·rw[if_pos h,ih];simp[h]
  ·rw[if_neg h];simp[h]
theorem kH {x y:Int}:eW x y=0↔x=y:=by
 constructor
 ·unfold eW;intro h;revert h;repeat' (first|omega|split)
 ·rintro rfl;exact QP _
theorem pf {p q:dS}:jI p q=0↔p=q:=by
 unfold jI
 rw[zj]
 simp only[List.mem_cons,List.not_mem_nil,or_false,forall_eq_or_imp,forall_eq,kH]
 constructor
 ·rintro⟨h1,h2⟩;cases p;cases q;simp_all
 ·rintro rfl;exact⟨rfl,rfl⟩
theorem kI {α:Type} {f:α→α→Int} (hf:∀x y,f x y=0↔x=y):∀a b:List α,eZ f a b=0↔a=b
 |[],[]=>by simp[eZ]
 |[],_::_=>by simp[eZ]
 |_::_,[]=>by simp[eZ]
 |x::a,y::b=>by
  rw[eZ]
  by_cases h:f x y=0
  ·rw[if_pos h,kI hf a b]
   have:=(hf x y).1 h
   simp[this]
  ·rw[if_neg h]
   have:x≠y:=fun e=>h ((hf x y).2 e)
   simp[h,this]
theorem pe {a b:cj}:fp a b=0↔a=b:=by
 unfold fp
 rw[zj]
 simp only[List.mem_cons,List.not_mem_nil,or_false,forall_eq_or_imp,forall_eq,kI (fun x y=>pf),kI (fun x y=>kH)]
 constructor
 ·rintro⟨h1,h2,h3⟩
  obtain⟨ap,am,ae⟩:=a
  obtain⟨bp,bm,be⟩:=b
  cases ae<;>cases be<;>simp_all[vl]
 ·rintro rfl
  exact⟨rfl,rfl,by cases a.ended<;>rfl⟩
end Go.Proofs.YtjopoheligmmoaaGreatDoor
end
section
/- Count; the closures that ends, ways and what is shown hand to the exploring. -/
namespace Go.Proofs.YtjopoheligmmoaaGreatDoor
open Go Go.cY Go.Proofs
set_option linter.unusedSimpArgs false
set_option linter.unusedVariables false
set_option maxRecDepth 8000
open Classical in
noncomputable def eE (u:bu) (most:Int):Int×List cT:=
 if ¬cS u then(60,[]) else if ¬(1≤most∧most≤65536) then(2,[]) else match gT u most.toNat with
  |none=>(3,[])
  |some l=>(0,l)
theorem oJ {u:bu} {most:Int} (h:¬cS u):eE u most=(60,[]):=by unfold eE;rw[if_pos h]
theorem kg {u:bu} {most:Int} (h:cS u) (hm:¬(1≤most∧most≤65536)):eE u most=(2,[]):=by unfold eE;rw[if_neg (fun e=>e h),if_pos hm]
theorem oK {u:bu} {most:Int} (h:cS u) (hm:1≤most∧most≤65536):eE u most=(match gT u most.toNat with|none=>(3,[])|some l=>(0,l)):=by unfold eE;rw[if_neg (fun e=>e h),if_neg (fun e=>e hm)]
def dQ (u:bu) (l:List cT) (k:Nat):List cj:=(l.take k).filterMap fun f=>if f.m.stuck u then some (f.m.end_ u) else none
theorem x6 {u:bu} {l:List cT} {k:Nat} (hk:k<l.length):dQ u l (k+1)=dQ u l k++(if(l.getD k default).m.stuck u then[(l.getD k default).m.end_ u] else[]):=by
 unfold dQ
 rw[List.take_succ_eq_append_getElem hk,List.filterMap_append,show l.getD k default=l[k] by simp[List.getD,hk]]
 congr 1
 simp only[List.filterMap_cons,List.filterMap_nil]
 split
 ·rename_i h;split at h<;>simp_all
 ·rename_i h;split at h<;>simp_all
theorem ku (u:bu) (l:List cT) (k:Nat):(dQ u l k).length≤k:=by
 unfold dQ
 refine Nat.le_trans (List.length_filterMap_le _ _) ?_
 rw[List.length_take];omega
set_option maxHeartbeats 1000000 in
theorem EO {u:bu} (hr:cS u) {l:List cT} (hf:gy u l) (hl:l.length≤65536) {k:Nat} (hk:k<l.length) {ub ob o:Nat} {H:Hp} {nx:Nat} (h1:ub<nx) (h2:ob<nx) (h3:o<nx) (hne:ob≠o)
 (r1:∃d,br H ub=some (.row 25 3 d [u.av])) (r2:∃d,br H ob=some (.row 41 1 d [.sl o (dQ u l k).length])) (r3:∃d,br H o=some (.row 105 3 d ((dQ u l k).map cj.av))):
 cH Tryz.prog 93 [kJ u l,i64 k, .pt ub 1 0 0, .pt ob 1 0 0] H nx (fun _ H' n=>(∃d,br H' ob=some (.row 41 1 d [.sl o (dQ u l (k+1)).length]))∧(∃d,br H' o=some (.row 105 3 d ((dQ u l (k+1)).map cj.av)))∧nx≤n∧∀y,y<nx→y≠ob→y≠o→br H' y=br H y):=by
 obtain⟨d1,r1⟩:=r1
 obtain⟨d2,r2⟩:=r2
 obtain⟨d3,r3⟩:=r3
 have hel:=ku u l k
 obtain⟨hm,hp⟩:=hf.ok k hk
 have e0:∀d,(l.map (cT.av u)).getD ((k:Int)).toNat d= .agg [(l.getD k default).m.fz u,i64 (l.getD k default).from_,i64 (l.getD k default).da]:=fun d=>by rw[Int.toNat_natCast];exact dN (cT.av u) l k d hk
 have a0:(l.map (cT.av u)).length=l.length:=by simp
 have a1:((dQ u l k).map cj.av).length=(dQ u l k).length:=by simp
 have c0:=ux u hr (l.getD k default).m hm (by omega) (by have:=hm.ml;have:=hr.ql;omega)
 rw[x6 hk]
 generalize (l.getD k default).m=m at *
 cases hs:m.stuck u with
 |true=>
  rw[lG,hs] at c0
  refine aL JK rfl ?_
  refine cU ?_
  refine⟨⟨⟨_,by simp only[List.length_append,if_true,List.length_cons,List.length_nil];exact bw⟩,⟨_,by simp only[List.map_append,if_true,List.map_cons,List.map_nil];exact bw⟩,cZ,fun y y1 y2 y3=>cA⟩⟩
 |false=>
  rw[lG,hs] at c0
  refine aL JK rfl ?_
  refine cU ?_
  refine⟨⟨⟨_,by rw[if_neg (by decide),List.append_nil];exact bw⟩,⟨_,by rw[if_neg (by decide),List.append_nil];exact bw⟩,cZ,fun y y1 y2 y3=>cA⟩⟩
end Go.Proofs.YtjopoheligmmoaaGreatDoor
end
section
/- Shows: the walk. -/
namespace Go.Proofs.YtjopoheligmmoaaGreatDoor
open Go Go.cY Go.Proofs
set_option linter.unusedSimpArgs false
set_option linter.unusedVariables false
set_option maxRecDepth 8000
end Go.Proofs.YtjopoheligmmoaaGreatDoor
end
section
/- Way: what it does to its list; the way back. -/
namespace Go.Proofs.YtjopoheligmmoaaGreatDoor
open Go Go.cY Go.Proofs
set_option linter.unusedSimpArgs false
set_option linter.unusedVariables false
set_option maxRecDepth 8000
def kV (l:List Int) (i:Nat):List Int:=(List.range l.length).map fun q=>if q<i∨l.length≤q+i then l.getD (l.length - 1 - q) 0 else l.getD q 0
theorem gh (l:List Int) (i:Nat):(kV l i).length=l.length:=by simp[kV]
theorem mu {l:List Int} {i q:Nat} (h:q<l.length):(kV l i).getD q 0=if q<i∨l.length≤q+i then l.getD (l.length - 1 - q) 0 else l.getD q 0:=by simp[kV,List.getD,h]
theorem J9 (l:List Int):kV l 0=l:=by
 apply List.ext_getElem (gh l 0)
 intro q h1 h2
 have:=mu (l:=l) (i:=0) h2
 rw[if_neg (by omega)] at this
 simpa[List.getD,h1,h2] using this
theorem O7 {l:List Int} {i:Nat} (h:l.length≤2 * i+1):kV l i=l.reverse:=by
 apply List.ext_getElem (by simp[gh])
 intro q h1 h2
 have hq:q<l.length:=by simpa using h2
 have:=mu (l:=l) (i:=i) hq
 rw[show(kV l i).getD q 0=(kV l i)[q] by simp[List.getD,h1]] at this
 rw[this,List.getElem_reverse]
 split
 ·simp[List.getD,show l.length - 1 - q<l.length by omega]
 ·have:q=l.length - 1 - q:=by omega
  conv=>lhs;rw[this]
  simp[List.getD,show l.length - 1 - q<l.length by omega]
theorem J8 {l:List Int} {i:Nat} (h:2 * i+1<l.length):((kV l i).set i (l.getD (l.length - 1 - i) 0)).set (l.length - 1 - i) (l.getD i 0)=kV l (i+1):=by
 apply List.ext_getElem (by simp[gh])
 intro q h1 h2
 have hq:q<l.length:=by simpa[gh] using h2
 have e1:=mu (l:=l) (i:=i) hq
 have e2:=mu (l:=l) (i:=i+1) hq
 rw[show(kV l (i+1)).getD q 0=(kV l (i+1))[q] by simp[List.getD,h2]] at e2
 rw[show(kV l i).getD q 0=(kV l i)[q]'(by rw[gh];exact hq) by simp[List.getD,gh,hq]] at e1
 rw[e2,List.getElem_set,List.getElem_set,e1]
 by_cases c1:l.length - 1 - i=q
 ·subst c1
  rw[if_pos rfl,if_pos (by omega),show l.length - 1 - (l.length - 1 - i)=i by omega]
 ·rw[if_neg c1]
  by_cases c2:i=q
  ·subst c2
   rw[if_pos rfl,if_pos (by omega)]
  ·rw[if_neg c2]
   by_cases c3:q<i∨l.length≤q+i
   ·rw[if_pos c3,if_pos (by omega)]
   ·rw[if_neg c3,if_neg (by omega)]
set_option maxHeartbeats 1000000 in
theorem pJ {b:Nat} {l:List Int} {H:Hp} {nx:Nat} (hb:b<nx) (hl:l.length≤1048576) (r:∃d,br H b=some (.row 3 1 d (l.map i64))):
 cH Tryz.prog 83 [.sl b l.length] H nx (fun _ H' n=>(∃d,br H' b=some (.row 3 1 d (l.reverse.map i64)))∧nx≤n∧∀y,y<nx→y≠b→br H' y=br H y):=by
 obtain⟨d0,r0'⟩:=r
 refine aL OF rfl ?_
 have a0:(l.map i64).length=l.length:=by simp
 refine cU ?_
 refine aM (fun σ:Nat×Int=>[(0, .sl b l.length),(2,i64 σ.1),(3,i64 σ.2)]) (fun σ H2 n=>σ.2=(l.length:Int) - 1 - σ.1∧2 * σ.1≤l.length+1∧nx≤n∧(∃d,br H2 b=some (.row 3 1 d ((kV l σ.1).map i64)))∧∀y,y<nx→y≠b→br H2 y=br H y) (fun σ=>l.length - σ.1) (0,(l.length:Int) - 1) cJ ⟨by simp,by dsimp only;omega,cZ,⟨d0,by rw[J9];exact bw⟩,fun y h1 h2=>cA⟩ ?_
 clear r0' a0
 rintro⟨i,j⟩ H2 n ⟨hj,hi,hn,⟨d,r1⟩,hk⟩
 dsimp only at hj hi r1 ⊢
 have a0:((kV l i).map i64).length=l.length:=by simp[gh]
 by_cases hc:2 * i+1<l.length
 ·obtain⟨jn,rfl⟩:∃jn:Nat,j=jn:=⟨j.toNat,by omega⟩
  have hjn:jn=l.length - 1 - i:=by omega
  have e0:=fun d=>ints_at (l:=kV l i) (k:=i) (by rw[gh];omega) d
  have e1:=fun d=>ints_at (l:=kV l i) (k:=jn) (by rw[gh];omega) d
  have e2:∀x d,(((kV l i).map i64).set ((i:Int)).toNat x).getD ((jn:Int)).toNat d=i64 ((kV l i).getD jn 0):=fun x d=>by
   rw[getD_set_ne (by omega)];exact e1 d
  have v0:=mu (l:=l) (i:=i) (q:=i) (by omega)
  rw[if_neg (by omega)] at v0
  have v1:=mu (l:=l) (i:=i) (q:=jn) (by omega)
  rw[if_neg (by omega)] at v1
  rw[v0] at e0
  rw[v1] at e1 e2
  have e3:=e2 (i64 (l.getD jn 0))
  clear e2
  have hnx:=J8 hc
  rw[←hjn] at hnx
  refine cU ?_
  refine⟨(i+1,(jn:Int) - 1),by dsimp only;omega,cJ,by dsimp only;omega,by dsimp only;omega,cZ,⟨_,by dsimp only;rw[←hnx,List.map_set,List.map_set];exact bw⟩,fun y h1 h2=>Eq.trans cA (hk y h1 h2)⟩
 ·refine cU ?_
  rw[O7 (by omega)] at r1
  exact⟨⟨d,bw⟩,cZ,fun y h1 h2=>Eq.trans cA (hk y h1 h2)⟩
def iW (l:List cT):Nat→Nat→List Int
 |0,_=>[]
 |f+1,k=>if 0≤(l.getD k default).from_ then(l.getD k default).da::iW l f (l.getD k default).from_.toNat else[]
theorem gy.vx {u:bu} {l:List cT} (h:gy u l) {k:Nat} (hk:k<l.length) (h0:0≤(l.getD k default).from_):(l.getD k default).from_.toNat<k∧0<k:=by
 rcases Nat.eq_zero_or_pos k with e|e
 ·subst e;rw[h.first] at h0;exact absurd h0 (by simp)
 ·obtain⟨k',t,h1,_,_,h2⟩:=h.HQ k e hk
  rw[h2]
  exact⟨by dsimp only;omega,e⟩
theorem rb {u:bu} {l:List cT} (h:gy u l):∀{f g k:Nat},k<l.length→k≤f→k≤g→iW l f k=iW l g k
 |0,0,k,hk,hf,hg=>rfl
 |0,g+1,k,hk,hf,hg=>by
  obtain rfl:k=0:=by omega
  rw[iW,iW,h.first];rfl
 |f+1,0,k,hk,hf,hg=>by
  obtain rfl:k=0:=by omega
  rw[iW,iW,h.first];rfl
 |f+1,g+1,k,hk,hf,hg=>by
  rw[iW,iW]
  split
  ·rename_i h0
   obtain⟨h1,h2⟩:=h.vx hk h0
   rw[rb h (f:=f) (g:=g) (by omega) (by omega) (by omega)]
  ·rfl
abbrev lM (l:List cT) (k:Nat):List Int:=iW l k k
theorem re {u:bu} {l:List cT} (h:gy u l) {k:Nat} (hk:k<l.length) (h0:0≤(l.getD k default).from_):lM l k=(l.getD k default).da::lM l (l.getD k default).from_.toNat:=by
 obtain⟨h1,h2⟩:=h.vx hk h0
 obtain⟨f,rfl⟩:∃f,k=f+1:=⟨k - 1,by omega⟩
 show iW l (f+1) (f+1)=_
 rw[iW,if_pos h0]
 congr 1
 exact rb h (by omega) (by omega) (Nat.le_refl _)
theorem uE {l:List cT} {k:Nat} (h0:¬0≤(l.getD k default).from_):lM l k=[]:=by
 show iW l k k=[]
 cases k with
 |zero=>rfl
 |succ f=>rw[iW,if_neg h0]
theorem uD (l:List cT):∀f k,(iW l f k).length≤f
 |0,k=>Nat.le_refl _
 |f+1,k=>by
  rw[iW]
  split
  ·rw[List.length_cons];have:=uD l f (l.getD k default).from_.toNat;omega
  ·simp
def fK (u:bu) (l:List cT) (e:cj) (k:Nat):Option Nat:=(List.range k).find? fun i=>(l.getD i default).m.stuck u&&decide (fp ((l.getD i default).m.end_ u) e=0)
theorem B5 (u:bu) (l:List cT) (e:cj) (k:Nat):fK u l e (k+1)=match fK u l e k with
 |some i=>some i
 |none=>if(l.getD k default).m.stuck u&&decide (fp ((l.getD k default).m.end_ u) e=0) then some k else none:=by
 unfold fK
 rw[List.range_succ,List.find?_append]
 cases(List.range k).find? fun i=>(l.getD i default).m.stuck u&&decide (fp ((l.getD i default).m.end_ u) e=0) with
 |some i=>rfl
 |none=>
  simp only[Option.none_or,List.find?_cons,List.find?_nil]
  split<;>simp_all
theorem ND {u:bu} {l:List cT} {e:cj} {k i:Nat} (h:fK u l e k=some i):i<k:=by
 have:=List.mem_of_find?_eq_some h
 exact List.mem_range.1 this
def gv (l:List cT):Option Nat→List Int
 |none=>[]
 |some i=>(lM l i).reverse
set_option maxHeartbeats 2000000 in
theorem WR {u:bu} (hr:cS u) {l:List cT} (hf:gy u l) (hl:l.length≤65536) {e:cj} (he1:e.cN.length * 16≤140737488355328) (he2:e.mem.length * 8≤140737488355328) {k:Nat} (hk:k<l.length) {ub ib eb wb W:Nat} {H:Hp} {nx:Nat} (hn:ub<nx∧ib<nx∧eb<nx∧wb<nx∧W<nx) (hne:ub≠ib∧ub≠wb∧ub≠W∧ib≠eb∧ib≠wb∧ib≠W∧eb≠wb∧eb≠W∧wb≠W)
 (r0:∃d,br H ub=some (.row 25 3 d [u.av])) (r1:∃d,br H ib=some (.row 4 1 d [bl (fK u l e k).isSome])) (r2:∃d,br H eb=some (.row 105 3 d [e.av])) (r3:∃d,br H wb=some (.row 31 1 d [.sl W (gv l (fK u l e k)).length])) (r4:∃d,br H W=some (.row 3 1 d ((gv l (fK u l e k)).map i64))):
 cH Tryz.prog 103 [kJ u l,i64 k, .pt ub 1 0 0, .pt ib 1 0 0, .pt eb 1 0 0, .pt wb 1 0 0] H nx (fun _ H' n=>(∃d,br H' ib=some (.row 4 1 d [bl (fK u l e (k+1)).isSome]))∧(∃d,br H' wb=some (.row 31 1 d [.sl W (gv l (fK u l e (k+1))).length]))∧(∃d,br H' W=some (.row 3 1 d ((gv l (fK u l e (k+1))).map i64)))∧nx≤n∧∀y,y<nx→y≠ib→y≠wb→y≠W→br H' y=br H y):=by
 obtain⟨d0,r0'⟩:=r0
 obtain⟨d1,r1'⟩:=r1
 obtain⟨d2,r2'⟩:=r2
 obtain⟨d3,r3'⟩:=r3
 obtain⟨d4,r4'⟩:=r4
 obtain⟨n0,n1,n2,n3,n4⟩:=hn
 obtain⟨m0,m1,m2,m3,m4,m5,m6,m7,m8⟩:=hne
 obtain⟨hm,hp⟩:=hf.ok k hk
 have e0:∀d,(l.map (cT.av u)).getD ((k:Int)).toNat d= .agg [(l.getD k default).m.fz u,i64 (l.getD k default).from_,i64 (l.getD k default).da]:=fun d=>by rw[Int.toNat_natCast];exact dN (cT.av u) l k d hk
 have a0:(l.map (cT.av u)).length=l.length:=by simp
 have hgl:=hr.ql
 have hml:=hm.ml
 have c0:=ux u hr (l.getD k default).m hm (by omega) (by omega)
 have c1:=nu ((l.getD k default).m.end_ u) e (by show(l.getD k default).m.cN.length<_;omega) (by show(l.getD k default).m.mem.length<_;omega)
 rw[B5]
 cases hh:fK u l e k with
 |some i=>
  rw[hh] at r1' r3' r4'
  dsimp only
  generalize (l.getD k default).m=m at *
  cases hs:m.stuck u with
  |true=>
   rw[lG,hs] at c0
   refine aL oi rfl ?_
   refine cU ?_
   exact⟨⟨_,bw⟩,⟨_,bw⟩,⟨_,bw⟩,cZ,fun y y1 y2 y3 y4=>cA⟩
  |false=>
   rw[lG,hs] at c0
   refine aL oi rfl ?_
   refine cU ?_
   exact⟨⟨_,bw⟩,⟨_,bw⟩,⟨_,bw⟩,cZ,fun y y1 y2 y3 y4=>cA⟩
 |none=>
  rw[hh] at r1' r3' r4'
  dsimp only
  by_cases hs:(l.getD k default).m.stuck u=true
  ·rw[lG,hs] at c0
   by_cases hc:fp ((l.getD k default).m.end_ u) e=0
   ·rw[hs,decide_eq_true hc,if_pos (by rfl)]
    rw[decide_eq_true hc] at c1
    refine aL oi rfl ?_
    refine cU ?_
    clear c0 c1 e0 r0' r2'
    have hway:gv l none=[]:=rfl
    rw[hway] at r3' r4'
    refine aM (fun σ:Nat×List Int=>[(0,kJ u l),(5, .pt wb 1 0 0),(10,i64 σ.1)])
     (fun σ H2 n=>σ.1<l.length∧σ.2++lM l σ.1=lM l k∧nx≤n∧(∃d,br H2 ib=some (.row 4 1 d [bl true]))∧(∃d,br H2 wb=some (.row 31 1 d [.sl W σ.2.length]))∧(∃d,br H2 W=some (.row 3 1 d (σ.2.map i64)))∧∀y,y<nx→y≠ib→y≠wb→y≠W→br H2 y=br H y) (fun σ=>σ.1) (k,[]) cJ
     ⟨hk,rfl,cZ,⟨_,bw⟩,⟨_,bw⟩,⟨_,bw⟩,fun y y1 y2 y3 y4=>cA⟩ ?_
    clear r1' r3' r4'
    rintro⟨at_,acc⟩ H2 n ⟨hat,hacc,hn2,⟨d1,r1'⟩,⟨d3,r3'⟩,⟨d4,r4'⟩,hkp⟩
    dsimp only at hat hacc r3' r4' ⊢
    have hbl:=uD l k k
    have hal:acc.length≤65536:=by
     have:=congrArg List.length hacc
     rw[List.length_append] at this
     have:(lM l k).length≤k:=hbl
     omega
    have a1:(acc.map i64).length=acc.length:=by simp
    have e0:∀d,(l.map (cT.av u)).getD ((at_:Int)).toNat d= .agg [(l.getD at_ default).m.fz u,i64 (l.getD at_ default).from_,i64 (l.getD at_ default).da]:=fun d=>by rw[Int.toNat_natCast];exact dN (cT.av u) l at_ d hat
    by_cases h0:0≤(l.getD at_ default).from_
    ·obtain⟨hlt,hpos⟩:=hf.vx hat h0
     have hon:=re hf hat h0
     obtain⟨q,hq⟩:∃q:Nat,(l.getD at_ default).from_=q:=⟨_,(Int.toNat_of_nonneg h0).symm⟩
     rw[hq] at e0 hlt hon
     rw[Int.toNat_natCast] at hlt hon
     have hge:¬(q:Int)<0:=by omega
     refine cU ?_
     refine⟨(q,acc++[(l.getD at_ default).da]),hlt,cJ,by dsimp only;omega,by dsimp only;rw[List.append_assoc,List.singleton_append,←hon];exact hacc,cZ,⟨_,bw⟩,⟨_,by dsimp only;rw[List.length_append];exact bw⟩,⟨_,by dsimp only;rw[List.map_append];exact bw⟩,fun y y1 y2 y3 y4=>Eq.trans cA (hkp y y1 y2 y3 y4)⟩
    ·have hon:=uE h0
     rw[hon,List.append_nil] at hacc
     subst hacc
     refine cU ?_
     refine aJ (pJ (b:=W) (l:=lM l k) ?_ (by omega) ?_) ?_
     ·exact cZ
     ·exact⟨_,bw⟩
     rintro _ H3 n3 ⟨⟨d5,r5⟩,hn3,hk3⟩
     have q1:=hk3 ib cZ (by omega)
     have q2:=hk3 wb cZ (by omega)
     refine cU ?_
     exact⟨⟨d1,q1.trans bw⟩,⟨d3,by simp only[gv,List.length_reverse];exact q2.trans bw⟩,⟨d5,bw⟩,cZ,fun y y1 y2 y3 y4=>(hk3 y cZ y4).trans (Eq.trans cA (hkp y y1 y2 y3 y4))⟩
   ·rw[hs,decide_eq_false hc,if_neg (by decide)]
    rw[decide_eq_false hc] at c1
    refine aL oi rfl ?_
    refine cU ?_
    exact⟨⟨_,bw⟩,⟨_,bw⟩,⟨_,bw⟩,cZ,fun y y1 y2 y3 y4=>cA⟩
  ·have hs2:(l.getD k default).m.stuck u=false:=by simpa using hs
   rw[lG,hs2] at c0
   rw[hs2,Bool.false_and,if_neg (by decide)]
   refine aL oi rfl ?_
   refine cU ?_
   exact⟨⟨_,bw⟩,⟨_,bw⟩,⟨_,bw⟩,cZ,fun y y1 y2 y3 y4=>cA⟩
end Go.Proofs.YtjopoheligmmoaaGreatDoor
end
