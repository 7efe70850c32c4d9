import Derived.Test.YtekfmjjmihomlaaGreatDoorM38
import Derived.Test.YtekfmjjmihomlaaGreatDoorM40
import Derived.Test.YtekfmjjmihomlaaGreatDoorM41
import Derived.Lib.ItoaLen
import Derived.Test.YtekfmjjmihomlaaGreatDoorM36
namespace Go.Proofs.YtekfmjjmihomlaaGreatDoor
open Go Go.cw Go.Proofs
set_option linter.unusedSimpArgs false
set_option linter.unusedVariables false
set_option maxRecDepth 8000
section
def nP (S:List Nat) (H:Hp):Hp:=S.map fun y=>(y,bo H y)
theorem CD {S:List Nat} {H:Hp} {y:Nat} (h:y∈S):bo (nP S H) y=bo H y:=by
 induction S with
 |nil=>cases h
 |cons x S ih=>
  rw[nP,List.map_cons]
  by_cases e:y=x
  ·subst e;exact cq _ _ _
  ·rw[cX e]
   exact ih (by simpa[e] using h)
theorem KJ {S:List Nat} {H:Hp} {y:Nat} {q:fA} (h:bo (nP S H) y=some q):bo H y=some q:=by
 have:y∈S:=by
  have:=pe h
  simpa[nP] using this
 rw[CD this] at h;exact h
theorem ed {S:List Nat} {H H2:Hp} {y:Nat} (h:y∉S):bo (oM (nP S H) H2) y=bo H2 y:=iB (by simpa[nP] using h)
section
variable {u:bq} {m:MS} {L:ML} {H:Hp}
theorem ML.At.wW (h:L.At u m H) (k:Nat):Go.cw.jQ (nP L.all H) (k+4) (.pt L.mr 1 0 0)=m.fz u:=by
 have h:=h.keep (H':=nP L.all H) fun y hy=>CD hy
 generalize nP L.all H=G at *
 obtain⟨d1,h1⟩:=h.rM
 obtain⟨d2,h2⟩:=h.rA
 obtain⟨d3,h3⟩:=h.rS
 obtain⟨d4,h4⟩:=h.rE
 obtain⟨d5,h5⟩:=h.rH
 obtain⟨d6,h6⟩:=h.rP
 have hsl:(ef L.ids m.bw).length=m.bw.length:=wv h.len
 have hs:(ef L.ids m.bw).map (Go.cw.jQ G (k+1))=m.bw.map de:=by
  apply List.ext_getElem (by simp[hsl])
  intro t q1 q2
  have ht:t<m.bw.length:=by simpa using q2
  have hti:t<L.ids.length:=by rw[h.len];exact ht
  obtain⟨d,hd⟩:=h.rL t ht
  rw[show L.ids.getD t 0=L.ids[t] by simp[List.getD,hti],show m.bw.getD t []=m.bw[t] by simp[List.getD,ht]] at hd
  rw[List.getElem_map,List.getElem_map]
  simp only[ef,List.getElem_map,List.getElem_zip]
  rw[ng hd (by simp),gT _ ((cI _ _).2 fun _ _=>by simp[cF])]
 rw[show Go.cw.jQ G (k+4) (.pt L.mr 1 0 0)= .ip 8 .any ([m.rows u L.a L.s L.me L.ho L.pr].map (Go.cw.jQ G (k+3))) 0 0 from SC h1 rfl]
 simp only[List.map_cons,List.map_nil,MS.rows]
 rw[z8]
 simp only[List.map_cons,List.map_nil]
 rw[ng h2 (by simp),ng h3 hsl,ng h4 (by simp),ng h5 (by simp),ng h6 (by simp),hs]
 rw[gT _ ((cI _ _).2 fun _ _=>by simp[cF]),gT _ ((cI _ _).2 fun _ _=>by simp[cF]),gT _ ((cI _ _).2 fun _ _=>by simp[cF]),gT _ ((cI _ _).2 fun _ _=>by simp[cF])]
 rw[lJ _ (show cF 0 (cg u.shared) by simp[cF,cI]),lJ _ (show cF 0 (cg u.cE) by simp[cF,cI]),lJ _ (show cF 0 (dS u.br) by simp[cF,cI])]
 rfl
end
def c8.cells (u:bq) (f:c8):List AV:=[f.m.fz u,i64 f.from_,i64 f.cn]
abbrev c8.av (u:bq) (f:c8):AV:= .agg (f.cells u)
abbrev pb (u:bq) (l:List c8):AV:= .im 3 .any (l.map (c8.av u))
@[simp] theorem IL (n:Nat) (u:bq) (f:c8):cT n (f.cells u):=by
  have:=qj n u f.m
  simp[c8.cells,cT,cF]
theorem DG (u:bq) (l:List c8):cT 0 (l.map (c8.av u)):=(cI _ _).2 fun _ _=>by simp only[c8.av,cF];exact IL _ _ _
theorem wO {u:bq} {m:MS} {L:ML} {H:Hp} {lb nx:Nat} {d:AV} {l:List c8} {fr th:Int} (hM:L.At u m H) (hl:bo H lb=some (.row 64 3 d (l.map (c8.av u)++[.agg [.pt L.mr 1 0 0,i64 fr,i64 th]]))) (hlb:lb∉L.all):
 Wk .any H nx .any (oM (nP L.all H) ((lb,some (.row 64 3 .any ((l++[(⟨m,fr,th⟩:c8)]).map (c8.av u))))::H)) nx:=by
 have:=Wk.jQ (nx:=nx) (nP L.all H) 5 .any hl (fun b q hq=>KJ hq)
 rw[List.map_append,gT _ (DG u l),List.map_cons,List.map_nil,z8,List.map_cons,List.map_cons,List.map_cons,List.map_nil,hM.wW 0,lJ _ (show cF 0 (i64 fr) by simp[cF]),lJ _ (show cF 0 (i64 th) by simp[cF])] at this
 rw[List.map_append]
 exact this
end
theorem nb {α:Type} (f:α->List UInt8) (k:Nat):∀l:List α,(∀a∈l,(f a).length<=k)->(l.flatMap f).length<=l.length * k
 |[],_=>by simp
 |a::l,h=>by
  have h1:=nb f k l fun b hb=>h b (by simp[hb])
  have h2:=h a (by simp)
  rw[List.flatMap_cons,List.length_append,List.length_cons,Nat.add_mul]
  omega
theorem nt {x:Int} (e:List UInt8) (h:eW x):(eU x e).length<=21+e.length:=by
 have:=Go.Lib.itoa_length_le x h.1 (by have:=h.2;omega)
 unfold eU
 rw[List.length_append]
 omega
theorem ep.VV {u:bq} {m:MS} (hr:cN u) (h:ep u m):(gz m).length<=100000000+m.cC.length * 50:=by
 have hf:=hr.yu
 have hal:=h.mK
 have hml:=h.ml
 have hhl:=h.hl
 have hn:∀t,t<u.br.length->(u.gr t).nodes.length<=4096/\(u.gr t).bw<=4160:=fun t ht=>⟨(hr.gr ht).len.2,(hr.gr ht).bw.2⟩
 have h1:((List.range m.at_.length).flatMap (uz m)).length<=(List.range m.at_.length).length * 100000:=by
  refine nb _ _ _ fun t ht=> ?_
  have ht:=List.mem_range.1 ht
  have hat:=h.iL t (by omega)
  obtain⟨n1,n2⟩:=hn t (by omega)
  have hs:=h.yS t (by omega)
  have a1:=nt (x:=m.at_.getD t 0) [44] ⟨by omega,by omega⟩
  have a2:=nb (fun w=>eU w [44]) 22 (m.bw.getD t []) fun w hw=>nt [44] (h.E9 t (by omega) w hw)
  have e:(uz m t).length=(eU (m.at_.getD t 0) [44]).length+((m.bw.getD t []).flatMap (fun w=>eU w [44])).length+1:=by simp only[uz,List.length_append,List.length_cons,List.length_nil]
  simp only[List.length_cons,List.length_nil] at a1
  rw[e]
  omega
 rw[List.length_range] at h1
 have h2:=nb (fun w=>eU w [44]) 22 m.mem fun w hw=>nt [44] (h.mw w hw)
 have h3:=nb (fun w=>eU w [44]) 22 m.hold fun w hw=>nt [44] (by have:=h.hw w hw;exact⟨by omega,by omega⟩)
 have h4:=nb yC 50 m.cC fun p hp=>by
  obtain⟨p1,p2,p3⟩:=h.pw p hp
  have a1:=nt (x:=p.cn) [58] ⟨by omega,by omega⟩
  have a2:=nt (x:=p.word) [44] p3
  simp only[List.length_cons,List.length_nil] at a1 a2
  unfold yC
  rw[List.length_append]
  omega
 rw[xq]
 omega
theorem ep.YX {u:bq} {m:MS} (hr:cN u) (h:ep u m) (hp:m.cC.length<=1048576):ZP m:=by
 have hf:=hr.yu
 refine⟨fun w hw=> ?_,by rw[h.sl,h.mK],fun l hl w hw=> ?_,h.mw,fun w hw=> ?_,fun p hp=> ?_, ?_⟩
 ·obtain⟨t,ht,rfl⟩:=List.mem_iff_getElem.1 hw
  have h1:=h.iL t (by rw[<-h.mK];exact ht)
  have h2:=(hr.gr (t:=t) (by rw[<-h.mK];exact ht)).len.2
  rw[show m.at_.getD t 0=m.at_[t] by simp[List.getD,ht]] at h1
  exact⟨by omega,by omega⟩
 ·obtain⟨t,ht,rfl⟩:=List.mem_iff_getElem.1 hl
  have:=h.E9 t (by rw[<-h.sl];exact ht) w
  rw[show m.bw.getD t []=m.bw[t] by simp[List.getD,ht]] at this
  exact this hw
 ·have:=h.hw w hw
  exact⟨by omega,by omega⟩
 ·obtain⟨p1,p2,p3⟩:=h.pw p hp
  exact⟨⟨by omega,by omega⟩,p3⟩
 ·have:=h.VV hr
  omega
theorem T0 {a b:List UInt8} (h:lY a=lY b):a=b:=by
 have:=congrArg (fun x:ByteArray=>x.data.toList) h
 simpa[lY] using this
abbrev jl (l:List c8):List (ByteArray×Int):=l.map fun f=>(lY (gz f.m),1)
abbrev ot (l:List c8):List AV:=lu (fun s:ByteArray=>Value.string s) i64 (jl l)
theorem uK (l:List c8) (k:List UInt8):cm (jl l) (lY k)=if k∈jV l then some 1 else none:=by
 split
 ·rename_i h
  cases hl:cm (jl l) (lY k) with
  |none=>
   exfalso
   refine(jB _ _).1 hl ?_
   rw[List.map_map]
   obtain⟨f,h1,h2⟩:=List.mem_map.1 h
   exact List.mem_map.2 ⟨f,h1,by simp only[Function.comp];rw[h2]⟩
  |some v=>
   have hv:∀(l:List c8),cm (jl l) (lY k)=some v->v=1:=by
    intro l
    induction l with
    |nil=>intro h;cases h
    |cons f l ih=>
     intro h
     rw[jl,List.map_cons,cm] at h
     split at h
     ·cases h;rfl
     ·exact ih h
   rw[hv l hl]
 ·rename_i h
  refine(jB _ _).2 fun hm=>h ?_
  rw[List.map_map] at hm
  obtain⟨f,h1,h2⟩:=List.mem_map.1 hm
  simp only[Function.comp] at h2
  exact List.mem_map.2 ⟨f,h1,T0 h2⟩
theorem JB {l:List c8} {m:MS} {a b:Int} (h:gz m∉jV l):gA (jl l) (lY (gz m)) 1=jl (l++[⟨m,a,b⟩]):=by
 have key:∀E:List (ByteArray×Int),cm E (lY (gz m))=none->gA E (lY (gz m)) 1=E++[(lY (gz m),1)]:=by
  intro E
  induction E with
  |nil=>intro _;rfl
  |cons p E ih=>
   intro hn
   obtain⟨x,y⟩:=p
   rw[cm] at hn
   rw[gA]
   split at hn
   ·cases hn
   ·rename_i hx
    rw[if_neg hx,ih hn];rfl
 rw[key _ (by rw[uK,if_neg h]),jl,jl,List.map_append];rfl
theorem RI (u:bq) (hu:u.Wf) (hr:¬cN u) (most:Int) (g:Nat) (caps:List AV) (H0:Hp) (nx:Nat):cQ Tryz.prog 14 [u.av,i64 most, .fn (.func g) [] caps] H0 nx (fun r H n=>r= .df [i64 0,i64 60]/\nx<=n/\∀y,y<nx->bo H y=bo H0 y):=by
 have c0:=SZ u hu hr
 refine aJ D1 rfl ?_
 refine cz ?_
 exact⟨⟨rfl,cU,fun y hy=>bx⟩⟩
theorem HU (u:bq) (hu:u.Wf) (hr:cN u) (most:Int) (hm:¬(1<=most/\most<=65536)) (g:Nat) (caps:List AV) (H0:Hp) (nx:Nat):cQ Tryz.prog 14 [u.av,i64 most, .fn (.func g) [] caps] H0 nx (fun r H n=>r= .df [i64 0,i64 2]/\nx<=n/\∀y,y<nx->bo H y=bo H0 y):=by
 refine aJ D1 rfl ?_
 refine cz ?_
 refine aG (BJ u hu hr _ _) ?_
 rintro r H1 n1 ⟨L,rfl,hM,hlt,hn1,hk1⟩
 by_cases h1:most<1
 ·refine cz ?_
  exact⟨⟨rfl,cU,fun y hy=>Eq.trans bx ((hk1 y cU).trans bx)⟩⟩
 ·have h2:65536<most:=by omega
  refine cz ?_
  exact⟨⟨rfl,cU,fun y hy=>Eq.trans bx ((hk1 y cU).trans bx)⟩⟩
theorem C5 (u:bq) (hr:cN u) (m:MS) (h:ep u m) (hp:m.cC.length<=1048576) (H0:Hp) (nx:Nat):cQ Tryz.prog 35 [m.fz u] H0 nx (fun r H n=>∃L:ML,r= .pt L.mr 1 0 0/\L.At u m H/\(∀x∈L.all,nx<=x/\x<n)/\nx<=n/\∀y,y<nx->bo H y=bo H0 y):=by
 have hgl:=hr.yu
 refine(C6 u m (by have:=h.mK;omega) (by have:=h.ml;omega) (by have:=h.hl;omega) hp (by have:=h.sl;omega) (fun x hx=> ?_) H0 nx).mono ?_
 ·obtain⟨s,hs,rfl⟩:=List.mem_iff_getElem.1 hx
  have h1:=h.yS s (by rw[<-h.sl];exact hs)
  have h2:=(hr.gr (t:=s) (by rw[<-h.sl];exact hs)).bw.2
  rw[show m.bw.getD s []=m.bw[s] by simp[List.getD,hs]] at h1
  omega
 ·rintro r H n ⟨mr,a,s,me,ho,pr,ids,rfl,h1,h2,h3,h4⟩
  exact⟨⟨mr,a,s,me,ho,pr,ids⟩,rfl,h1,h2,h3,h4⟩
def Q9 (u:bq) (most:Int) (I:Nat->Hp->Prop) (nx:Nat) (H0:Hp) (r:AV) (H:Hp) (n:Nat):Prop:=
 nx<=n/\match jf u most.toNat with
 |none=>r= .df [i64 0,i64 3]/\∀y,y<nx->bo H y=bo H0 y
 |some l=>r= .df [i64 l.length,i64 0]/\I l.length H
set_option maxHeartbeats 4000000 in
theorem K6 (u:bq) (hu:u.Wf) (hr:cN u) (most:Int) (hm:1<=most/\most<=65536) (g:Nat) (caps:List AV) (H0:Hp) (nx:Nat) (I:Nat->Hp->Prop) (hI0:I 0 H0) (hst:∀k H H',I k H->(∀y,y<nx->bo H' y=bo H y)->I k H')
 (hcl:∀l,jf u most.toNat=some l->∀k H n,k<l.length->nx<=n->I k H->cQ Tryz.prog g ([pb u l,i64 k]++caps) H n (fun _ H' n'=>I (k+1) H'/\n<=n'/\∀y,nx<=y->y<n->bo H' y=bo H y)):
 cQ Tryz.prog 14 [u.av,i64 most, .fn (.func g) [] caps] H0 nx (Q9 u most I nx H0):=by
 obtain⟨mo,rfl⟩:∃mo:Nat,most=mo:=⟨most.toNat,by omega⟩
 have hgl:=hr.yu
 unfold Q9
 rw[Int.toNat_natCast] at hcl ⊢
 refine aJ D1 rfl ?_
 refine cz ?_
 refine aG (BJ u hu hr _ _) ?_
 rintro r H1 n1 ⟨L,rfl,hM,hlt,hn1,hk1⟩
 have hF:=jv.init u hu hr
 have hm0:=(hF.ok 0 hF.pos).1
 have hm0':(List.getD (kX u) 0 default).m=eC u:=rfl
 rw[hm0'] at hm0
 have g0:sO true (Value.string (lY (gz (eC u)))) [] (i64 1)=some (ot (kX u)):=rfl
 have h65:(65536:Int)<mo->False:=by omega
 refine cz ?_
 refine aU (xp u (eC u) (hm0.YX hr (by simp[eC]))) (args2:=[(eC u).fz u]) ?_ (by simp[cT,qj]) trivial ?_
 ·rw[List.map_cons,List.map_nil]
  congr 1
  exact(hM.keep fun y hy=>by have:=hlt y hy;exact bx).IQ 2
 refine cz ?_
 have hno:∀y,y<nx+1\/n1<=y->y∉L.all:=fun y hy hm=>by have:=hlt y hm;omega
 refine aT (fun σ:Nat×List c8=>[(1,i64 mo),(2, .fn (.func g) [] caps),(3, .pt nx 1 0 0),(10, .sl (n1+15) σ.2.length),(11, .mp (n1+17)),(12,i64 σ.1)])
  (fun σ H n=>σ.1<=σ.2.length/\σ.2.length<=mo/\jv u σ.2/\vM u mo (mo - σ.1) σ.1 σ.2=jf u mo/\n1+23<=n/\(∃d,bo H nx=some (.row 25 3 d [u.av]))/\(∃d,bo H (n1+15)=some (.row 64 3 d (σ.2.map (c8.av u))))/\(∃e d,bo H (n1+17)=some (.row e 0 d (mapA (ot σ.2))))/\∀y,y<nx->bo H y=bo H0 y) (fun σ=>mo - σ.1) (0,kX u)
  ⟨_,_,_,Rt.wk (wO (lb:=n1+15) (l:=[]) (fr:=-1) (th:=0) (hM.keep ?_) bt (hno _ (by omega))),cG,Nat.zero_le _,by show 1<=mo;omega,hF,rfl,cU,⟨_,(ed (hno _ (by omega))).trans (Eq.trans bx ((hk1 nx (by omega)).trans bt))⟩,⟨_,(ed (hno _ (by omega))).trans bt⟩,⟨_,_,(ed (hno _ (by omega))).trans bt⟩,fun y hy=>(ed (hno _ (by omega))).trans (Eq.trans bx ((hk1 y cU).trans bx))⟩ ?_
 ·intro y hy
  have:=hlt y hy
  exact bx
 clear hM hlt hk1 hno
 rintro⟨k,l⟩ H n ⟨hk,hl,hfs,hall,hn,⟨d0,r0'⟩,⟨d1,r1'⟩,⟨e2,d2,r2'⟩,hkp⟩
 dsimp only at hk hl hfs hall r1' r2' ⊢
 by_cases hkl:k<l.length
 ·have e0:∀d,(l.map (c8.av u)).getD ((k:Int)).toNat d=(l.getD k default).av u:=fun d=>by rw[Int.toNat_natCast];exact dN (c8.av u) l k d hkl
  have a0:(l.map (c8.av u)).length=l.length:=by simp
  have hgeq:∀l':List c8,l<+:l'->l'.getD k default=l.getD k default:=fun l' ⟨q,hq⟩=>by rw[<-hq];simp[List.getD,List.getElem?_append,hkl]
  have hmk:mo - k=(mo - (k+1))+1:=by omega
  rw[hmk,vM,if_pos hkl] at hall
  obtain⟨hmok,hpl⟩:=hfs.ok k hkl
  have hmdef:(l.getD k default).m=(l.getD k default).m:=rfl
  generalize hmm:(l.getD k default).m=m at hmok hpl
  have e0':∀d,(l.map (c8.av u)).getD ((k:Int)).toNat d= .agg [m.fz u,i64 (l.getD k default).from_,i64 (l.getD k default).cn]:=fun d=>by rw[e0 d,<-hmm];rfl
  clear e0
  have e0:=e0'
  refine cz ?_
  rw[List.length_map]
  refine aT (fun σ:Nat×List c8=>[(1,i64 mo),(2, .fn (.func g) [] caps),(3, .pt nx 1 0 0),(10, .sl (n1+15) σ.2.length),(11, .mp (n1+17)),(12,i64 k),(13,m.fz u),(52,i64 u.br.length),(53,i64 σ.1)])
   (fun σ H n=>σ.1<=u.br.length/\k<σ.2.length/\σ.2.length<=mo/\jv u σ.2/\(σ.2.getD k default).m=m/\(match yG u mo k ((List.range u.br.length).drop σ.1) σ.2 with
    |none=>none
    |some l2=>vM u mo (mo - (k+1)) (k+1) l2)=jf u mo/\n1+23<=n/\(∃d,bo H nx=some (.row 25 3 d [u.av]))/\(∃d,bo H (n1+15)=some (.row 64 3 d (σ.2.map (c8.av u))))/\(∃e d,bo H (n1+17)=some (.row e 0 d (mapA (ot σ.2))))/\∀y,y<nx->bo H y=bo H0 y) (fun σ=>u.br.length - σ.1) (0,l)
   ⟨_,_,_,Rt.refl _ _ _,cG,Nat.zero_le _,hkl,hl,hfs,hmm,hall,cU,⟨_,bt⟩,⟨_,bt⟩,⟨_,_,bt⟩,fun y hy=>Eq.trans bx (hkp y hy)⟩ ?_
  clear e0 e0' a0 r0' r1' r2' hkp hall hfs hl hkl hgeq hn hmm
  rintro⟨t,l⟩ H n ⟨ht,hkl,hl,hfs,hmm,hall,hn,⟨d0,r0'⟩,⟨d1,r1'⟩,⟨e2,d2,r2'⟩,hkp⟩
  dsimp only at ht hkl hl hfs hmm hall r1' r2' ⊢
  have a0:(l.map (c8.av u)).length=l.length:=by simp
  by_cases htl:t<u.br.length
  ·rw[show(List.range u.br.length).drop t=t::(List.range u.br.length).drop (t+1) by rw[List.drop_eq_getElem_cons (by simpa using htl)];simp,yG] at hall
   have c0:=LJ u hr m hmok t
   by_cases hb:m.l3 u t=0
   ·have hal:=hmok.mK
    refine cz ?_
    refine aG (C5 u hr m hmok (by omega) _ _) ?_
    rintro r H2 n2 ⟨L2,rfl,hM2,hlt2,hn2,hk2⟩
    have hlt2:∀x∈L2.all,n+7<=x/\x<n2:=hlt2
    refine cz ?_
    refine aG (KF hu hr hmok (L:=L2) (hM2.keep ?_) ?_ (by omega) htl hb) ?_
    ·intro y hy
     have:=hlt2 y hy
     exact bx
    ·intro y hy
     have:=hlt2 y hy
     exact cU
    rintro r H3 n3 ⟨rfl,hM3,hn3,hk3⟩
    have hno:∀y,y<n+7\/n2<=y->y∉L2.all:=fun y hy hm=>by have:=hlt2 y hm;omega
    have hold:∀y,y<n->bo H3 y=bo H y:=fun y hy=>(hk3 y cU (hno y (by omega))).trans (Eq.trans bx ((hk2 y cU).trans bx))
    have hlt3:∀x∈L2.all,x<n3:=fun x hx=>by have:=hlt2 x hx;exact Nat.lt_of_lt_of_le this.2 cU
    obtain⟨hk9,_⟩:=jH hmok htl hb
    have hm2:=nz hu hr hmok htl hk9
    have hp2:=sE u m t
    have htry:yO u mo k t l=if gz (m.step u t).1∈jV l then some l else if l.length=mo then none else some (l++[⟨(m.step u t).1,k,t⟩]):=by
     unfold yO
     rw[hmm,if_neg (by omega)]
    rw[htry] at hall
    have hput:=fun(h:gz (m.step u t).1∉jV l)=>JB (l:=l) (m:=(m.step u t).1) (a:=k) (b:=t) h
    have hadd:=fun(h:gz (m.step u t).1∉jV l)=>hfs.add hu hr hkl htl (by rw[hmm];exact hb) (by rw[hmm];exact h)
    rw[hmm] at hadd
    generalize (m.step u t).1=m2 at *
    have hkp3:∀y,y<nx->bo H3 y=bo H0 y:=fun y hy=>(hold y (by omega)).trans (hkp y hy)
    have q0:=(hold nx (by omega)).trans r0'
    have q1:=(hold (n1+15) (by omega)).trans r1'
    have q2:=(hold (n1+17) (by omega)).trans r2'
    have hget:=uU xo i64 (lY (gz m2)) (jl l) (i64 0)
    rw[uK] at hget
    clear hk2 hk3 hM2 r0' r1' r2' hold hkp
    by_cases hin:gz m2∈jV l
    ·rw[if_pos hin] at hget hall
     have g0:qB true (Value.string (lY (gz m2))) (ot l) (i64 0)=some (i64 1,true):=hget
     refine cz ?_
     refine aU (xp u m2 (hm2.YX hr (by omega))) (args2:=[m2.fz u]) ?_ (by simp[cT,qj]) trivial ?_
     ·rw[List.map_cons,List.map_nil]
      congr 1
      exact(hM3.keep fun y hy=>by have:=hlt3 y hy;exact bx).IQ 2
     refine cz ?_
     exact⟨(t+1,l),by dsimp only;omega,_,_,_,Rt.refl _ _ _,cG,by dsimp only;omega,hkl,hl,hfs,hmm,hall,cU,⟨_,bt⟩,⟨_,bt⟩,⟨_,_,bt⟩,fun y hy=>Eq.trans bx (hkp3 y hy)⟩
    ·rw[if_neg hin] at hget hall
     have g0:qB true (Value.string (lY (gz m2))) (ot l) (i64 0)=some (i64 0,false):=hget
     by_cases hfull:l.length=mo
     ·rw[if_pos hfull] at hall
      refine cz ?_
      refine aU (xp u m2 (hm2.YX hr (by omega))) (args2:=[m2.fz u]) ?_ (by simp[cT,qj]) trivial ?_
      ·rw[List.map_cons,List.map_nil]
       congr 1
       exact(hM3.keep fun y hy=>by have:=hlt3 y hy;exact bx).IQ 2
      refine cz ?_
      have hall2:none=jf u mo:=hall
      rw[<-hall2]
      exact⟨⟨cU,rfl,fun y hy=>Eq.trans bx (hkp3 y hy)⟩⟩
     ·rw[if_neg hfull] at hall
      have g1:sO true (Value.string (lY (gz m2))) (ot l) (i64 1)=some (ot (l++[⟨m2,k,t⟩])):=by
       have:=uV xo i64 (lY (gz m2)) 1 (jl l)
       rw[hput hin] at this
       exact this
      refine cz ?_
      refine aU (xp u m2 (hm2.YX hr (by omega))) (args2:=[m2.fz u]) ?_ (by simp[cT,qj]) trivial ?_
      ·rw[List.map_cons,List.map_nil]
       congr 1
       exact(hM3.keep fun y hy=>by have:=hlt3 y hy;exact bx).IQ 2
      refine cz ?_
      have hout:=hno
      refine⟨(t+1,l++[⟨m2,k,t⟩]),by dsimp only;omega,_,_,_,Rt.wk (wO (L:=L2) (lb:=n1+15) (m:=m2) (l:=l) (fr:=k) (th:=t) (hM3.keep ?_) bt (hno _ (by omega))),cG,by dsimp only;omega,by dsimp only;rw[List.length_append];omega,by dsimp only;simp only[List.length_append,List.length_cons,List.length_nil];omega,hadd hin,by dsimp only;rw[fq hkl];exact hmm,hall,cU,⟨_,(ed (hno _ (by omega))).trans bt⟩,⟨_,(ed (hno _ (by omega))).trans bt⟩,⟨_,_,(ed (hno _ (by omega))).trans bt⟩,fun y hy=>(ed (hno _ (by omega))).trans (Eq.trans bx (hkp3 y hy))⟩
      intro y hy
      have:=hlt2 y hy
      have:=hlt3 y hy
      exact bx
   ·have htry:yO u mo k t l=some l:=by
     unfold yO
     rw[hmm,if_pos hb]
    rw[htry] at hall
    refine cz ?_
    exact⟨(t+1,l),by dsimp only;omega,_,_,_,Rt.refl _ _ _,cG,by dsimp only;omega,hkl,hl,hfs,hmm,hall,cU,⟨_,bt⟩,⟨_,bt⟩,⟨_,_,bt⟩,fun y hy=>Eq.trans bx (hkp y hy)⟩
  ·have htG:t=u.br.length:=by omega
   subst htG
   rw[List.drop_of_length_le (by simp),yG] at hall
   refine cz ?_
   exact⟨(k+1,l),by dsimp only;omega,_,_,_,Rt.refl _ _ _,cG,by dsimp only;omega,hl,hfs,hall,cU,⟨_,bt⟩,⟨_,bt⟩,⟨_,_,bt⟩,fun y hy=>Eq.trans bx (hkp y hy)⟩
 ·have hk2:k=l.length:=by omega
  refine cz ?_
  have hl2:jf u mo=some l:=by
   rw[<-hall]
   subst hk2
   cases h:mo - l.length with
   |zero=>rfl
   |succ q=>rw[vM,if_neg (by omega)]
  have hw:=fun(H':Hp) (n':Nat) (hr:bo H' (n1+15)=some (.row 64 3 d1 (l.map (c8.av u))))=>Wk.XQ (r:= .sl (n1+15) l.length) (H:=H') (nx:=n') [(n1+15,some (.row 64 3 d1 (l.map (c8.av u))))] 1 (fun b q hq=>by
   by_cases hb:b=n1+15
   ·subst hb;rw[cq] at hq;rw[<-hq];exact hr
   ·rw[cX hb] at hq;cases hq)
  rw[NC (cq _ _ _) (by simp),uG] at hw
  rw[hl2]
  refine aT (fun i:Nat=>[(2, .fn (.func g) [] caps),(10,pb u l),(86,i64 l.length),(87,i64 i)])
   (fun i H n=>i<=l.length/\nx<=n/\I i H) (fun i=>l.length - i) 0
   ⟨_,_,_,Rt.slot 10 rfl (hw _ _ bt),cG,Nat.zero_le _,cU,hst 0 _ _ hI0 fun y hy=>(cX (by omega)).trans (Eq.trans bx (hkp y hy))⟩ ?_
  clear r0' r1' r2' hkp hw hn
  rintro i H n ⟨hi,hn,hI⟩
  by_cases hil:i<l.length
  ·refine cz ?_
   refine Eq.mpr (iz caps _) ?_
   show jE Tryz.prog g (pb u l::i64 i::caps) _ _ _
   refine aG (hcl l hl2 i _ _ hil cU (hst i H _ hI fun y hy=>bx)) ?_
   rintro _ H2 n2 ⟨hI2,hn2,_⟩
   refine cz ?_
   exact⟨i+1,by omega,_,_,_,Rt.refl _ _ _,cG,by omega,cU,hst _ _ _ hI2 fun y hy=>bx⟩
  ·obtain rfl:i=l.length:=by omega
   refine cz ?_
   exact⟨⟨cU,by rw[List.length_map],hst _ _ _ hI fun y hy=>bx⟩⟩
theorem IC (p q:cy):Pure Tryz.prog 43 [p.av,q.av] (fun r=>r=i64 (gS p q)):=by
 have c0:=LP p.cn q.cn
 have c1:=vv p.word q.word
 have c2:=GW [fQ p.cn q.cn,fQ p.word q.word] (by simp)
 refine aD N7 rfl ?_
 refine cz ?_
 refine aU (args2:=[de [fQ p.cn q.cn,fQ p.word q.word]]) (r:=i64 (gS p q)) c2 rfl (by simp[cT,cF]) trivial ?_
 refine cz ?_
 first|exact rfl|trivial
theorem nr {l:List cy} {i:Nat} (h:i<l.length) (d:AV):(l.map cy.av).getD ((i:Int)).toNat d=(l.getD i default).av:=by
 rw[Int.toNat_natCast];exact dN cy.av l i d h
theorem C4 (a b:List cy) (ha:a.length<9223372036854775807):Pure Tryz.prog 42 [gM a,gM b, .fn (.func 43) [] []] (fun r=>r=i64 (fM gS a b)):=by
 refine aD N6 rfl ?_
 refine cz ?_
 rw[List.length_map]
 refine aI (fun i:Nat=>[(0,gM a),(1,gM b),(2, .fn (.func 43) [] []),(11,gM a),(12,i64 a.length),(13,i64 i)]) (fun i H n=>i<=a.length/\i<=b.length/\fM gS a b=fM gS (a.drop i) (b.drop i)) (fun i=>a.length - i) 0 cG ⟨Nat.zero_le _,Nat.zero_le _,rfl⟩ ?_
 rintro i H n ⟨hi,hib,ho⟩
 rw[ho]
 have a0:(a.map cy.av).length=a.length:=by simp
 have a1:(b.map cy.av).length=b.length:=by simp
 by_cases hil:i<a.length
 ·have e0:=fun d=>nr hil d
  by_cases hbl:i<b.length
  ·have e1:=fun d=>nr hbl d
   have hd:=s8 gS default hil hbl
   have c0:=IC (a.getD i default) (b.getD i default)
   generalize a.getD i default=p at *
   generalize b.getD i default=q at *
   by_cases hz:gS p q=0
   ·have r0:=hz
    rw[if_pos hz] at hd
    refine cz ?_
    exact⟨i+1,by omega,cG,by omega,by omega,hd⟩
   ·have r0:=decide_eq_true hz
    rw[if_neg hz] at hd
    refine cz ?_
    rw[hd]
  ·rw[pY gS hil (by omega)]
   refine cz ?_
   first|exact rfl|trivial
 ·obtain rfl:i=a.length:=by omega
  rw[pX gS (Nat.le_refl _) hib]
  by_cases h:a.length<b.length
  ·rw[if_pos h]
   refine cz ?_
   first|exact rfl|trivial
  ·rw[if_neg h]
   refine cz ?_
   first|exact rfl|trivial
theorem C2 (a b:List Int) (ha:a.length<9223372036854775807):Pure Tryz.prog 47 [de a,de b] (fun r=>r=i64 (fM fQ a b)):=by
 refine aD N9 rfl ?_
 refine cz ?_
 rw[List.length_map]
 refine aI (fun i:Nat=>[(0,de a),(1,de b),(9,de a),(10,i64 a.length),(11,i64 i)]) (fun i H n=>i<=a.length/\i<=b.length/\fM fQ a b=fM fQ (a.drop i) (b.drop i)) (fun i=>a.length - i) 0 cG ⟨Nat.zero_le _,Nat.zero_le _,rfl⟩ ?_
 rintro i H n ⟨hi,hib,ho⟩
 rw[ho]
 have a0:(a.map i64).length=a.length:=by simp
 have a1:(b.map i64).length=b.length:=by simp
 by_cases hil:i<a.length
 ·have e0:=fun d=>ints_at hil d
  by_cases hbl:i<b.length
  ·have e1:=fun d=>ints_at hbl d
   have hd:=s8 fQ 0 hil hbl
   have c0:=vv (a.getD i 0) (b.getD i 0)
   generalize a.getD i 0=p at *
   generalize b.getD i 0=q at *
   by_cases hz:fQ p q=0
   ·have r0:=hz
    rw[if_pos hz] at hd
    refine cz ?_
    exact⟨i+1,by omega,cG,by omega,by omega,hd⟩
   ·have r0:=decide_eq_true hz
    rw[if_neg hz] at hd
    refine cz ?_
    rw[hd]
  ·rw[pY fQ hil (by omega)]
   refine cz ?_
   first|exact rfl|trivial
 ·obtain rfl:i=a.length:=by omega
  rw[pX fQ (Nat.le_refl _) hib]
  by_cases h:a.length<b.length
  ·rw[if_pos h]
   refine cz ?_
   first|exact rfl|trivial
  ·rw[if_neg h]
   refine cz ?_
   first|exact rfl|trivial
theorem vt (a b:dy) (h1:a.cC.length<9223372036854775807) (h2:a.mem.length<9223372036854775807):Pure Tryz.prog 18 [a.av,b.av] (fun r=>r=i64 (fB a b)):=by
 have c0:=C4 a.cC b.cC h1
 have c1:=C2 a.mem b.mem h2
 have c2:=GW [fM gS a.cC b.cC,fM fQ a.mem b.mem,vO a.ended b.ended] (by simp)
 obtain⟨ap,am,ae⟩:=a
 obtain⟨bp,bm,be⟩:=b
 cases ae<;>cases be<;>(refine aD NN rfl ?_;refine cz ?_;refine aU (args2:=[de [fM gS ap bp,fM fQ am bm,_]]) (r:=i64 (mB [fM gS ap bp,fM fQ am bm,_])) c2 rfl (by simp[cT,cF]) trivial ?_;refine cz ?_;first|exact rfl|trivial)
theorem E5 (a b:dy) (h1:a.cC.length<9223372036854775807) (h2:a.mem.length<9223372036854775807):Pure Tryz.prog 20 [a.av,b.av] (fun r=>r=bl (decide (fB a b=0))):=by
 have c0:=vt a b h1 h2
 refine aD NP rfl ?_
 refine cz ?_
 refine dZ ?_
 simp
theorem u7 (b:Bool):Pure Tryz.prog 48 [bl b] (fun r=>r=i64 (if b then -1 else 1)):=by
 cases b<;>(refine aD OA rfl ?_;refine cz ?_;first|exact rfl|trivial)
theorem lP {x:Bool} {v:Int} (h:(if x=true then -1 else 1)=v):Pure Tryz.prog 48 [bl x] (fun r=>r=i64 v):=by
 have:=u7 x
 rw[h] at this
 exact this
theorem RU {p q:cy} (h:p.cn<q.cn\/p.cn=q.cn/\p.word<q.word):gS p q=-1:=by
 unfold gS fQ
 simp only[mB]
 repeat' (first|omega|split)
theorem RT {p q:cy} (h:¬(p.cn<q.cn\/p.cn=q.cn/\p.word<q.word)) (hne:¬(p.cn=q.cn/\p.word=q.word)):gS p q=1:=by
 unfold gS fQ
 simp only[mB]
 repeat' (first|omega|split)
theorem RS {p q:cy} (h:p.cn=q.cn/\p.word=q.word):gS p q=0:=by
 unfold gS fQ
 simp only[mB]
 repeat' (first|omega|split)
theorem RR {x y:Int} (h:x≠y):fQ x y=if x<y then -1 else 1:=by
 unfold fQ;split
 ·rfl
 ·rw[if_pos (by omega)]
theorem F3 (x:Int):fQ x x=0:=by unfold fQ;simp
set_option maxHeartbeats 1000000 in
theorem ES (a b:dy) (h1:a.cC.length<9223372036854775807) (h2:a.mem.length<9223372036854775807):Pure Tryz.prog 21 [a.av,b.av] (fun r=>r=i64 (fB a b)):=by
 have a0:(a.cC.map cy.av).length=a.cC.length:=by simp
 have a1:(b.cC.map cy.av).length=b.cC.length:=by simp
 have a2:(a.mem.map i64).length=a.mem.length:=by simp
 have a3:(b.mem.map i64).length=b.mem.length:=by simp
 refine aD NQ rfl ?_
 refine cz ?_
 refine aI (fun i:Nat=>[(2, .pt 0 1 0 0),(3, .pt 1 1 0 0),(5,i64 i)]) (fun i H n=>2<=n/\(∃d,bo H 0=some (.row 59 3 d [a.av]))/\(∃d,bo H 1=some (.row 59 3 d [b.av]))/\i<=a.cC.length/\i<=b.cC.length/\fM gS a.cC b.cC=fM gS (a.cC.drop i) (b.cC.drop i)) (fun i=>a.cC.length - i) 0 cG ⟨cU,⟨_,bt⟩,⟨_,bt⟩,Nat.zero_le _,Nat.zero_le _,rfl⟩ ?_
 rintro i H n ⟨hn,⟨d0,r0⟩,⟨d1,r1⟩,hi,hib,ho⟩
 by_cases hil:i<a.cC.length
 ·have e0:=fun d=>nr hil d
  by_cases hbl:i<b.cC.length
  ·have e1:=fun d=>nr hbl d
   have hd:=s8 gS default hil hbl
   generalize a.cC.getD i default=p at *
   generalize b.cC.getD i default=q at *
   have g0:=decide_eq_true hil
   have g1:=decide_eq_true hbl
   by_cases hlt:p.cn<q.cn\/p.cn=q.cn/\p.word<q.word
   ·have hc:=RU hlt
    have hE:fB a b=-1:=by unfold fB;rw[ho,hd,hc,if_neg (by decide),mB,if_neg (by decide)]
    rw[hE]
    by_cases h3:p.cn<q.cn
    ·refine cz ?_
     first|exact rfl|trivial
    ·obtain⟨h4,h5⟩:=hlt.resolve_left h3
     have g2:=decide_eq_true h4
     have g3:=decide_eq_true h5
     refine cz ?_
     first|exact rfl|trivial
   ·have g4:¬p.cn<q.cn:=fun e=>hlt (.inl e)
    by_cases heq:p.cn=q.cn/\p.word=q.word
    ·obtain⟨h4,h5⟩:=heq
     have hc:=RS ⟨h4,h5⟩
     rw[hc,if_pos rfl] at hd
     have g5:¬p.word<q.word:=by omega
     refine cz ?_
     exact⟨i+1,by omega,cG,by omega,⟨_,bt⟩,⟨_,bt⟩,by omega,by omega,ho.trans hd⟩
    ·have hc:=RT hlt heq
     have hE:fB a b=1:=by unfold fB;rw[ho,hd,hc,if_neg (by decide),mB,if_neg (by decide)]
     rw[hE]
     refine cz ?_
     first|exact rfl|trivial
  ·have hE:fB a b=1:=by unfold fB;rw[ho,pY gS hil (by omega),mB,if_neg (by decide)]
   rw[hE]
   have hne:a.cC.length≠b.cC.length:=by omega
   have c0:=lP (x:=decide (((a.cC.map cy.av).length:Int)<((b.cC.map cy.av).length:Int))) (v:=1) (by rw[decide_eq_false (by omega)];rfl)
   refine cz ?_
   first|exact rfl|trivial
 ·obtain rfl:i=a.cC.length:=by omega
  rw[pX gS (Nat.le_refl _) hib] at ho
  by_cases hpl:a.cC.length<b.cC.length
  ·rw[if_pos hpl] at ho
   have hE:fB a b=-1:=by unfold fB;rw[ho,mB,if_neg (by decide)]
   rw[hE]
   have hne:a.cC.length≠b.cC.length:=by omega
   have c0:=lP (x:=decide (((a.cC.map cy.av).length:Int)<((b.cC.map cy.av).length:Int))) (v:=-1) (by rw[decide_eq_true (by omega)];rfl)
   refine cz ?_
   first|exact rfl|trivial
  ·rw[if_neg hpl] at ho
   have hpe:b.cC.length=a.cC.length:=by omega
   refine cz ?_
   refine aI (fun i:Nat=>[(2, .pt 0 1 0 0),(3, .pt 1 1 0 0),(8,i64 i)]) (fun i H n=>2<=n/\(∃d,bo H 0=some (.row 59 3 d [a.av]))/\(∃d,bo H 1=some (.row 59 3 d [b.av]))/\i<=a.mem.length/\i<=b.mem.length/\fM fQ a.mem b.mem=fM fQ (a.mem.drop i) (b.mem.drop i)) (fun i=>a.mem.length - i) 0 cG ⟨cU,⟨_,bt⟩,⟨_,bt⟩,Nat.zero_le _,Nat.zero_le _,rfl⟩ ?_
   clear r0 r1 hn
   rintro i H n ⟨hn,⟨d0,r0⟩,⟨d1,r1⟩,hi,hib,hm⟩
   by_cases hil:i<a.mem.length
   ·have e0:=fun d=>ints_at hil d
    by_cases hbl:i<b.mem.length
    ·have e1:=fun d=>ints_at hbl d
     have hd:=s8 fQ 0 hil hbl
     generalize a.mem.getD i 0=p at *
     generalize b.mem.getD i 0=q at *
     have g0:=decide_eq_true hil
     have g1:=decide_eq_true hbl
     by_cases heq:p=q
     ·rw[heq,F3,if_pos rfl] at hd
      refine cz ?_
      exact⟨i+1,by omega,cG,by omega,⟨_,bt⟩,⟨_,bt⟩,by omega,by omega,hm.trans hd⟩
     ·have hc:=RR heq
      by_cases hlt:p<q
      ·rw[if_pos hlt] at hc
       have hE:fB a b=-1:=by unfold fB;rw[ho,hm,hd,hc,if_neg (by decide),mB,if_pos rfl,mB,if_neg (by decide)]
       rw[hE]
       have c0:=lP (x:=decide (p<q)) (v:=-1) (by rw[decide_eq_true hlt];rfl)
       refine cz ?_
       first|exact rfl|trivial
      ·rw[if_neg hlt] at hc
       have hE:fB a b=1:=by unfold fB;rw[ho,hm,hd,hc,if_neg (by decide),mB,if_pos rfl,mB,if_neg (by decide)]
       rw[hE]
       have c0:=lP (x:=decide (p<q)) (v:=1) (by rw[decide_eq_false hlt];rfl)
       refine cz ?_
       first|exact rfl|trivial
    ·have hE:fB a b=1:=by unfold fB;rw[ho,hm,pY fQ hil (by omega),mB,if_pos rfl,mB,if_neg (by decide)]
     rw[hE]
     have hne:a.mem.length≠b.mem.length:=by omega
     have c0:=lP (x:=decide (((a.mem.map i64).length:Int)<((b.mem.map i64).length:Int))) (v:=1) (by rw[decide_eq_false (by omega)];rfl)
     refine cz ?_
     first|exact rfl|trivial
   ·obtain rfl:i=a.mem.length:=by omega
    rw[pX fQ (Nat.le_refl _) hib] at hm
    by_cases hml:a.mem.length<b.mem.length
    ·rw[if_pos hml] at hm
     have hE:fB a b=-1:=by unfold fB;rw[ho,hm,mB,if_pos rfl,mB,if_neg (by decide)]
     rw[hE]
     have hne:a.mem.length≠b.mem.length:=by omega
     have c0:=lP (x:=decide (((a.mem.map i64).length:Int)<((b.mem.map i64).length:Int))) (v:=-1) (by rw[decide_eq_true (by omega)];rfl)
     refine cz ?_
     first|exact rfl|trivial
    ·rw[if_neg hml] at hm
     have hme:b.mem.length=a.mem.length:=by omega
     have hE:fB a b=vO a.ended b.ended:=by
      unfold fB;rw[ho,hm,mB,if_pos rfl,mB,if_pos rfl,mB]
      split<;>simp_all[mB]
     rw[hE]
     obtain⟨ap,am,ae⟩:=a
     obtain⟨bp,bm,be⟩:=b
     have c0:=u7 be
     cases ae<;>cases be<;>(refine cz ?_;first|exact rfl|trivial)
theorem tS (x y:Int):fQ y x=-fQ x y:=by
 unfold fQ
 repeat' (first|omega|split)
theorem xz:∀l:List Int,mB (l.map (-·))=-mB l
 |[]=>rfl
 |x::l=>by
  simp only[List.map_cons,mB]
  by_cases h:x=0
  ·rw[if_pos (by omega),if_pos h];exact xz l
  ·rw[if_neg (by omega),if_neg h]
theorem LR (p q:cy):gS q p=-gS p q:=by
 unfold gS
 rw[<-xz,tS p.cn,tS p.word];rfl
theorem tT {α:Type} {f:α->α->Int} (hf:∀x y,f y x=-f x y):∀a b:List α,fM f b a=-fM f a b
 |[],[]=>rfl
 |[],_::_=>rfl
 |_::_,[]=>rfl
 |x::a,y::b=>by
  rw[fM,fM,hf x y]
  by_cases h:f x y=0
  ·rw[if_pos (by omega),if_pos h];exact tT hf a b
  ·rw[if_neg (by omega),if_neg h]
theorem LO (a b:Bool):vO b a=-vO a b:=by cases a<;>cases b<;>rfl
theorem tR (a b:dy):fB b a=-fB a b:=by
 unfold fB
 rw[<-xz,tT LR a.cC,tT tS a.mem,LO a.ended];rfl
theorem IB (a:dy):fB a a=0:=by
 have:=tR a a
 omega
theorem BP {l:List Int}:mB l=0↔∀x∈l,x=0:=by
 induction l with
 |nil=>simp[mB]
 |cons x l ih=>
  rw[mB]
  by_cases h:x=0
  ·rw[if_pos h,ih];simp[h]
  ·rw[if_neg h];simp[h]
theorem kx {x y:Int}:fQ x y=0↔x=y:=by
 constructor
 ·unfold fQ;intro h;revert h;repeat' (first|omega|split)
 ·rintro rfl;exact F3 _
theorem qg {p q:cy}:gS p q=0↔p=q:=by
 unfold gS
 rw[BP]
 simp only[List.mem_cons,List.not_mem_nil,or_false,forall_eq_or_imp,forall_eq,kx]
 constructor
 ·rintro⟨h1,h2⟩;cases p;cases q;simp_all
 ·rintro rfl;exact⟨rfl,rfl⟩
theorem ky {α:Type} {f:α->α->Int} (hf:∀x y,f x y=0↔x=y):∀a b:List α,fM f a b=0↔a=b
 |[],[]=>by simp[fM]
 |[],_::_=>by simp[fM]
 |_::_,[]=>by simp[fM]
 |x::a,y::b=>by
  rw[fM]
  by_cases h:f x y=0
  ·rw[if_pos h,ky hf a b]
   have:=(hf x y).1 h
   simp[this]
  ·rw[if_neg h]
   have:x≠y:=fun e=>h ((hf x y).2 e)
   simp[h,this]
theorem vu {a b:dy}:fB a b=0↔a=b:=by
 unfold fB
 rw[BP]
 simp only[List.mem_cons,List.not_mem_nil,or_false,forall_eq_or_imp,forall_eq,ky (fun x y=>qg),ky (fun x y=>kx)]
 constructor
 ·rintro⟨h1,h2,h3⟩
  obtain⟨ap,am,ae⟩:=a
  obtain⟨bp,bm,be⟩:=b
  cases ae<;>cases be<;>simp_all[vO]
 ·rintro rfl
  exact⟨rfl,rfl,by cases a.ended<;>rfl⟩
section
open Classical in
noncomputable def xN (u:bq) (most:Int):Int×List c8:=
 if ¬cN u then(60,[]) else if ¬(1<=most/\most<=65536) then(2,[]) else match jf u most.toNat with
  |none=>(3,[])
  |some l=>(0,l)
theorem K5 {u:bq} {most:Int} (h:¬cN u):xN u most=(60,[]):=by unfold xN;rw[if_pos h]
theorem oZ {u:bq} {most:Int} (h:cN u) (hm:¬(1<=most/\most<=65536)):xN u most=(2,[]):=by unfold xN;rw[if_neg (fun e=>e h),if_pos hm]
theorem xO {u:bq} {most:Int} (h:cN u) (hm:1<=most/\most<=65536):xN u most=(match jf u most.toNat with|none=>(3,[])|some l=>(0,l)):=by unfold xN;rw[if_neg (fun e=>e h),if_neg (fun e=>e hm)]
def eO (u:bq) (l:List c8) (k:Nat):List dy:=(l.take k).filterMap fun f=>if f.m.stuck u then some (f.m.end_ u) else none
theorem yo {u:bq} {l:List c8} {k:Nat} (hk:k<l.length):eO u l (k+1)=eO u l k++(if(l.getD k default).m.stuck u then[(l.getD k default).m.end_ u] else[]):=by
 unfold eO
 rw[List.take_succ_eq_append_getElem hk,List.filterMap_append,show l.getD k default=l[k] by simp[List.getD,hk]]
 congr 1
 simp only[List.filterMap_cons,List.filterMap_nil]
 split
 ·rename_i h;split at h<;>simp_all
 ·rename_i h;split at h<;>simp_all
theorem tX (u:bq) (l:List c8) (k:Nat):(eO u l k).length<=k:=by
 unfold eO
 refine Nat.le_trans (List.length_filterMap_le _ _) ?_
 rw[List.length_take];omega
set_option maxHeartbeats 1000000 in
theorem R0 {u:bq} (hr:cN u) {l:List c8} (hf:jv u l) (hl:l.length<=65536) {k:Nat} (hk:k<l.length) {ub ob o:Nat} {H:Hp} {nx:Nat} (h1:ub<nx) (h2:ob<nx) (h3:o<nx) (hne:ob≠o)
 (r1:∃d,bo H ub=some (.row 25 3 d [u.av])) (r2:∃d,bo H ob=some (.row 30 1 d [.sl o (eO u l k).length])) (r3:∃d,bo H o=some (.row 59 3 d ((eO u l k).map dy.av))):
 cQ Tryz.prog 15 [pb u l,i64 k, .pt ub 1 0 0, .pt ob 1 0 0] H nx (fun _ H' n=>(∃d,bo H' ob=some (.row 30 1 d [.sl o (eO u l (k+1)).length]))/\(∃d,bo H' o=some (.row 59 3 d ((eO u l (k+1)).map dy.av)))/\nx<=n/\∀y,y<nx->y≠ob->y≠o->bo H' y=bo H y):=by
 obtain⟨d1,r1⟩:=r1
 obtain⟨d2,r2⟩:=r2
 obtain⟨d3,r3⟩:=r3
 have hel:=tX u l k
 obtain⟨hm,hp⟩:=hf.ok k hk
 have e0:∀d,(l.map (c8.av u)).getD ((k:Int)).toNat d= .agg [(l.getD k default).m.fz u,i64 (l.getD k default).from_,i64 (l.getD k default).cn]:=fun d=>by rw[Int.toNat_natCast];exact dN (c8.av u) l k d hk
 have a0:(l.map (c8.av u)).length=l.length:=by simp
 have a1:((eO u l k).map dy.av).length=(eO u l k).length:=by simp
 have c0:=J1 u hr (l.getD k default).m hm (by omega) (by have:=hm.ml;have:=hr.yu;omega)
 rw[yo hk]
 generalize (l.getD k default).m=m at *
 cases hs:m.stuck u with
 |true=>
  rw[u9,hs] at c0
  refine aJ JF rfl ?_
  refine cz ?_
  refine⟨⟨⟨_,by simp only[List.length_append,if_true,List.length_cons,List.length_nil];exact bt⟩,⟨_,by simp only[List.map_append,if_true,List.map_cons,List.map_nil];exact bt⟩,cU,fun y y1 y2 y3=>bx⟩⟩
 |false=>
  rw[u9,hs] at c0
  refine aJ JF rfl ?_
  refine cz ?_
  refine⟨⟨⟨_,by rw[if_neg (by decide),List.append_nil];exact bt⟩,⟨_,by rw[if_neg (by decide),List.append_nil];exact bt⟩,cU,fun y y1 y2 y3=>bx⟩⟩
end
theorem XE {te e:TypeId} {sz b nx:Nat} {H:Hp} {d:AV} (hb:b<nx) (hsz:0<sz) (h:bo H b=some (.row te 1 d [.sc (.slice none 0 0)])):∃H2,Wk .any H nx .any H2 (nx+1)/\bo H2 b=some (.row te 1 .any [.sl nx 0])/\bo H2 nx=some (.row e sz .any [])/\∀y,y<nx->y≠b->bo H2 y=bo H y:=by
 refine⟨mc te e sz b 1 nx H,Wk.born hb hsz h, ?_, ?_,fun y y1 y2=>LI y1 y2⟩
 ·rw[mc,cq,wi];rfl
 ·rw[mc,cX (by omega),lE,if_pos (by omega)]
theorem XG {P:Program} {f:FuncId} {args:List AV} {te:TypeId} (e:TypeId) (sz:Nat) {b nx:Nat} {H:Hp} {d:AV} {R:AV->Hp->Nat->Prop} (hb:b<nx) (hsz:0<sz) (h:bo H b=some (.row te 1 d [.sc (.slice none 0 0)]))
 (k:∀H2,bo H2 b=some (.row te 1 .any [.sl nx 0])->bo H2 nx=some (.row e sz .any [])->(∀y,y<nx->y≠b->bo H2 y=bo H y)->cQ P f args H2 (nx+1) R):cQ P f args H nx R:=by
 obtain⟨H2,hw,q1,q2,q3⟩:=XE hb hsz h
 exact cQ.QN (k H2 q1 q2 q3) (hw.same _)
def Q8 (u:bq) (most:Int) (I:Nat->Hp->Prop) (r:AV) (H:Hp):Prop:=
 match jf u most.toNat with
 |none=>r= .df [i64 0,i64 3]
 |some l=>r= .df [i64 l.length,i64 0]/\I l.length H
theorem Q9.short {u:bq} {most:Int} {I:Nat->Hp->Prop} {nx:Nat} {H0:Hp} {r:AV} {H:Hp} {n:Nat} (h:Q9 u most I nx H0 r H n):Q8 u most I r H:=by
 obtain⟨_,h⟩:=h
 unfold Q8
 revert h
 cases jf u most.toNat with
 |none=>exact fun h=>h.1
 |some l=>exact id
theorem x6 {x y z:Int} (h1:fQ x y<0) (h2:fQ y z<0):fQ x z<0:=by
 unfold fQ at *
 repeat' split at *
 all_goals omega
theorem ZH (a b c:Int):mB [a,b,c]<0↔a<0\/a=0/\(b<0\/b=0/\c<0):=by
 simp only[mB]
 repeat' split
 all_goals omega
theorem ZG (a b:Int):mB [a,b]<0↔a<0\/a=0/\b<0:=by
 simp only[mB]
 repeat' split
 all_goals omega
theorem RV {p q r:cy} (h1:gS p q<0) (h2:gS q r<0):gS p r<0:=by
 unfold gS at *
 rw[ZG] at *
 simp only[kx] at *
 rcases h1 with h1|⟨e1,h1⟩<;>rcases h2 with h2|⟨e2,h2⟩
 ·exact .inl (x6 h1 h2)
 ·rw[<-e2];exact .inl h1
 ·rw[e1];exact .inl h2
 ·exact .inr ⟨e1.trans e2,x6 h1 h2⟩
theorem x7 {α:Type} {f:α->α->Int} (hz:∀x y,f x y=0↔x=y) (hf:∀x y z,f x y<0->f y z<0->f x z<0):∀a b c:List α,fM f a b<0->fM f b c<0->fM f a c<0
 |[],[],_,h1,_=>by simp[fM] at h1
 |[],_::_,[],_,h2=>by simp[fM] at h2
 |[],_::_,_::_,_,_=>by simp[fM]
 |_::_,[],_,h1,_=>by simp[fM] at h1
 |_::_,_::_,[],_,h2=>by simp[fM] at h2
 |x::a,y::b,z::c,h1,h2=>by
  rw[fM] at h1 h2 ⊢
  by_cases e1:f x y=0
  ·have:=(hz _ _).1 e1
   subst this
   rw[if_pos e1] at h1
   by_cases e2:f x z=0
   ·rw[if_pos e2] at h2 ⊢
    exact x7 hz hf a b c h1 h2
   ·rw[if_neg e2] at h2 ⊢
    exact h2
  ·rw[if_neg e1] at h1
   by_cases e2:f y z=0
   ·have:=(hz _ _).1 e2
    subst this
    rw[if_neg e1]
    exact h1
   ·rw[if_neg e2] at h2
    have h3:=hf _ _ _ h1 h2
    rw[if_neg (by omega)]
    exact h3
theorem RQ {a b c:dy} (h1:fB a b<0) (h2:fB b c<0):fB a c<0:=by
 unfold fB at *
 rw[ZH] at *
 simp only[ky (fun x y=>qg),ky (fun x y=>kx)] at *
 have tp:=x7 (f:=gS) (fun x y=>qg) (fun x y z=>RV) a.cC b.cC c.cC
 have ti:=x7 (f:=fQ) (fun x y=>kx) (fun x y z=>x6) a.mem b.mem c.mem
 have tb:vO a.ended b.ended<0->vO b.ended c.ended<0->vO a.ended c.ended<0:=by
  cases a.ended<;>cases b.ended<;>cases c.ended<;>simp[vO]
 rcases h1 with h1|⟨e1,h1⟩<;>rcases h2 with h2|⟨e2,h2⟩
 ·exact .inl (tp h1 h2)
 ·rw[<-e2];exact .inl h1
 ·rw[e1];exact .inl h2
 ·refine .inr ⟨e1.trans e2, ?_⟩
  rcases h1 with h1|⟨e1',h1⟩<;>rcases h2 with h2|⟨e2',h2⟩
  ·exact .inl (ti h1 h2)
  ·rw[<-e2'];exact .inl h1
  ·rw[e1'];exact .inl h2
  ·exact .inr ⟨e1'.trans e2',tb h1 h2⟩
structure kj {α:Type} (f:α->α->Int):Prop where
 neg:∀x y,f y x=-f x y
 zero:∀x y,f x y=0↔x=y
 tr:∀x y z,f x y<0->f y z<0->f x z<0
theorem l7:kj fB:=⟨tR,fun _ _=>vu,fun _ _ _=>RQ⟩
def w3 {α:Type} (f:α->α->Int) (x y:α):Bool:=decide (f x y<=0)
theorem kj.XZ {α:Type} {f:α->α->Int} (h:kj f) {x y z:α} (h1:w3 f x y=true) (h2:w3 f y z=true):w3 f x z=true:=by
 simp only[w3,decide_eq_true_eq] at *
 by_cases e1:f x y=0
 ·rw[(h.zero _ _).1 e1];exact h2
 ·by_cases e2:f y z=0
  ·rw[<-(h.zero _ _).1 e2];exact h1
  ·have:=h.tr x y z (by omega) (by omega);omega
theorem kj.le_total {α:Type} {f:α->α->Int} (h:kj f) (x y:α):(w3 f x y||w3 f y x)=true:=by
 have:=h.neg x y
 simp only[w3,Bool.or_eq_true,decide_eq_true_eq]
 omega
theorem kj.GI {α:Type} {f:α->α->Int} (h:kj f) {x y:α} (h1:w3 f x y=true) (h2:w3 f y x=true):x=y:=by
 have:=h.neg x y
 simp only[w3,decide_eq_true_eq] at *
 exact(h.zero _ _).1 (by omega)
def iG {α:Type} (f:α->α->Int) (l:List α):List α:=l.mergeSort (w3 f)
theorem rF {α:Type} (f:α->α->Int) (l:List α):(iG f l).length=l.length:=by simp[iG]
theorem pE {α:Type} (f:α->α->Int) (l:List α):(iG f l).Perm l:=List.mergeSort_perm _ _
theorem kj.sorted {α:Type} {f:α->α->Int} (h:kj f) (l:List α):(iG f l).Pairwise fun x y=>w3 f x y=true:=
 List.pairwise_mergeSort (le:=w3 f) (fun a b c h1 h2=>h.XZ h1 h2) (fun a b=>h.le_total a b) l
theorem kj.TM {α:Type} {f:α->α->Int} (h:kj f) {l l':List α} (hp:l'.Perm l) (hs:l'.Pairwise fun x y=>w3 f x y=true):l'=iG f l:=
 List.Perm.eq_of_pairwise (fun a b _ _ h1 h2=>h.GI h1 h2) hs (h.sorted l) (hp.trans (pE f l).symm)
end Go.Proofs.YtekfmjjmihomlaaGreatDoor
