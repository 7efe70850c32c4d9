import Derived.Test.YtjopoheligmmoaaGreatDoorM31
import Derived.Test.YtjopoheligmmoaaGreatDoorM33
import Derived.Test.YtjopoheligmmoaaGreatDoorM34
import Derived.Lib.ItoaLen
import Derived.Test.YtjopoheligmmoaaGreatDoorM30
namespace Go.Proofs.YtjopoheligmmoaaGreatDoor
open Go Go.cp Go.Proofs
set_option linter.unusedSimpArgs false
set_option linter.unusedVariables false
set_option maxRecDepth 8000
section
def jf (S:List Nat) (H:Hp):Hp:=S.map fun y=>(y,bw H y)
theorem yX {S:List Nat} {H:Hp} {y:Nat} (h:y∈S):bw (jf S H) y=bw H y:=by
 induction S with
 |nil=>cases h
 |cons x S ih=>
  rw[jf,List.map_cons]
  by_cases e:y=x
  ·subst e;exact ct _ _ _
  ·rw[cZ e]
   exact ih (by simpa[e] using h)
theorem qG {S:List Nat} {H:Hp} {y:Nat} {q:e8} (h:bw (jf S H) y=some q):bw H y=some q:=by
 have:y∈S:=by
  have:=mZ h
  simpa[jf] using this
 rw[yX this] at h;exact h
theorem dn {S:List Nat} {H H2:Hp} {y:Nat} (h:y∉S):bw (lO (jf S H) H2) y=bw H2 y:=fU (by simpa[jf] using h)
section
variable {u:bx} {m:MS} {L:ML} {H:Hp}
theorem ML.At.tM (h:L.At u m H) (k:Nat):Go.cp.gm (jf L.all H) (k+4) (.pt L.mr 1 0 0)=m.fz u:=by
 have h:=h.cT (H':=jf L.all H) fun y hy=>yX hy
 generalize jf L.all H=G at *
 obtain⟨d1,h1⟩:=h.rM
 obtain⟨d2,h2⟩:=h.rA
 obtain⟨d3,h3⟩:=h.rS
 obtain⟨d4,h4⟩:=h.rE
 obtain⟨d5,h5⟩:=h.rH
 obtain⟨d6,h6⟩:=h.rP
 have hsl:(eT L.ids m.cC).length=m.cC.length:=uj h.len
 have hs:(eT L.ids m.cC).map (Go.cp.gm G (k+1))=m.cC.map cL:=by
  apply List.ext_getElem (by simp[hsl])
  intro t q1 q2
  have ht:t<m.cC.length:=by simpa using q2
  have hti:t<L.ids.length:=by rw[h.len];exact ht
  obtain⟨d,hd⟩:=h.rL t ht
  rw[show L.ids.getD t 0=L.ids[t] by simp[List.getD,hti],show m.cC.getD t []=m.cC[t] by simp[List.getD,ht]] at hd
  rw[List.getElem_map,List.getElem_map]
  simp only[eT,List.getElem_map,List.getElem_zip]
  rw[ma hd (by simp),fu _ ((cD _ _).2 fun _ _=>by simp[cK])]
 rw[show Go.cp.gm G (k+4) (.pt L.mr 1 0 0)= .ip 8 .any ([m.rows u L.a L.s L.me L.ho L.pr].map (Go.cp.gm G (k+3))) 0 0 from LP h1 rfl]
 simp only[List.map_cons,List.map_nil,MS.rows]
 rw[x6]
 simp only[List.map_cons,List.map_nil]
 rw[ma h2 (by simp),ma h3 hsl,ma h4 (by simp),ma h5 (by simp),ma h6 (by simp),hs]
 rw[fu _ ((cD _ _).2 fun _ _=>by simp[cK]),fu _ ((cD _ _).2 fun _ _=>by simp[cK]),fu _ ((cD _ _).2 fun _ _=>by simp[cK]),fu _ ((cD _ _).2 fun _ _=>by simp[cK])]
 rw[kR _ (show cK 0 (cw u.shared) by simp[cK,cD]),kR _ (show cK 0 (cw u.cG) by simp[cK,cD]),kR _ (show cK 0 (df u.bz) by simp[cK,cD])]
 rfl
end
def cX.cells (u:bx) (f:cX):List AV:=[f.m.fz u,i64 f.from_,i64 f.dc]
abbrev cX.av (u:bx) (f:cX):AV:= .agg (f.cells u)
abbrev kJ (u:bx) (l:List cX):AV:= .im 3 .any (l.map (cX.av u))
@[simp] theorem DT (n:Nat) (u:bx) (f:cX):c8 n (f.cells u):=by
  have:=ll n u f.m
  simp[cX.cells,c8,cK]
theorem zX (u:bx) (l:List cX):c8 0 (l.map (cX.av u)):=(cD _ _).2 fun _ _=>by simp only[cX.av,cK];exact DT _ _ _
theorem uT {u:bx} {m:MS} {L:ML} {H:Hp} {lb nx:Nat} {d:AV} {l:List cX} {fr th:Int} (hM:L.At u m H) (hl:bw H lb=some (.row 163 3 d (l.map (cX.av u)++[.agg [.pt L.mr 1 0 0,i64 fr,i64 th]]))) (hlb:lb∉L.all):
 Wk .any H nx .any (lO (jf L.all H) ((lb,some (.row 163 3 .any ((l++[(⟨m,fr,th⟩:cX)]).map (cX.av u))))::H)) nx:=by
 have:=Wk.gm (nx:=nx) (jf L.all H) 5 .any hl (fun b q hq=>qG hq)
 rw[List.map_append,fu _ (zX u l),List.map_cons,List.map_nil,x6,List.map_cons,List.map_cons,List.map_cons,List.map_nil,hM.tM 0,kR _ (show cK 0 (i64 fr) by simp[cK]),kR _ (show cK 0 (i64 th) by simp[cK])] at this
 rw[List.map_append]
 exact this
end
theorem mX {α:Type} (f:α->List UInt8) (k:Nat):∀l:List α,(∀a∈l,(f a).length<=k)->(l.flatMap f).length<=l.length * k
 |[],_=>by simp
 |a::l,h=>by
  have h1:=mX f k l fun b hb=>h b (by simp[hb])
  have h2:=h a (by simp)
  rw[List.flatMap_cons,List.length_append,List.length_cons,Nat.add_mul]
  omega
theorem mn {x:Int} (e:List UInt8) (h:eP x):(eh x e).length<=21+e.length:=by
 have:=Go.Lib.itoa_length_le x h.1 (by have:=h.2;omega)
 unfold eh
 rw[List.length_append]
 omega
theorem eN.OX {u:bx} {m:MS} (hr:cW u) (h:eN u m):(gn m).length<=100000000+m.cQ.length * 50:=by
 have hf:=hr.qa
 have hal:=h.pV
 have hml:=h.ml
 have hhl:=h.hl
 have hn:∀t,t<u.bz.length->(u.gr t).nodes.length<=4096/\(u.gr t).cC<=4160:=fun t ht=>⟨(hr.gr ht).len.2,(hr.gr ht).cC.2⟩
 have h1:((List.range m.at_.length).flatMap (wP m)).length<=(List.range m.at_.length).length * 100000:=by
  refine mX _ _ _ fun t ht=> ?_
  have ht:=List.mem_range.1 ht
  have hat:=h.gV t (by omega)
  obtain⟨n1,n2⟩:=hn t (by omega)
  have hs:=h.A7 t (by omega)
  have a1:=mn (x:=m.at_.getD t 0) [44] ⟨by omega,by omega⟩
  have a2:=mX (fun w=>eh w [44]) 22 (m.cC.getD t []) fun w hw=>mn [44] (h.A8 t (by omega) w hw)
  have e:(wP m t).length=(eh (m.at_.getD t 0) [44]).length+((m.cC.getD t []).flatMap (fun w=>eh w [44])).length+1:=by simp only[wP,List.length_append,List.length_cons,List.length_nil]
  simp only[List.length_cons,List.length_nil] at a1
  rw[e]
  omega
 rw[List.length_range] at h1
 have h2:=mX (fun w=>eh w [44]) 22 m.mem fun w hw=>mn [44] (h.mw w hw)
 have h3:=mX (fun w=>eh w [44]) 22 m.hold fun w hw=>mn [44] (by have:=h.hw w hw;exact⟨by omega,by omega⟩)
 have h4:=mX E5 50 m.cQ fun p hp=>by
  obtain⟨p1,p2,p3⟩:=h.pw p hp
  have a1:=mn (x:=p.dc) [58] ⟨by omega,by omega⟩
  have a2:=mn (x:=p.word) [44] p3
  simp only[List.length_cons,List.length_nil] at a1 a2
  unfold E5
  rw[List.length_append]
  omega
 rw[vm]
 omega
theorem eN.T4 {u:bx} {m:MS} (hr:cW u) (h:eN u m) (hp:m.cQ.length<=1048576):V2 m:=by
 have hf:=hr.qa
 refine⟨fun w hw=> ?_,by rw[h.sl,h.pV],fun l hl w hw=> ?_,h.mw,fun w hw=> ?_,fun p hp=> ?_, ?_⟩
 ·obtain⟨t,ht,rfl⟩:=List.mem_iff_getElem.1 hw
  have h1:=h.gV t (by rw[<-h.pV];exact ht)
  have h2:=(hr.gr (t:=t) (by rw[<-h.pV];exact ht)).len.2
  rw[show m.at_.getD t 0=m.at_[t] by simp[List.getD,ht]] at h1
  exact⟨by omega,by omega⟩
 ·obtain⟨t,ht,rfl⟩:=List.mem_iff_getElem.1 hl
  have:=h.A8 t (by rw[<-h.sl];exact ht) w
  rw[show m.cC.getD t []=m.cC[t] by simp[List.getD,ht]] at this
  exact this hw
 ·have:=h.hw w hw
  exact⟨by omega,by omega⟩
 ·obtain⟨p1,p2,p3⟩:=h.pw p hp
  exact⟨⟨by omega,by omega⟩,p3⟩
 ·have:=h.OX hr
  omega
theorem M6 {a b:List UInt8} (h:k8 a=k8 b):a=b:=by
 have:=congrArg (fun x:ByteArray=>x.data.toList) h
 simpa[k8] using this
abbrev jN (l:List cX):List (ByteArray×Int):=l.map fun f=>(k8 (gn f.m),1)
abbrev nc (l:List cX):List AV:=py (fun s:ByteArray=>Value.string s) i64 (jN l)
theorem sM (l:List cX) (k:List UInt8):ef (jN l) (k8 k)=if k∈jL l then some 1 else none:=by
 split
 ·rename_i h
  cases hl:ef (jN l) (k8 k) with
  |none=>
   exfalso
   refine(pk _ _).1 hl ?_
   rw[List.map_map]
   obtain⟨f,h1,h2⟩:=List.mem_map.1 h
   exact List.mem_map.2 ⟨f,h1,by simp only[Function.comp];rw[h2]⟩
  |some v=>
   have hv:∀(l:List cX),ef (jN l) (k8 k)=some v->v=1:=by
    intro l
    induction l with
    |nil=>intro h;cases h
    |cons f l ih=>
     intro h
     rw[jN,List.map_cons,ef] at h
     split at h
     ·cases h;rfl
     ·exact ih h
   rw[hv l hl]
 ·rename_i h
  refine(pk _ _).2 fun hm=>h ?_
  rw[List.map_map] at hm
  obtain⟨f,h1,h2⟩:=List.mem_map.1 hm
  simp only[Function.comp] at h2
  exact List.mem_map.2 ⟨f,h1,M6 h2⟩
theorem EI {l:List cX} {m:MS} {a b:Int} (h:gn m∉jL l):ic (jN l) (k8 (gn m)) 1=jN (l++[⟨m,a,b⟩]):=by
 have key:∀E:List (ByteArray×Int),ef E (k8 (gn m))=none->ic E (k8 (gn m)) 1=E++[(k8 (gn m),1)]:=by
  intro E
  induction E with
  |nil=>intro _;rfl
  |cons p E ih=>
   intro hn
   obtain⟨x,y⟩:=p
   rw[ef] at hn
   rw[ic]
   split at hn
   ·cases hn
   ·rename_i hx
    rw[if_neg hx,ih hn];rfl
 rw[key _ (by rw[sM,if_neg h]),jN,jN,List.map_append];rfl
theorem BV (u:bx) (hu:u.Wf) (hr:¬cW u) (most:Int) (g:Nat) (caps:List AV) (H0:Hp) (nx:Nat):cO Tryz.prog 92 [u.av,i64 most, .fn (.func g) [] caps] H0 nx (fun r H n=>r= .dO [i64 0,i64 60]/\nx<=n/\∀y,y<nx->bw H y=bw H0 y):=by
 have c0:=vw u hu hr
 refine aJ O5 rfl ?_
 refine cV ?_
 exact⟨⟨rfl,ca,fun y hy=>cB⟩⟩
theorem tc (u:bx) (hu:u.Wf) (hr:cW u) (most:Int) (hm:¬(1<=most/\most<=65536)) (g:Nat) (caps:List AV) (H0:Hp) (nx:Nat):cO Tryz.prog 92 [u.av,i64 most, .fn (.func g) [] caps] H0 nx (fun r H n=>r= .dO [i64 0,i64 2]/\nx<=n/\∀y,y<nx->bw H y=bw H0 y):=by
 refine aJ O5 rfl ?_
 refine cV ?_
 refine aI (kT u hu hr _ _) ?_
 rintro r H1 n1 ⟨L,rfl,hM,hlt,hn1,hk1⟩
 by_cases h1:most<1
 ·refine cV ?_
  exact⟨⟨rfl,ca,fun y hy=>Eq.trans cB ((hk1 y ca).trans cB)⟩⟩
 ·have h2:65536<most:=by omega
  refine cV ?_
  exact⟨⟨rfl,ca,fun y hy=>Eq.trans cB ((hk1 y ca).trans cB)⟩⟩
theorem zG (u:bx) (hr:cW u) (m:MS) (h:eN u m) (hp:m.cQ.length<=1048576) (H0:Hp) (nx:Nat):cO Tryz.prog 146 [m.fz u] H0 nx (fun r H n=>∃L:ML,r= .pt L.mr 1 0 0/\L.At u m H/\(∀x∈L.all,nx<=x/\x<n)/\nx<=n/\∀y,y<nx->bw H y=bw H0 y):=by
 have hgl:=hr.qa
 refine(zH u m (by have:=h.pV;omega) (by have:=h.ml;omega) (by have:=h.hl;omega) hp (by have:=h.sl;omega) (fun x hx=> ?_) H0 nx).mono ?_
 ·obtain⟨s,hs,rfl⟩:=List.mem_iff_getElem.1 hx
  have h1:=h.A7 s (by rw[<-h.sl];exact hs)
  have h2:=(hr.gr (t:=s) (by rw[<-h.sl];exact hs)).cC.2
  rw[show m.cC.getD s []=m.cC[s] by simp[List.getD,hs]] at h1
  omega
 ·rintro r H n ⟨mr,a,s,me,ho,pr,ids,rfl,h1,h2,h3,h4⟩
  exact⟨⟨mr,a,s,me,ho,pr,ids⟩,rfl,h1,h2,h3,h4⟩
def KG (u:bx) (most:Int) (I:Nat->Hp->Prop) (nx:Nat) (H0:Hp) (r:AV) (H:Hp) (n:Nat):Prop:=
 nx<=n/\match gU u most.toNat with
 |none=>r= .dO [i64 0,i64 3]/\∀y,y<nx->bw H y=bw H0 y
 |some l=>r= .dO [i64 l.length,i64 0]/\I l.length H
set_option maxHeartbeats 4000000 in
theorem rC (u:bx) (hu:u.Wf) (hr:cW u) (most:Int) (hm:1<=most/\most<=65536) (g:Nat) (caps:List AV) (H0:Hp) (nx:Nat) (I:Nat->Hp->Prop) (hI0:I 0 H0) (hst:∀k H H',I k H->(∀y,y<nx->bw H' y=bw H y)->I k H')
 (hcl:∀l,gU u most.toNat=some l->∀k H n,k<l.length->nx<=n->I k H->cO Tryz.prog g ([kJ u l,i64 k]++caps) H n (fun _ H' n'=>I (k+1) H'/\n<=n'/\∀y,nx<=y->y<n->bw H' y=bw H y)):
 cO Tryz.prog 92 [u.av,i64 most, .fn (.func g) [] caps] H0 nx (KG u most I nx H0):=by
 obtain⟨mo,rfl⟩:∃mo:Nat,most=mo:=⟨most.toNat,by omega⟩
 have hgl:=hr.qa
 unfold KG
 rw[Int.toNat_natCast] at hcl ⊢
 refine aJ O5 rfl ?_
 refine cV ?_
 refine aI (kT u hu hr _ _) ?_
 rintro r H1 n1 ⟨L,rfl,hM,hlt,hn1,hk1⟩
 have hF:=iK.init u hu hr
 have hm0:=(hF.ok 0 hF.pos).1
 have hm0':(List.getD (jo u) 0 default).m=dQ u:=rfl
 rw[hm0'] at hm0
 have g0:oc true (Value.string (k8 (gn (dQ u)))) [] (i64 1)=some (nc (jo u)):=rfl
 have h65:(65536:Int)<mo->False:=by omega
 refine cV ?_
 refine aS (vl u (dQ u) (hm0.T4 hr (by simp[dQ]))) (args2:=[(dQ u).fz u]) ?_ (by simp[c8,ll]) trivial ?_
 ·rw[List.map_cons,List.map_nil]
  congr 1
  exact(hM.cT fun y hy=>by have:=hlt y hy;exact cB).DW 2
 refine cV ?_
 have hno:∀y,y<nx+1\/n1<=y->y∉L.all:=fun y hy hm=>by have:=hlt y hm;omega
 refine aU (fun σ:Nat×List cX=>[(1,i64 mo),(2, .fn (.func g) [] caps),(3, .pt nx 1 0 0),(10, .sl (n1+15) σ.2.length),(11, .mp (n1+17)),(12,i64 σ.1)])
  (fun σ H n=>σ.1<=σ.2.length/\σ.2.length<=mo/\iK u σ.2/\w7 u mo (mo - σ.1) σ.1 σ.2=gU u mo/\n1+23<=n/\(∃d,bw H nx=some (.row 25 3 d [u.av]))/\(∃d,bw H (n1+15)=some (.row 163 3 d (σ.2.map (cX.av u))))/\(∃e d,bw H (n1+17)=some (.row e 0 d (mapA (nc σ.2))))/\∀y,y<nx->bw H y=bw H0 y) (fun σ=>mo - σ.1) (0,jo u)
  ⟨_,_,_,Rt.wk (uT (lb:=n1+15) (l:=[]) (fr:=-1) (th:=0) (hM.cT ?_) cA (hno _ (by omega))),cI,Nat.zero_le _,by show 1<=mo;omega,hF,rfl,ca,⟨_,(dn (hno _ (by omega))).trans (Eq.trans cB ((hk1 nx (by omega)).trans cA))⟩,⟨_,(dn (hno _ (by omega))).trans cA⟩,⟨_,_,(dn (hno _ (by omega))).trans cA⟩,fun y hy=>(dn (hno _ (by omega))).trans (Eq.trans cB ((hk1 y ca).trans cB))⟩ ?_
 ·intro y hy
  have:=hlt y hy
  exact cB
 clear hM hlt hk1 hno
 rintro⟨k,l⟩ H n ⟨hk,hl,hfs,hall,hn,⟨d0,r0'⟩,⟨d1,r1'⟩,⟨e2,d2,r2'⟩,hkp⟩
 dsimp only at hk hl hfs hall r1' r2' ⊢
 by_cases hkl:k<l.length
 ·have e0:∀d,(l.map (cX.av u)).getD ((k:Int)).toNat d=(l.getD k default).av u:=fun d=>by rw[Int.toNat_natCast];exact dJ (cX.av u) l k d hkl
  have a0:(l.map (cX.av u)).length=l.length:=by simp
  have hgeq:∀l':List cX,l<+:l'->l'.getD k default=l.getD k default:=fun l' ⟨q,hq⟩=>by rw[<-hq];simp[List.getD,List.getElem?_append,hkl]
  have hmk:mo - k=(mo - (k+1))+1:=by omega
  rw[hmk,w7,if_pos hkl] at hall
  obtain⟨hmok,hpl⟩:=hfs.ok k hkl
  have hmdef:(l.getD k default).m=(l.getD k default).m:=rfl
  generalize hmm:(l.getD k default).m=m at hmok hpl
  have e0':∀d,(l.map (cX.av u)).getD ((k:Int)).toNat d= .agg [m.fz u,i64 (l.getD k default).from_,i64 (l.getD k default).dc]:=fun d=>by rw[e0 d,<-hmm];rfl
  clear e0
  have e0:=e0'
  refine cV ?_
  rw[List.length_map]
  refine aU (fun σ:Nat×List cX=>[(1,i64 mo),(2, .fn (.func g) [] caps),(3, .pt nx 1 0 0),(10, .sl (n1+15) σ.2.length),(11, .mp (n1+17)),(12,i64 k),(13,m.fz u),(52,i64 u.bz.length),(53,i64 σ.1)])
   (fun σ H n=>σ.1<=u.bz.length/\k<σ.2.length/\σ.2.length<=mo/\iK u σ.2/\(σ.2.getD k default).m=m/\(match AU u mo k ((List.range u.bz.length).drop σ.1) σ.2 with
    |none=>none
    |some l2=>w7 u mo (mo - (k+1)) (k+1) l2)=gU u mo/\n1+23<=n/\(∃d,bw H nx=some (.row 25 3 d [u.av]))/\(∃d,bw H (n1+15)=some (.row 163 3 d (σ.2.map (cX.av u))))/\(∃e d,bw H (n1+17)=some (.row e 0 d (mapA (nc σ.2))))/\∀y,y<nx->bw H y=bw H0 y) (fun σ=>u.bz.length - σ.1) (0,l)
   ⟨_,_,_,Rt.refl _ _ _,cI,Nat.zero_le _,hkl,hl,hfs,hmm,hall,ca,⟨_,cA⟩,⟨_,cA⟩,⟨_,_,cA⟩,fun y hy=>Eq.trans cB (hkp y hy)⟩ ?_
  clear e0 e0' a0 r0' r1' r2' hkp hall hfs hl hkl hgeq hn hmm
  rintro⟨t,l⟩ H n ⟨ht,hkl,hl,hfs,hmm,hall,hn,⟨d0,r0'⟩,⟨d1,r1'⟩,⟨e2,d2,r2'⟩,hkp⟩
  dsimp only at ht hkl hl hfs hmm hall r1' r2' ⊢
  have a0:(l.map (cX.av u)).length=l.length:=by simp
  by_cases htl:t<u.bz.length
  ·rw[show(List.range u.bz.length).drop t=t::(List.range u.bz.length).drop (t+1) by rw[List.drop_eq_getElem_cons (by simpa using htl)];simp,AU] at hall
   have c0:=yx u hr m hmok t
   by_cases hb:m.kZ u t=0
   ·have hal:=hmok.pV
    refine cV ?_
    refine aI (zG u hr m hmok (by omega) _ _) ?_
    rintro r H2 n2 ⟨L2,rfl,hM2,hlt2,hn2,hk2⟩
    have hlt2:∀x∈L2.all,n+7<=x/\x<n2:=hlt2
    refine cV ?_
    refine aI (uo hu hr hmok (L:=L2) (hM2.cT ?_) ?_ (by omega) htl hb) ?_
    ·intro y hy
     have:=hlt2 y hy
     exact cB
    ·intro y hy
     have:=hlt2 y hy
     exact ca
    rintro r H3 n3 ⟨rfl,hM3,hn3,hk3⟩
    have hno:∀y,y<n+7\/n2<=y->y∉L2.all:=fun y hy hm=>by have:=hlt2 y hm;omega
    have hold:∀y,y<n->bw H3 y=bw H y:=fun y hy=>(hk3 y ca (hno y (by omega))).trans (Eq.trans cB ((hk2 y ca).trans cB))
    have hlt3:∀x∈L2.all,x<n3:=fun x hx=>by have:=hlt2 x hx;exact Nat.lt_of_lt_of_le this.2 ca
    obtain⟨hk9,_⟩:=kE hmok htl hb
    have hm2:=wK hu hr hmok htl hk9
    have hp2:=mJ u m t
    have htry:BL u mo k t l=if gn (m.step u t).1∈jL l then some l else if l.length=mo then none else some (l++[⟨(m.step u t).1,k,t⟩]):=by
     unfold BL
     rw[hmm,if_neg (by omega)]
    rw[htry] at hall
    have hput:=fun(h:gn (m.step u t).1∉jL l)=>EI (l:=l) (m:=(m.step u t).1) (a:=k) (b:=t) h
    have hadd:=fun(h:gn (m.step u t).1∉jL l)=>hfs.add hu hr hkl htl (by rw[hmm];exact hb) (by rw[hmm];exact h)
    rw[hmm] at hadd
    generalize (m.step u t).1=m2 at *
    have hkp3:∀y,y<nx->bw H3 y=bw H0 y:=fun y hy=>(hold y (by omega)).trans (hkp y hy)
    have q0:=(hold nx (by omega)).trans r0'
    have q1:=(hold (n1+15) (by omega)).trans r1'
    have q2:=(hold (n1+17) (by omega)).trans r2'
    have hget:=zt vk i64 (k8 (gn m2)) (jN l) (i64 0)
    rw[sM] at hget
    clear hk2 hk3 hM2 r0' r1' r2' hold hkp
    by_cases hin:gn m2∈jL l
    ·rw[if_pos hin] at hget hall
     have g0:mA true (Value.string (k8 (gn m2))) (nc l) (i64 0)=some (i64 1,true):=hget
     refine cV ?_
     refine aS (vl u m2 (hm2.T4 hr (by omega))) (args2:=[m2.fz u]) ?_ (by simp[c8,ll]) trivial ?_
     ·rw[List.map_cons,List.map_nil]
      congr 1
      exact(hM3.cT fun y hy=>by have:=hlt3 y hy;exact cB).DW 2
     refine cV ?_
     exact⟨(t+1,l),by dsimp only;omega,_,_,_,Rt.refl _ _ _,cI,by dsimp only;omega,hkl,hl,hfs,hmm,hall,ca,⟨_,cA⟩,⟨_,cA⟩,⟨_,_,cA⟩,fun y hy=>Eq.trans cB (hkp3 y hy)⟩
    ·rw[if_neg hin] at hget hall
     have g0:mA true (Value.string (k8 (gn m2))) (nc l) (i64 0)=some (i64 0,false):=hget
     by_cases hfull:l.length=mo
     ·rw[if_pos hfull] at hall
      refine cV ?_
      refine aS (vl u m2 (hm2.T4 hr (by omega))) (args2:=[m2.fz u]) ?_ (by simp[c8,ll]) trivial ?_
      ·rw[List.map_cons,List.map_nil]
       congr 1
       exact(hM3.cT fun y hy=>by have:=hlt3 y hy;exact cB).DW 2
      refine cV ?_
      have hall2:none=gU u mo:=hall
      rw[<-hall2]
      exact⟨⟨ca,rfl,fun y hy=>Eq.trans cB (hkp3 y hy)⟩⟩
     ·rw[if_neg hfull] at hall
      have g1:oc true (Value.string (k8 (gn m2))) (nc l) (i64 1)=some (nc (l++[⟨m2,k,t⟩])):=by
       have:=zu vk i64 (k8 (gn m2)) 1 (jN l)
       rw[hput hin] at this
       exact this
      refine cV ?_
      refine aS (vl u m2 (hm2.T4 hr (by omega))) (args2:=[m2.fz u]) ?_ (by simp[c8,ll]) trivial ?_
      ·rw[List.map_cons,List.map_nil]
       congr 1
       exact(hM3.cT fun y hy=>by have:=hlt3 y hy;exact cB).DW 2
      refine cV ?_
      have hout:=hno
      refine⟨(t+1,l++[⟨m2,k,t⟩]),by dsimp only;omega,_,_,_,Rt.wk (uT (L:=L2) (lb:=n1+15) (m:=m2) (l:=l) (fr:=k) (th:=t) (hM3.cT ?_) cA (hno _ (by omega))),cI,by dsimp only;omega,by dsimp only;rw[List.length_append];omega,by dsimp only;simp only[List.length_append,List.length_cons,List.length_nil];omega,hadd hin,by dsimp only;rw[fm hkl];exact hmm,hall,ca,⟨_,(dn (hno _ (by omega))).trans cA⟩,⟨_,(dn (hno _ (by omega))).trans cA⟩,⟨_,_,(dn (hno _ (by omega))).trans cA⟩,fun y hy=>(dn (hno _ (by omega))).trans (Eq.trans cB (hkp3 y hy))⟩
      intro y hy
      have:=hlt2 y hy
      have:=hlt3 y hy
      exact cB
   ·have htry:BL u mo k t l=some l:=by
     unfold BL
     rw[hmm,if_pos hb]
    rw[htry] at hall
    refine cV ?_
    exact⟨(t+1,l),by dsimp only;omega,_,_,_,Rt.refl _ _ _,cI,by dsimp only;omega,hkl,hl,hfs,hmm,hall,ca,⟨_,cA⟩,⟨_,cA⟩,⟨_,_,cA⟩,fun y hy=>Eq.trans cB (hkp y hy)⟩
  ·have htG:t=u.bz.length:=by omega
   subst htG
   rw[List.drop_of_length_le (by simp),AU] at hall
   refine cV ?_
   exact⟨(k+1,l),by dsimp only;omega,_,_,_,Rt.refl _ _ _,cI,by dsimp only;omega,hl,hfs,hall,ca,⟨_,cA⟩,⟨_,cA⟩,⟨_,_,cA⟩,fun y hy=>Eq.trans cB (hkp y hy)⟩
 ·have hk2:k=l.length:=by omega
  refine cV ?_
  have hl2:gU u mo=some l:=by
   rw[<-hall]
   subst hk2
   cases h:mo - l.length with
   |zero=>rfl
   |succ q=>rw[w7,if_neg (by omega)]
  have hw:=fun(H':Hp) (n':Nat) (hr:bw H' (n1+15)=some (.row 163 3 d1 (l.map (cX.av u))))=>Wk.QZ (r:= .sl (n1+15) l.length) (H:=H') (nx:=n') [(n1+15,some (.row 163 3 d1 (l.map (cX.av u))))] 1 (fun b q hq=>by
   by_cases hb:b=n1+15
   ·subst hb;rw[ct] at hq;rw[<-hq];exact hr
   ·rw[cZ hb] at hq;cases hq)
  rw[IP (ct _ _ _) (by simp),sI] at hw
  rw[hl2]
  refine aU (fun i:Nat=>[(2, .fn (.func g) [] caps),(10,kJ u l),(86,i64 l.length),(87,i64 i)])
   (fun i H n=>i<=l.length/\nx<=n/\I i H) (fun i=>l.length - i) 0
   ⟨_,_,_,Rt.slot 10 rfl (hw _ _ cA),cI,Nat.zero_le _,ca,hst 0 _ _ hI0 fun y hy=>(cZ (by omega)).trans (Eq.trans cB (hkp y hy))⟩ ?_
  clear r0' r1' r2' hkp hw hn
  rintro i H n ⟨hi,hn,hI⟩
  by_cases hil:i<l.length
  ·refine cV ?_
   refine Eq.mpr (iA caps _) ?_
   show iE Tryz.prog g (kJ u l::i64 i::caps) _ _ _
   refine aI (hcl l hl2 i _ _ hil ca (hst i H _ hI fun y hy=>cB)) ?_
   rintro _ H2 n2 ⟨hI2,hn2,_⟩
   refine cV ?_
   exact⟨i+1,by omega,_,_,_,Rt.refl _ _ _,cI,by omega,ca,hst _ _ _ hI2 fun y hy=>cB⟩
  ·obtain rfl:i=l.length:=by omega
   refine cV ?_
   exact⟨⟨ca,by rw[List.length_map],hst _ _ _ hI fun y hy=>cB⟩⟩
theorem DD (p q:dW):Pure Tryz.prog 151 [p.av,q.av] (fun r=>r=i64 (jG p q)):=by
 have c0:=rT p.dc q.dc
 have c1:=uA p.word q.word
 have c2:=wB [eX p.dc q.dc,eX p.word q.word] (by simp)
 refine aG RT rfl ?_
 refine cV ?_
 refine aS (args2:=[cL [eX p.dc q.dc,eX p.word q.word]]) (r:=i64 (jG p q)) c2 rfl (by simp[c8,cK]) trivial ?_
 refine cV ?_
 first|exact rfl|trivial
theorem uf {l:List dW} {i:Nat} (h:i<l.length) (d:AV):(l.map dW.av).getD ((i:Int)).toNat d=(l.getD i default).av:=by
 rw[Int.toNat_natCast];exact dJ dW.av l i d h
theorem zF (a b:List dW) (ha:a.length<9223372036854775807):Pure Tryz.prog 150 [fq a,fq b, .fn (.func 151) [] []] (fun r=>r=i64 (ec jG a b)):=by
 refine aG RS rfl ?_
 refine cV ?_
 rw[List.length_map]
 refine aL (fun i:Nat=>[(0,fq a),(1,fq b),(2, .fn (.func 151) [] []),(11,fq a),(12,i64 a.length),(13,i64 i)]) (fun i H n=>i<=a.length/\i<=b.length/\ec jG a b=ec jG (a.drop i) (b.drop i)) (fun i=>a.length - i) 0 cI ⟨Nat.zero_le _,Nat.zero_le _,rfl⟩ ?_
 rintro i H n ⟨hi,hib,ho⟩
 rw[ho]
 have a0:(a.map dW.av).length=a.length:=by simp
 have a1:(b.map dW.av).length=b.length:=by simp
 by_cases hil:i<a.length
 ·have e0:=fun d=>uf hil d
  by_cases hbl:i<b.length
  ·have e1:=fun d=>uf hbl d
   have hd:=vU jG default hil hbl
   have c0:=DD (a.getD i default) (b.getD i default)
   generalize a.getD i default=p at *
   generalize b.getD i default=q at *
   by_cases hz:jG p q=0
   ·have r0:=hz
    rw[if_pos hz] at hd
    refine cV ?_
    exact⟨i+1,by omega,cI,by omega,by omega,hd⟩
   ·have r0:=decide_eq_true hz
    rw[if_neg hz] at hd
    refine cV ?_
    rw[hd]
  ·rw[rX jG hil (by omega)]
   refine cV ?_
   first|exact rfl|trivial
 ·obtain rfl:i=a.length:=by omega
  rw[rV jG (Nat.le_refl _) hib]
  by_cases h:a.length<b.length
  ·rw[if_pos h]
   refine cV ?_
   first|exact rfl|trivial
  ·rw[if_neg h]
   refine cV ?_
   first|exact rfl|trivial
theorem zC (a b:List Int) (ha:a.length<9223372036854775807):Pure Tryz.prog 153 [cL a,cL b] (fun r=>r=i64 (ec eX a b)):=by
 refine aG RU rfl ?_
 refine cV ?_
 rw[List.length_map]
 refine aL (fun i:Nat=>[(0,cL a),(1,cL b),(9,cL a),(10,i64 a.length),(11,i64 i)]) (fun i H n=>i<=a.length/\i<=b.length/\ec eX a b=ec eX (a.drop i) (b.drop i)) (fun i=>a.length - i) 0 cI ⟨Nat.zero_le _,Nat.zero_le _,rfl⟩ ?_
 rintro i H n ⟨hi,hib,ho⟩
 rw[ho]
 have a0:(a.map i64).length=a.length:=by simp
 have a1:(b.map i64).length=b.length:=by simp
 by_cases hil:i<a.length
 ·have e0:=fun d=>ints_at hil d
  by_cases hbl:i<b.length
  ·have e1:=fun d=>ints_at hbl d
   have hd:=vU eX 0 hil hbl
   have c0:=uA (a.getD i 0) (b.getD i 0)
   generalize a.getD i 0=p at *
   generalize b.getD i 0=q at *
   by_cases hz:eX p q=0
   ·have r0:=hz
    rw[if_pos hz] at hd
    refine cV ?_
    exact⟨i+1,by omega,cI,by omega,by omega,hd⟩
   ·have r0:=decide_eq_true hz
    rw[if_neg hz] at hd
    refine cV ?_
    rw[hd]
  ·rw[rX eX hil (by omega)]
   refine cV ?_
   first|exact rfl|trivial
 ·obtain rfl:i=a.length:=by omega
  rw[rV eX (Nat.le_refl _) hib]
  by_cases h:a.length<b.length
  ·rw[if_pos h]
   refine cV ?_
   first|exact rfl|trivial
  ·rw[if_neg h]
   refine cV ?_
   first|exact rfl|trivial
theorem tx (a b:cn) (h1:a.cQ.length<9223372036854775807) (h2:a.mem.length<9223372036854775807):Pure Tryz.prog 96 [a.av,b.av] (fun r=>r=i64 (ft a b)):=by
 have c0:=zF a.cQ b.cQ h1
 have c1:=zC a.mem b.mem h2
 have c2:=wB [ec jG a.cQ b.cQ,ec eX a.mem b.mem,vS a.ended b.ended] (by simp)
 obtain⟨ap,am,ae⟩:=a
 obtain⟨bp,bm,be⟩:=b
 cases ae<;>cases be<;>(refine aG VO rfl ?_;refine cV ?_;refine aS (args2:=[cL [ec jG ap bp,ec eX am bm,_]]) (r:=i64 (s7 [ec jG ap bp,ec eX am bm,_])) c2 rfl (by simp[c8,cK]) trivial ?_;refine cV ?_;first|exact rfl|trivial)
theorem np (a b:cn) (h1:a.cQ.length<9223372036854775807) (h2:a.mem.length<9223372036854775807):Pure Tryz.prog 98 [a.av,b.av] (fun r=>r=bl (decide (ft a b=0))):=by
 have c0:=tx a b h1 h2
 refine aG VP rfl ?_
 refine cV ?_
 refine ez ?_
 simp
theorem KZ (x:Int):eX x x=0:=by unfold eX;simp
theorem rU (x y:Int):eX y x=-eX x y:=by
 unfold eX
 repeat' (first|omega|split)
theorem wA:∀l:List Int,s7 (l.map (-·))=-s7 l
 |[]=>rfl
 |x::l=>by
  simp only[List.map_cons,s7]
  by_cases h:x=0
  ·rw[if_pos (by omega),if_pos h];exact wA l
  ·rw[if_neg (by omega),if_neg h]
theorem G5 (p q:dW):jG q p=-jG p q:=by
 unfold jG
 rw[<-wA,rU p.dc,rU p.word];rfl
theorem rW {α:Type} {f:α->α->Int} (hf:∀x y,f y x=-f x y):∀a b:List α,ec f b a=-ec f a b
 |[],[]=>rfl
 |[],_::_=>rfl
 |_::_,[]=>rfl
 |x::a,y::b=>by
  rw[ec,ec,hf x y]
  by_cases h:f x y=0
  ·rw[if_pos (by omega),if_pos h];exact rW hf a b
  ·rw[if_neg (by omega),if_neg h]
theorem G3 (a b:Bool):vS b a=-vS a b:=by cases a<;>cases b<;>rfl
theorem G4 (a b:cn):ft b a=-ft a b:=by
 unfold ft
 rw[<-wA,rW G5 a.cQ,rW rU a.mem,G3 a.ended];rfl
theorem yE {l:List Int}:s7 l=0↔∀x∈l,x=0:=by
 induction l with
 |nil=>simp[s7]
 |cons x l ih=>
  rw[s7]
  by_cases h:x=0
  ·rw[if_pos h,ih];simp[h]
  ·rw[if_neg h];simp[h]
theorem kG {x y:Int}:eX x y=0↔x=y:=by
 constructor
 ·unfold eX;intro h;revert h;repeat' (first|omega|split)
 ·rintro rfl;exact KZ _
theorem pY {p q:dW}:jG p q=0↔p=q:=by
 unfold jG
 rw[yE]
 simp only[List.mem_cons,List.not_mem_nil,or_false,forall_eq_or_imp,forall_eq,kG]
 constructor
 ·rintro⟨h1,h2⟩;cases p;cases q;simp_all
 ·rintro rfl;exact⟨rfl,rfl⟩
theorem kH {α:Type} {f:α->α->Int} (hf:∀x y,f x y=0↔x=y):∀a b:List α,ec f a b=0↔a=b
 |[],[]=>by simp[ec]
 |[],_::_=>by simp[ec]
 |_::_,[]=>by simp[ec]
 |x::a,y::b=>by
  rw[ec]
  by_cases h:f x y=0
  ·rw[if_pos h,kH hf a b]
   have:=(hf x y).1 h
   simp[this]
  ·rw[if_neg h]
   have:x≠y:=fun e=>h ((hf x y).2 e)
   simp[h,this]
theorem pX {a b:cn}:ft a b=0↔a=b:=by
 unfold ft
 rw[yE]
 simp only[List.mem_cons,List.not_mem_nil,or_false,forall_eq_or_imp,forall_eq,kH (fun x y=>pY),kH (fun x y=>kG)]
 constructor
 ·rintro⟨h1,h2,h3⟩
  obtain⟨ap,am,ae⟩:=a
  obtain⟨bp,bm,be⟩:=b
  cases ae<;>cases be<;>simp_all[vS]
 ·rintro rfl
  exact⟨rfl,rfl,by cases a.ended<;>rfl⟩
section
open Classical in
noncomputable def eH (u:bx) (most:Int):Int×List cX:=
 if ¬cW u then(60,[]) else if ¬(1<=most/\most<=65536) then(2,[]) else match gU u most.toNat with
  |none=>(3,[])
  |some l=>(0,l)
theorem oC {u:bx} {most:Int} (h:¬cW u):eH u most=(60,[]):=by unfold eH;rw[if_pos h]
theorem kb {u:bx} {most:Int} (h:cW u) (hm:¬(1<=most/\most<=65536)):eH u most=(2,[]):=by unfold eH;rw[if_neg (fun e=>e h),if_pos hm]
theorem oD {u:bx} {most:Int} (h:cW u) (hm:1<=most/\most<=65536):eH u most=(match gU u most.toNat with|none=>(3,[])|some l=>(0,l)):=by unfold eH;rw[if_neg (fun e=>e h),if_neg (fun e=>e hm)]
def dU (u:bx) (l:List cX) (k:Nat):List cn:=(l.take k).filterMap fun f=>if f.m.stuck u then some (f.m.end_ u) else none
theorem xE {u:bx} {l:List cX} {k:Nat} (hk:k<l.length):dU u l (k+1)=dU u l k++(if(l.getD k default).m.stuck u then[(l.getD k default).m.end_ u] else[]):=by
 unfold dU
 rw[List.take_succ_eq_append_getElem hk,List.filterMap_append,show l.getD k default=l[k] by simp[List.getD,hk]]
 congr 1
 simp only[List.filterMap_cons,List.filterMap_nil]
 split
 ·rename_i h;split at h<;>simp_all
 ·rename_i h;split at h<;>simp_all
theorem kr (u:bx) (l:List cX) (k:Nat):(dU u l k).length<=k:=by
 unfold dU
 refine Nat.le_trans (List.length_filterMap_le _ _) ?_
 rw[List.length_take];omega
set_option maxHeartbeats 1000000 in
theorem B5 {u:bx} (hr:cW u) {l:List cX} (hf:iK u l) (hl:l.length<=65536) {k:Nat} (hk:k<l.length) {ub ob o:Nat} {H:Hp} {nx:Nat} (h1:ub<nx) (h2:ob<nx) (h3:o<nx) (hne:ob≠o)
 (r1:∃d,bw H ub=some (.row 25 3 d [u.av])) (r2:∃d,bw H ob=some (.row 41 1 d [.sl o (dU u l k).length])) (r3:∃d,bw H o=some (.row 105 3 d ((dU u l k).map cn.av))):
 cO Tryz.prog 93 [kJ u l,i64 k, .pt ub 1 0 0, .pt ob 1 0 0] H nx (fun _ H' n=>(∃d,bw H' ob=some (.row 41 1 d [.sl o (dU u l (k+1)).length]))/\(∃d,bw H' o=some (.row 105 3 d ((dU u l (k+1)).map cn.av)))/\nx<=n/\∀y,y<nx->y≠ob->y≠o->bw H' y=bw H y):=by
 obtain⟨d1,r1⟩:=r1
 obtain⟨d2,r2⟩:=r2
 obtain⟨d3,r3⟩:=r3
 have hel:=kr u l k
 obtain⟨hm,hp⟩:=hf.ok k hk
 have e0:∀d,(l.map (cX.av u)).getD ((k:Int)).toNat d= .agg [(l.getD k default).m.fz u,i64 (l.getD k default).from_,i64 (l.getD k default).dc]:=fun d=>by rw[Int.toNat_natCast];exact dJ (cX.av u) l k d hk
 have a0:(l.map (cX.av u)).length=l.length:=by simp
 have a1:((dU u l k).map cn.av).length=(dU u l k).length:=by simp
 have c0:=ue u hr (l.getD k default).m hm (by omega) (by have:=hm.ml;have:=hr.qa;omega)
 rw[xE hk]
 generalize (l.getD k default).m=m at *
 cases hs:m.stuck u with
 |true=>
  rw[lG,hs] at c0
  refine aJ S6 rfl ?_
  refine cV ?_
  refine⟨⟨⟨_,by simp only[List.length_append,if_true,List.length_cons,List.length_nil];exact cA⟩,⟨_,by simp only[List.map_append,if_true,List.map_cons,List.map_nil];exact cA⟩,ca,fun y y1 y2 y3=>cB⟩⟩
 |false=>
  rw[lG,hs] at c0
  refine aJ S6 rfl ?_
  refine cV ?_
  refine⟨⟨⟨_,by rw[if_neg (by decide),List.append_nil];exact cA⟩,⟨_,by rw[if_neg (by decide),List.append_nil];exact cA⟩,ca,fun y y1 y2 y3=>cB⟩⟩
end
def kV (l:List Int) (i:Nat):List Int:=(List.range l.length).map fun q=>if q<i\/l.length<=q+i then l.getD (l.length - 1 - q) 0 else l.getD q 0
theorem gl (l:List Int) (i:Nat):(kV l i).length=l.length:=by simp[kV]
theorem mq {l:List Int} {i q:Nat} (h:q<l.length):(kV l i).getD q 0=if q<i\/l.length<=q+i then l.getD (l.length - 1 - q) 0 else l.getD q 0:=by simp[kV,List.getD,h]
theorem FB (l:List Int):kV l 0=l:=by
 apply List.ext_getElem (gl l 0)
 intro q h1 h2
 have:=mq (l:=l) (i:=0) h2
 rw[if_neg (by omega)] at this
 simpa[List.getD,h1,h2] using this
theorem JP {l:List Int} {i:Nat} (h:l.length<=2 * i+1):kV l i=l.reverse:=by
 apply List.ext_getElem (by simp[gl])
 intro q h1 h2
 have hq:q<l.length:=by simpa using h2
 have:=mq (l:=l) (i:=i) hq
 rw[show(kV l i).getD q 0=(kV l i)[q] by simp[List.getD,h1]] at this
 rw[this,List.getElem_reverse]
 split
 ·simp[List.getD,show l.length - 1 - q<l.length by omega]
 ·have:q=l.length - 1 - q:=by omega
  conv=>lhs;rw[this]
  simp[List.getD,show l.length - 1 - q<l.length by omega]
theorem FA {l:List Int} {i:Nat} (h:2 * i+1<l.length):((kV l i).set i (l.getD (l.length - 1 - i) 0)).set (l.length - 1 - i) (l.getD i 0)=kV l (i+1):=by
 apply List.ext_getElem (by simp[gl])
 intro q h1 h2
 have hq:q<l.length:=by simpa[gl] using h2
 have e1:=mq (l:=l) (i:=i) hq
 have e2:=mq (l:=l) (i:=i+1) hq
 rw[show(kV l (i+1)).getD q 0=(kV l (i+1))[q] by simp[List.getD,h2]] at e2
 rw[show(kV l i).getD q 0=(kV l i)[q]'(by rw[gl];exact hq) by simp[List.getD,gl,hq]] at e1
 rw[e2,List.getElem_set,List.getElem_set,e1]
 by_cases c1:l.length - 1 - i=q
 ·subst c1
  rw[if_pos rfl,if_pos (by omega),show l.length - 1 - (l.length - 1 - i)=i by omega]
 ·rw[if_neg c1]
  by_cases c2:i=q
  ·subst c2
   rw[if_pos rfl,if_pos (by omega)]
  ·rw[if_neg c2]
   by_cases c3:q<i\/l.length<=q+i
   ·rw[if_pos c3,if_pos (by omega)]
   ·rw[if_neg c3,if_neg (by omega)]
set_option maxHeartbeats 1000000 in
theorem oz {b:Nat} {l:List Int} {H:Hp} {nx:Nat} (hb:b<nx) (hl:l.length<=1048576) (r:∃d,bw H b=some (.row 3 1 d (l.map i64))):
 cO Tryz.prog 83 [.sl b l.length] H nx (fun _ H' n=>(∃d,bw H' b=some (.row 3 1 d (l.reverse.map i64)))/\nx<=n/\∀y,y<nx->y≠b->bw H' y=bw H y):=by
 obtain⟨d0,r0'⟩:=r
 refine aJ VK rfl ?_
 have a0:(l.map i64).length=l.length:=by simp
 refine cV ?_
 refine aL (fun σ:Nat×Int=>[(0, .sl b l.length),(2,i64 σ.1),(3,i64 σ.2)]) (fun σ H2 n=>σ.2=(l.length:Int) - 1 - σ.1/\2 * σ.1<=l.length+1/\nx<=n/\(∃d,bw H2 b=some (.row 3 1 d ((kV l σ.1).map i64)))/\∀y,y<nx->y≠b->bw H2 y=bw H y) (fun σ=>l.length - σ.1) (0,(l.length:Int) - 1) cI ⟨by simp,by dsimp only;omega,ca,⟨d0,by rw[FB];exact cA⟩,fun y h1 h2=>cB⟩ ?_
 clear r0' a0
 rintro⟨i,j⟩ H2 n ⟨hj,hi,hn,⟨d,r1⟩,hk⟩
 dsimp only at hj hi r1 ⊢
 have a0:((kV l i).map i64).length=l.length:=by simp[gl]
 by_cases hc:2 * i+1<l.length
 ·obtain⟨jn,rfl⟩:∃jn:Nat,j=jn:=⟨j.toNat,by omega⟩
  have hjn:jn=l.length - 1 - i:=by omega
  have e0:=fun d=>ints_at (l:=kV l i) (k:=i) (by rw[gl];omega) d
  have e1:=fun d=>ints_at (l:=kV l i) (k:=jn) (by rw[gl];omega) d
  have e2:∀x d,(((kV l i).map i64).set ((i:Int)).toNat x).getD ((jn:Int)).toNat d=i64 ((kV l i).getD jn 0):=fun x d=>by
   rw[getD_set_ne (by omega)];exact e1 d
  have v0:=mq (l:=l) (i:=i) (q:=i) (by omega)
  rw[if_neg (by omega)] at v0
  have v1:=mq (l:=l) (i:=i) (q:=jn) (by omega)
  rw[if_neg (by omega)] at v1
  rw[v0] at e0
  rw[v1] at e1 e2
  have e3:=e2 (i64 (l.getD jn 0))
  clear e2
  have hnx:=FA hc
  rw[<-hjn] at hnx
  refine cV ?_
  refine⟨(i+1,(jn:Int) - 1),by dsimp only;omega,cI,by dsimp only;omega,by dsimp only;omega,ca,⟨_,by dsimp only;rw[<-hnx,List.map_set,List.map_set];exact cA⟩,fun y h1 h2=>Eq.trans cB (hk y h1 h2)⟩
 ·refine cV ?_
  rw[JP (by omega)] at r1
  exact⟨⟨d,cA⟩,ca,fun y h1 h2=>Eq.trans cB (hk y h1 h2)⟩
def iR (l:List cX):Nat->Nat->List Int
 |0,_=>[]
 |f+1,k=>if 0<=(l.getD k default).from_ then(l.getD k default).dc::iR l f (l.getD k default).from_.toNat else[]
theorem iK.vc {u:bx} {l:List cX} (h:iK u l) {k:Nat} (hk:k<l.length) (h0:0<=(l.getD k default).from_):(l.getD k default).from_.toNat<k/\0<k:=by
 rcases Nat.eq_zero_or_pos k with e|e
 ·subst e;rw[h.first] at h0;exact absurd h0 (by simp)
 ·obtain⟨k',t,h1,_,_,h2⟩:=h.G2 k e hk
  rw[h2]
  exact⟨by dsimp only;omega,e⟩
theorem rJ {u:bx} {l:List cX} (h:iK u l):∀{f g k:Nat},k<l.length->k<=f->k<=g->iR l f k=iR l g k
 |0,0,k,hk,hf,hg=>rfl
 |0,g+1,k,hk,hf,hg=>by
  obtain rfl:k=0:=by omega
  rw[iR,iR,h.first];rfl
 |f+1,0,k,hk,hf,hg=>by
  obtain rfl:k=0:=by omega
  rw[iR,iR,h.first];rfl
 |f+1,g+1,k,hk,hf,hg=>by
  rw[iR,iR]
  split
  ·rename_i h0
   obtain⟨h1,h2⟩:=h.vc hk h0
   rw[rJ h (f:=f) (g:=g) (by omega) (by omega) (by omega)]
  ·rfl
abbrev nE (l:List cX) (k:Nat):List Int:=iR l k k
theorem wc {u:bx} {l:List cX} (h:iK u l) {k:Nat} (hk:k<l.length) (h0:0<=(l.getD k default).from_):nE l k=(l.getD k default).dc::nE l (l.getD k default).from_.toNat:=by
 obtain⟨h1,h2⟩:=h.vc hk h0
 obtain⟨f,rfl⟩:∃f,k=f+1:=⟨k - 1,by omega⟩
 show iR l (f+1) (f+1)=_
 rw[iR,if_pos h0]
 congr 1
 exact rJ h (by omega) (by omega) (Nat.le_refl _)
theorem tn {l:List cX} {k:Nat} (h0:¬0<=(l.getD k default).from_):nE l k=[]:=by
 show iR l k k=[]
 cases k with
 |zero=>rfl
 |succ f=>rw[iR,if_neg h0]
theorem tm (l:List cX):∀f k,(iR l f k).length<=f
 |0,k=>Nat.le_refl _
 |f+1,k=>by
  rw[iR]
  split
  ·rw[List.length_cons];have:=tm l f (l.getD k default).from_.toNat;omega
  ·simp
def fK (u:bx) (l:List cX) (e:cn) (k:Nat):Option Nat:=(List.range k).find? fun i=>(l.getD i default).m.stuck u&&decide (ft ((l.getD i default).m.end_ u) e=0)
theorem zh (u:bx) (l:List cX) (e:cn) (k:Nat):fK u l e (k+1)=match fK u l e k with
 |some i=>some i
 |none=>if(l.getD k default).m.stuck u&&decide (ft ((l.getD k default).m.end_ u) e=0) then some k else none:=by
 unfold fK
 rw[List.range_succ,List.find?_append]
 cases(List.range k).find? fun i=>(l.getD i default).m.stuck u&&decide (ft ((l.getD i default).m.end_ u) e=0) with
 |some i=>rfl
 |none=>
  simp only[Option.none_or,List.find?_cons,List.find?_nil]
  split<;>simp_all
theorem IL {u:bx} {l:List cX} {e:cn} {k i:Nat} (h:fK u l e k=some i):i<k:=by
 have:=List.mem_of_find?_eq_some h
 exact List.mem_range.1 this
def jg (l:List cX):Option Nat->List Int
 |none=>[]
 |some i=>(nE l i).reverse
set_option maxHeartbeats 2000000 in
theorem PW {u:bx} (hr:cW u) {l:List cX} (hf:iK u l) (hl:l.length<=65536) {e:cn} (he1:e.cQ.length * 16<=140737488355328) (he2:e.mem.length * 8<=140737488355328) {k:Nat} (hk:k<l.length) {ub ib eb wb W:Nat} {H:Hp} {nx:Nat} (hn:ub<nx/\ib<nx/\eb<nx/\wb<nx/\W<nx) (hne:ub≠ib/\ub≠wb/\ub≠W/\ib≠eb/\ib≠wb/\ib≠W/\eb≠wb/\eb≠W/\wb≠W)
 (r0:∃d,bw H ub=some (.row 25 3 d [u.av])) (r1:∃d,bw H ib=some (.row 4 1 d [bl (fK u l e k).isSome])) (r2:∃d,bw H eb=some (.row 105 3 d [e.av])) (r3:∃d,bw H wb=some (.row 31 1 d [.sl W (jg l (fK u l e k)).length])) (r4:∃d,bw H W=some (.row 3 1 d ((jg l (fK u l e k)).map i64))):
 cO Tryz.prog 103 [kJ u l,i64 k, .pt ub 1 0 0, .pt ib 1 0 0, .pt eb 1 0 0, .pt wb 1 0 0] H nx (fun _ H' n=>(∃d,bw H' ib=some (.row 4 1 d [bl (fK u l e (k+1)).isSome]))/\(∃d,bw H' wb=some (.row 31 1 d [.sl W (jg l (fK u l e (k+1))).length]))/\(∃d,bw H' W=some (.row 3 1 d ((jg l (fK u l e (k+1))).map i64)))/\nx<=n/\∀y,y<nx->y≠ib->y≠wb->y≠W->bw H' y=bw H y):=by
 obtain⟨d0,r0'⟩:=r0
 obtain⟨d1,r1'⟩:=r1
 obtain⟨d2,r2'⟩:=r2
 obtain⟨d3,r3'⟩:=r3
 obtain⟨d4,r4'⟩:=r4
 obtain⟨n0,n1,n2,n3,n4⟩:=hn
 obtain⟨m0,m1,m2,m3,m4,m5,m6,m7,m8⟩:=hne
 obtain⟨hm,hp⟩:=hf.ok k hk
 have e0:∀d,(l.map (cX.av u)).getD ((k:Int)).toNat d= .agg [(l.getD k default).m.fz u,i64 (l.getD k default).from_,i64 (l.getD k default).dc]:=fun d=>by rw[Int.toNat_natCast];exact dJ (cX.av u) l k d hk
 have a0:(l.map (cX.av u)).length=l.length:=by simp
 have hgl:=hr.qa
 have hml:=hm.ml
 have c0:=ue u hr (l.getD k default).m hm (by omega) (by omega)
 have c1:=np ((l.getD k default).m.end_ u) e (by show(l.getD k default).m.cQ.length<_;omega) (by show(l.getD k default).m.mem.length<_;omega)
 rw[zh]
 cases hh:fK u l e k with
 |some i=>
  rw[hh] at r1' r3' r4'
  dsimp only
  generalize (l.getD k default).m=m at *
  cases hs:m.stuck u with
  |true=>
   rw[lG,hs] at c0
   refine aJ xj rfl ?_
   refine cV ?_
   exact⟨⟨_,cA⟩,⟨_,cA⟩,⟨_,cA⟩,ca,fun y y1 y2 y3 y4=>cB⟩
  |false=>
   rw[lG,hs] at c0
   refine aJ xj rfl ?_
   refine cV ?_
   exact⟨⟨_,cA⟩,⟨_,cA⟩,⟨_,cA⟩,ca,fun y y1 y2 y3 y4=>cB⟩
 |none=>
  rw[hh] at r1' r3' r4'
  dsimp only
  by_cases hs:(l.getD k default).m.stuck u=true
  ·rw[lG,hs] at c0
   by_cases hc:ft ((l.getD k default).m.end_ u) e=0
   ·rw[hs,decide_eq_true hc,if_pos (by rfl)]
    rw[decide_eq_true hc] at c1
    refine aJ xj rfl ?_
    refine cV ?_
    clear c0 c1 e0 r0' r2'
    have hway:jg l none=[]:=rfl
    rw[hway] at r3' r4'
    refine aL (fun σ:Nat×List Int=>[(0,kJ u l),(5, .pt wb 1 0 0),(10,i64 σ.1)])
     (fun σ H2 n=>σ.1<l.length/\σ.2++nE l σ.1=nE l k/\nx<=n/\(∃d,bw H2 ib=some (.row 4 1 d [bl true]))/\(∃d,bw H2 wb=some (.row 31 1 d [.sl W σ.2.length]))/\(∃d,bw H2 W=some (.row 3 1 d (σ.2.map i64)))/\∀y,y<nx->y≠ib->y≠wb->y≠W->bw H2 y=bw H y) (fun σ=>σ.1) (k,[]) cI
     ⟨hk,rfl,ca,⟨_,cA⟩,⟨_,cA⟩,⟨_,cA⟩,fun y y1 y2 y3 y4=>cB⟩ ?_
    clear r1' r3' r4'
    rintro⟨at_,acc⟩ H2 n ⟨hat,hacc,hn2,⟨d1,r1'⟩,⟨d3,r3'⟩,⟨d4,r4'⟩,hkp⟩
    dsimp only at hat hacc r3' r4' ⊢
    have hbl:=tm l k k
    have hal:acc.length<=65536:=by
     have:=congrArg List.length hacc
     rw[List.length_append] at this
     have:(nE l k).length<=k:=hbl
     omega
    have a1:(acc.map i64).length=acc.length:=by simp
    have e0:∀d,(l.map (cX.av u)).getD ((at_:Int)).toNat d= .agg [(l.getD at_ default).m.fz u,i64 (l.getD at_ default).from_,i64 (l.getD at_ default).dc]:=fun d=>by rw[Int.toNat_natCast];exact dJ (cX.av u) l at_ d hat
    by_cases h0:0<=(l.getD at_ default).from_
    ·obtain⟨hlt,hpos⟩:=hf.vc hat h0
     have hon:=wc hf hat h0
     obtain⟨q,hq⟩:∃q:Nat,(l.getD at_ default).from_=q:=⟨_,(Int.toNat_of_nonneg h0).symm⟩
     rw[hq] at e0 hlt hon
     rw[Int.toNat_natCast] at hlt hon
     have hge:¬(q:Int)<0:=by omega
     refine cV ?_
     refine⟨(q,acc++[(l.getD at_ default).dc]),hlt,cI,by dsimp only;omega,by dsimp only;rw[List.append_assoc,List.singleton_append,<-hon];exact hacc,ca,⟨_,cA⟩,⟨_,by dsimp only;rw[List.length_append];exact cA⟩,⟨_,by dsimp only;rw[List.map_append];exact cA⟩,fun y y1 y2 y3 y4=>Eq.trans cB (hkp y y1 y2 y3 y4)⟩
    ·have hon:=tn h0
     rw[hon,List.append_nil] at hacc
     subst hacc
     refine cV ?_
     refine aI (oz (b:=W) (l:=nE l k) ?_ (by omega) ?_) ?_
     ·exact ca
     ·exact⟨_,cA⟩
     rintro _ H3 n3 ⟨⟨d5,r5⟩,hn3,hk3⟩
     have q1:=hk3 ib ca (by omega)
     have q2:=hk3 wb ca (by omega)
     refine cV ?_
     exact⟨⟨d1,q1.trans cA⟩,⟨d3,by simp only[jg,List.length_reverse];exact q2.trans cA⟩,⟨d5,cA⟩,ca,fun y y1 y2 y3 y4=>(hk3 y ca y4).trans (Eq.trans cB (hkp y y1 y2 y3 y4))⟩
   ·rw[hs,decide_eq_false hc,if_neg (by decide)]
    rw[decide_eq_false hc] at c1
    refine aJ xj rfl ?_
    refine cV ?_
    exact⟨⟨_,cA⟩,⟨_,cA⟩,⟨_,cA⟩,ca,fun y y1 y2 y3 y4=>cB⟩
  ·have hs2:(l.getD k default).m.stuck u=false:=by simpa using hs
   rw[lG,hs2] at c0
   rw[hs2,Bool.false_and,if_neg (by decide)]
   refine aJ xj rfl ?_
   refine cV ?_
   exact⟨⟨_,cA⟩,⟨_,cA⟩,⟨_,cA⟩,ca,fun y y1 y2 y3 y4=>cB⟩
theorem QM {te e:TypeId} {sz b nx:Nat} {H:Hp} {d:AV} (hb:b<nx) (hsz:0<sz) (h:bw H b=some (.row te 1 d [.sc (.slice none 0 0)])):∃H2,Wk .any H nx .any H2 (nx+1)/\bw H2 b=some (.row te 1 .any [.sl nx 0])/\bw H2 nx=some (.row e sz .any [])/\∀y,y<nx->y≠b->bw H2 y=bw H y:=by
 refine⟨l9 te e sz b 1 nx H,Wk.born hb hsz h, ?_, ?_,fun y y1 y2=>G0 y1 y2⟩
 ·rw[l9,ct,ug];rfl
 ·rw[l9,cZ (by omega),kM,if_pos (by omega)]
noncomputable def uu (u:bx) (most:Int) (e:cn):AV:=
 if(eH u most).1=0 then .dO [cL (jg (eH u most).2 (fK u (eH u most).2 e (eH u most).2.length)),bl (fK u (eH u most).2 e (eH u most).2.length).isSome,i64 0] else .dO [.sc (.slice none 0 0),bl false,i64 (eH u most).1]
theorem G1 {P:Program} {f:FuncId} {args:List AV} {te:TypeId} (e:TypeId) (sz:Nat) {b nx:Nat} {H:Hp} {d:AV} {R:AV->Hp->Nat->Prop} (hb:b<nx) (hsz:0<sz) (h:bw H b=some (.row te 1 d [.sc (.slice none 0 0)]))
 (k:∀H2,bw H2 b=some (.row te 1 .any [.sl nx 0])->bw H2 nx=some (.row e sz .any [])->(∀y,y<nx->y≠b->bw H2 y=bw H y)->cO P f args H2 (nx+1) R):cO P f args H nx R:=by
 obtain⟨H2,hw,q1,q2,q3⟩:=QM hb hsz h
 exact cO.J1 (k H2 q1 q2 q3) (hw.same _)
def wR (u:bx) (most:Int) (I:Nat->Hp->Prop) (r:AV) (H:Hp):Prop:=
 match gU u most.toNat with
 |none=>r= .dO [i64 0,i64 3]
 |some l=>r= .dO [i64 l.length,i64 0]/\I l.length H
theorem KG.short {u:bx} {most:Int} {I:Nat->Hp->Prop} {nx:Nat} {H0:Hp} {r:AV} {H:Hp} {n:Nat} (h:KG u most I nx H0 r H n):wR u most I r H:=by
 obtain⟨_,h⟩:=h
 unfold wR
 revert h
 cases gU u most.toNat with
 |none=>exact fun h=>h.1
 |some l=>exact id
set_option maxHeartbeats 2000000 in
theorem J7 (u:bx) (hu:u.Wf) (most:Int) (e:cn) (he1:e.cQ.length * 16<=140737488355328) (he2:e.mem.length * 8<=140737488355328):Pure Tryz.prog 58 [u.av,i64 most,e.av] (fun r=>r=uu u most e):=by
 refine cm ?_ (by unfold uu;split<;>simp[cK,c8,cD])
 refine aJ U6 rfl ?_
 have hnil:cL []= .im 1 .any []:=rfl
 by_cases hr:cW u
 ·by_cases hm:1<=most/\most<=65536
  ·unfold uu
   rw[oD hr hm]
   refine cV ?_
   let l:=(gU u most.toNat).getD []
   let I:Nat->Hp->Prop:=fun k H=>(∃d,bw H 0=some (.row 25 3 d [u.av]))/\(∃d,bw H 6=some (.row 4 1 d [bl (fK u l e k).isSome]))/\(∃d,bw H 1=some (.row 105 3 d [e.av]))/\(∃d,bw H 5=some (.row 31 1 d [.sl 11 (jg l (fK u l e k)).length]))/\(∃d,bw H 11=some (.row 3 1 d ((jg l (fK u l e k)).map i64)))
   refine aI (R:=fun r H n=>12<=n/\wR u most I r H) (G1 (b:=5) 3 1 (by omega) (by omega) (d:=gN false [.slice none 0 0]) (te:=31) ?_ fun H2 q1 q2 q3=> ?_) ?_
   ·exact cA
   ·refine(rC u hu hr most hm _ [.pt 0 1 0 0, .pt 6 1 0 0, .pt 1 1 0 0, .pt 5 1 0 0] H2 12 I ?_ ?_ ?_).mono fun r H n h=>⟨h.1,h.short⟩
    ·exact⟨⟨_,(q3 0 (by omega) (by omega)).trans cA⟩,⟨_,(q3 6 (by omega) (by omega)).trans cA⟩,⟨_,(q3 1 (by omega) (by omega)).trans cA⟩,⟨_,q1⟩,⟨_,q2⟩⟩
    ·rintro k H H' ⟨⟨d0,p0⟩,⟨d1,p1⟩,⟨d2,p2⟩,⟨d3,p3⟩,⟨d4,p4⟩⟩ hk
     exact⟨⟨d0,(hk 0 (by omega)).trans p0⟩,⟨d1,(hk 6 (by omega)).trans p1⟩,⟨d2,(hk 1 (by omega)).trans p2⟩,⟨d3,(hk 5 (by omega)).trans p3⟩,⟨d4,(hk 11 (by omega)).trans p4⟩⟩
    ·intro l' hl' k H n hk hn ⟨p0,p1,p2,p3,p4⟩
     have hll:l=l':=by show(gU u most.toNat).getD []=l';rw[hl'];rfl
     rw[hll] at p1 p3 p4
     obtain⟨hf,hlm,_⟩:=kd hu hr (by omega) hl'
     refine(PW hr hf (by omega) he1 he2 hk (ub:=0) (ib:=6) (eb:=1) (wb:=5) (W:=11) ⟨by omega,by omega,by omega,by omega,by omega⟩ ⟨by omega,by omega,by omega,by omega,by omega,by omega,by omega,by omega,by omega⟩ p0 p1 p2 p3 p4).mono ?_
     rintro _ H' n' ⟨s1,s2,s3,s4,s5⟩
     obtain⟨d0,p0⟩:=p0
     obtain⟨d2,p2⟩:=p2
     refine⟨⟨⟨d0,(s5 0 (by omega) (by omega) (by omega) (by omega)).trans p0⟩, ?_,⟨d2,(s5 1 (by omega) (by omega) (by omega) (by omega)).trans p2⟩, ?_, ?_⟩,s4,fun y y1 y2=>s5 y y2 (by omega) (by omega) (by omega)⟩
     ·rw[hll];exact s1
     ·rw[hll];exact s2
     ·rw[hll];exact s3
   rintro r H' n' ⟨hn,hA⟩
   revert hA
   unfold wR
   cases hs:gU u most.toNat with
   |none=>
    rintro rfl
    refine cV ?_
    exact⟨rfl⟩
   |some l'=>
    rintro⟨rfl,⟨d0,p0⟩,⟨d1,p1⟩,⟨d2,p2⟩,⟨d3,p3⟩,⟨d4,p4⟩⟩
    have hll:l=l':=by show(gU u most.toNat).getD []=l';rw[hs];rfl
    rw[hll] at p1 p3 p4
    refine cV ?_
    refine⟨?_⟩
    dsimp only
    rw[if_pos rfl]
    have hf1:cp.dX H' 5 (.sl 11 (jg l' (fK u l' e l'.length)).length)=cL (jg l' (fK u l' e l'.length)):=by
     rw[dZ (k:=4) p4 (by simp),cx _ ((cD _ _).2 fun _ _=>by simp[cK])]
    show AV.dO [cp.dX H' 5 (.sl 11 (jg l' (fK u l' e l'.length)).length),bl (fK u l' e l'.length).isSome,i64 0]=_
    rw[hf1]
  ·unfold uu
   rw[kb hr hm]
   refine cV ?_
   refine aI (tc u hu hr most hm _ _ _ _) ?_
   rintro r H' n' ⟨rfl,hn,hk⟩
   refine cV ?_
   exact⟨rfl⟩
 ·unfold uu
  rw[oC hr]
  refine cV ?_
  refine aI (BV u hu hr most _ _ _ _) ?_
  rintro r H' n' ⟨rfl,hn,hk⟩
  refine cV ?_
  exact⟨rfl⟩
theorem vT {x y z:Int} (h1:eX x y<0) (h2:eX y z<0):eX x z<0:=by
 unfold eX at *
 repeat' split at *
 all_goals omega
theorem VU (a b c:Int):s7 [a,b,c]<0↔a<0\/a=0/\(b<0\/b=0/\c<0):=by
 simp only[s7]
 repeat' split
 all_goals omega
theorem VT (a b:Int):s7 [a,b]<0↔a<0\/a=0/\b<0:=by
 simp only[s7]
 repeat' split
 all_goals omega
theorem K0 {p q r:dW} (h1:jG p q<0) (h2:jG q r<0):jG p r<0:=by
 unfold jG at *
 rw[VT] at *
 simp only[kG] at *
 rcases h1 with h1|⟨e1,h1⟩<;>rcases h2 with h2|⟨e2,h2⟩
 ·exact .inl (vT h1 h2)
 ·rw[<-e2];exact .inl h1
 ·rw[e1];exact .inl h2
 ·exact .inr ⟨e1.trans e2,vT h1 h2⟩
theorem vV {α:Type} {f:α->α->Int} (hz:∀x y,f x y=0↔x=y) (hf:∀x y z,f x y<0->f y z<0->f x z<0):∀a b c:List α,ec f a b<0->ec f b c<0->ec f a c<0
 |[],[],_,h1,_=>by simp[ec] at h1
 |[],_::_,[],_,h2=>by simp[ec] at h2
 |[],_::_,_::_,_,_=>by simp[ec]
 |_::_,[],_,h1,_=>by simp[ec] at h1
 |_::_,_::_,[],_,h2=>by simp[ec] at h2
 |x::a,y::b,z::c,h1,h2=>by
  rw[ec] at h1 h2 ⊢
  by_cases e1:f x y=0
  ·have:=(hz _ _).1 e1
   subst this
   rw[if_pos e1] at h1
   by_cases e2:f x z=0
   ·rw[if_pos e2] at h2 ⊢
    exact vV hz hf a b c h1 h2
   ·rw[if_neg e2] at h2 ⊢
    exact h2
  ·rw[if_neg e1] at h1
   by_cases e2:f y z=0
   ·have:=(hz _ _).1 e2
    subst this
    rw[if_neg e1]
    exact h1
   ·rw[if_neg e2] at h2
    have h3:=hf _ _ _ h1 h2
    rw[if_neg (by omega)]
    exact h3
theorem KY {a b c:cn} (h1:ft a b<0) (h2:ft b c<0):ft a c<0:=by
 unfold ft at *
 rw[VU] at *
 simp only[kH (fun x y=>pY),kH (fun x y=>kG)] at *
 have tp:=vV (f:=jG) (fun x y=>pY) (fun x y z=>K0) a.cQ b.cQ c.cQ
 have ti:=vV (f:=eX) (fun x y=>kG) (fun x y z=>vT) a.mem b.mem c.mem
 have tb:vS a.ended b.ended<0->vS b.ended c.ended<0->vS a.ended c.ended<0:=by
  cases a.ended<;>cases b.ended<;>cases c.ended<;>simp[vS]
 rcases h1 with h1|⟨e1,h1⟩<;>rcases h2 with h2|⟨e2,h2⟩
 ·exact .inl (tp h1 h2)
 ·rw[<-e2];exact .inl h1
 ·rw[e1];exact .inl h2
 ·refine .inr ⟨e1.trans e2, ?_⟩
  rcases h1 with h1|⟨e1',h1⟩<;>rcases h2 with h2|⟨e2',h2⟩
  ·exact .inl (ti h1 h2)
  ·rw[<-e2'];exact .inl h1
  ·rw[e1'];exact .inl h2
  ·exact .inr ⟨e1'.trans e2',tb h1 h2⟩
structure jz {α:Type} (f:α->α->Int):Prop where
 neg:∀x y,f y x=-f x y
 zero:∀x y,f x y=0↔x=y
 tr:∀x y z,f x y<0->f y z<0->f x z<0
theorem jZ:jz ft:=⟨G4,fun _ _=>pX,fun _ _ _=>KY⟩
def u7 {α:Type} (f:α->α->Int) (x y:α):Bool:=decide (f x y<=0)
theorem jz.Q8 {α:Type} {f:α->α->Int} (h:jz f) {x y z:α} (h1:u7 f x y=true) (h2:u7 f y z=true):u7 f x z=true:=by
 simp only[u7,decide_eq_true_eq] at *
 by_cases e1:f x y=0
 ·rw[(h.zero _ _).1 e1];exact h2
 ·by_cases e2:f y z=0
  ·rw[<-(h.zero _ _).1 e2];exact h1
  ·have:=h.tr x y z (by omega) (by omega);omega
theorem jz.le_total {α:Type} {f:α->α->Int} (h:jz f) (x y:α):(u7 f x y||u7 f y x)=true:=by
 have:=h.neg x y
 simp only[u7,Bool.or_eq_true,decide_eq_true_eq]
 omega
theorem jz.CI {α:Type} {f:α->α->Int} (h:jz f) {x y:α} (h1:u7 f x y=true) (h2:u7 f y x=true):x=y:=by
 have:=h.neg x y
 simp only[u7,decide_eq_true_eq] at *
 exact(h.zero _ _).1 (by omega)
def fe {α:Type} (f:α->α->Int) (l:List α):List α:=l.mergeSort (u7 f)
theorem my {α:Type} (f:α->α->Int) (l:List α):(fe f l).length=l.length:=by simp[fe]
theorem lH {α:Type} (f:α->α->Int) (l:List α):(fe f l).Perm l:=List.mergeSort_perm _ _
theorem jz.sorted {α:Type} {f:α->α->Int} (h:jz f) (l:List α):(fe f l).Pairwise fun x y=>u7 f x y=true:=
 List.pairwise_mergeSort (le:=u7 f) (fun a b c h1 h2=>h.Q8 h1 h2) (fun a b=>h.le_total a b) l
theorem jz.MQ {α:Type} {f:α->α->Int} (h:jz f) {l l':List α} (hp:l'.Perm l) (hs:l'.Pairwise fun x y=>u7 f x y=true):l'=fe f l:=
 List.Perm.eq_of_pairwise (fun a b _ _ h1 h2=>h.CI h1 h2) hs (h.sorted l) (hp.trans (lH f l).symm)
end Go.Proofs.YtjopoheligmmoaaGreatDoor
