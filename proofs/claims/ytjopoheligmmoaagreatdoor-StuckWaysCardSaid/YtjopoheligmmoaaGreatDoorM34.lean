import Derived.Test.YtjopoheligmmoaaGreatDoorM30
import Derived.Test.YtjopoheligmmoaaGreatDoorM32
import Derived.Test.YtjopoheligmmoaaGreatDoorM33
import Derived.Lib.ItoaLen
namespace Go.Proofs.YtjopoheligmmoaaGreatDoor
open Go Go.cw Go.Proofs
set_option linter.unusedSimpArgs false
set_option linter.unusedVariables false
set_option maxRecDepth 8000
section
def kr (S:List Nat) (H:Hp):Hp:=S.map fun y=>(y,bt H y)
theorem BR {S:List Nat} {H:Hp} {y:Nat} (h:y∈S):bt (kr S H) y=bt H y:=by
 induction S with
 |nil=>cases h
 |cons x S ih=>
  rw[kr,List.map_cons]
  by_cases e:y=x
  ·subst e;exact ca _ _ _
  ·rw[cN e]
   exact ih (by simpa[e] using h)
theorem sA {S:List Nat} {H:Hp} {y:Nat} {q:fH} (h:bt (kr S H) y=some q):bt H y=some q:=by
 have:y∈S:=by
  have:=oM h
  simpa[kr] using this
 rw[BR this] at h;exact h
theorem eW {S:List Nat} {H H2:Hp} {y:Nat} (h:y∉S):bt (mj (kr S H) H2) y=bt H2 y:=gN (by simpa[kr] using h)
section
variable {u:bx} {m:MS} {L:ML} {H:Hp}
theorem ML.At.vm (h:L.At u m H) (k:Nat):Go.cw.jB (kr L.all H) (k+4) (.pt L.mr 1 0 0)=m.fz u:=by
 have h:=h.cc (H':=kr L.all H) fun y hy=>BR hy
 generalize kr L.all H=G at *
 obtain⟨d1,h1⟩:=h.rM
 obtain⟨d2,h2⟩:=h.rA
 obtain⟨d3,h3⟩:=h.rS
 obtain⟨d4,h4⟩:=h.rE
 obtain⟨d5,h5⟩:=h.rH
 obtain⟨d6,h6⟩:=h.rP
 have hsl:(dR L.ids m.bz).length=m.bz.length:=ru h.len
 have hs:(dR L.ids m.bz).map (Go.cw.jB G (k+1))=m.bz.map cT:=by
  apply List.ext_getElem (by simp[hsl])
  intro t q1 q2
  have ht:t<m.bz.length:=by simpa using q2
  have hti:t<L.ids.length:=by rw[h.len];exact ht
  obtain⟨d,hd⟩:=h.rL t ht
  rw[show L.ids.getD t 0=L.ids[t] by simp[List.getD,hti],show m.bz.getD t []=m.bz[t] by simp[List.getD,ht]] at hd
  rw[List.getElem_map,List.getElem_map]
  simp only[dR,List.getElem_map,List.getElem_zip]
  rw[oO hd (by simp),gu _ ((cD _ _).2 fun _ _=>by simp[cH])]
 rw[show Go.cw.jB G (k+4) (.pt L.mr 1 0 0)= .ip 8 .any ([m.rows u L.a L.s L.me L.ho L.pr].map (Go.cw.jB G (k+3))) 0 0 from QQ h1 rfl]
 simp only[List.map_cons,List.map_nil,MS.rows]
 rw[zp]
 simp only[List.map_cons,List.map_nil]
 rw[oO h2 (by simp),oO h3 hsl,oO h4 (by simp),oO h5 (by simp),oO h6 (by simp),hs]
 rw[gu _ ((cD _ _).2 fun _ _=>by simp[cH]),gu _ ((cD _ _).2 fun _ _=>by simp[cH]),gu _ ((cD _ _).2 fun _ _=>by simp[cH]),gu _ ((cD _ _).2 fun _ _=>by simp[cH])]
 rw[l9 _ (show cH 0 (cF u.shared) by simp[cH,cD]),l9 _ (show cH 0 (cF u.cB) by simp[cH,cD]),l9 _ (show cH 0 (cZ u.bw) by simp[cH,cD])]
 rfl
end
def cV.cells (u:bx) (f:cV):List AV:=[f.m.fz u,i64 f.from_,i64 f.cr]
abbrev cV.av (u:bx) (f:cV):AV:= .agg (f.cells u)
abbrev lY (u:bx) (l:List cV):AV:= .im 3 .any (l.map (cV.av u))
@[simp] theorem HY (n:Nat) (u:bx) (f:cV):c8 n (f.cells u):=by
  have:=pO n u f.m
  simp[cV.cells,c8,cH]
theorem C5 (u:bx) (l:List cV):c8 0 (l.map (cV.av u)):=(cD _ _).2 fun _ _=>by simp only[cV.av,cH];exact HY _ _ _
theorem wa {u:bx} {m:MS} {L:ML} {H:Hp} {lb nx:Nat} {d:AV} {l:List cV} {fr th:Int} (hM:L.At u m H) (hl:bt H lb=some (.row 163 3 d (l.map (cV.av u)++[.agg [.pt L.mr 1 0 0,i64 fr,i64 th]]))) (hlb:lb∉L.all):
 Wk .any H nx .any (mj (kr L.all H) ((lb,some (.row 163 3 .any ((l++[(⟨m,fr,th⟩:cV)]).map (cV.av u))))::H)) nx:=by
 have:=Wk.jB (nx:=nx) (kr L.all H) 5 .any hl (fun b q hq=>sA hq)
 rw[List.map_append,gu _ (C5 u l),List.map_cons,List.map_nil,zp,List.map_cons,List.map_cons,List.map_cons,List.map_nil,hM.vm 0,l9 _ (show cH 0 (i64 fr) by simp[cH]),l9 _ (show cH 0 (i64 th) by simp[cH])] at this
 rw[List.map_append]
 exact this
end
theorem oK {α:Type} (f:α->List UInt8) (k:Nat):∀l:List α,(∀a∈l,(f a).length<=k)->(l.flatMap f).length<=l.length * k
 |[],_=>by simp
 |a::l,h=>by
  have h1:=oK f k l fun b hb=>h b (by simp[hb])
  have h2:=h a (by simp)
  rw[List.flatMap_cons,List.length_append,List.length_cons,Nat.add_mul]
  omega
theorem oX {x:Int} (e:List UInt8) (h:ee x):(dX x e).length<=21+e.length:=by
 have:=Go.Lib.itoa_length_le x h.1 (by have:=h.2;omega)
 unfold dX
 rw[List.length_append]
 omega
theorem eN.T0 {u:bx} {m:MS} (hr:cg u) (h:eN u m):(fO m).length<=100000000+m.cA.length * 50:=by
 have hf:=hr.oh
 have hal:=h.nG
 have hml:=h.ml
 have hhl:=h.hl
 have hn:∀t,t<u.bw.length->(u.gr t).nodes.length<=4096/\(u.gr t).bz<=4160:=fun t ht=>⟨(hr.gr ht).len.2,(hr.gr ht).bz.2⟩
 have h1:((List.range m.at_.length).flatMap (nq m)).length<=(List.range m.at_.length).length * 100000:=by
  refine oK _ _ _ fun t ht=> ?_
  have ht:=List.mem_range.1 ht
  have hat:=h.iS t (by omega)
  obtain⟨n1,n2⟩:=hn t (by omega)
  have hs:=h.B5 t (by omega)
  have a1:=oX (x:=m.at_.getD t 0) [44] ⟨by omega,by omega⟩
  have a2:=oK (fun w=>dX w [44]) 22 (m.bz.getD t []) fun w hw=>oX [44] (h.E1 t (by omega) w hw)
  have e:(nq m t).length=(dX (m.at_.getD t 0) [44]).length+((m.bz.getD t []).flatMap (fun w=>dX w [44])).length+1:=by simp only[nq,List.length_append,List.length_cons,List.length_nil]
  simp only[List.length_cons,List.length_nil] at a1
  rw[e]
  omega
 rw[List.length_range] at h1
 have h2:=oK (fun w=>dX w [44]) 22 m.mem fun w hw=>oX [44] (h.mw w hw)
 have h3:=oK (fun w=>dX w [44]) 22 m.hold fun w hw=>oX [44] (by have:=h.hw w hw;exact⟨by omega,by omega⟩)
 have h4:=oK v7 50 m.cA fun p hp=>by
  obtain⟨p1,p2,p3⟩:=h.pw p hp
  have a1:=oX (x:=p.cr) [58] ⟨by omega,by omega⟩
  have a2:=oX (x:=p.word) [44] p3
  simp only[List.length_cons,List.length_nil] at a1 a2
  unfold v7
  rw[List.length_append]
  omega
 rw[tF]
 omega
theorem eN.VG {u:bx} {m:MS} (hr:cg u) (h:eN u m) (hp:m.cA.length<=1048576):Z4 m:=by
 have hf:=hr.oh
 refine⟨fun w hw=> ?_,by rw[h.sl,h.nG],fun l hl w hw=> ?_,h.mw,fun w hw=> ?_,fun p hp=> ?_, ?_⟩
 ·obtain⟨t,ht,rfl⟩:=List.mem_iff_getElem.1 hw
  have h1:=h.iS t (by rw[<-h.nG];exact ht)
  have h2:=(hr.gr (t:=t) (by rw[<-h.nG];exact ht)).len.2
  rw[show m.at_.getD t 0=m.at_[t] by simp[List.getD,ht]] at h1
  exact⟨by omega,by omega⟩
 ·obtain⟨t,ht,rfl⟩:=List.mem_iff_getElem.1 hl
  have:=h.E1 t (by rw[<-h.sl];exact ht) w
  rw[show m.bz.getD t []=m.bz[t] by simp[List.getD,ht]] at this
  exact this hw
 ·have:=h.hw w hw
  exact⟨by omega,by omega⟩
 ·obtain⟨p1,p2,p3⟩:=h.pw p hp
  exact⟨⟨by omega,by omega⟩,p3⟩
 ·have:=h.T0 hr
  omega
theorem GS {a b:List UInt8} (h:ez a=ez b):a=b:=by
 have:=congrArg (fun x:ByteArray=>x.data.toList) h
 simpa[ez] using this
abbrev kH (l:List cV):List (ByteArray×Int):=l.map fun f=>(ez (fO f.m),1)
abbrev pW (l:List cV):List AV:=rf (fun s:ByteArray=>Value.string s) i64 (kH l)
theorem u6 (l:List cV) (k:List UInt8):fQ (kH l) (ez k)=if k∈hP l then some 1 else none:=by
 split
 ·rename_i h
  cases hl:fQ (kH l) (ez k) with
  |none=>
   exfalso
   refine(rW _ _).1 hl ?_
   rw[List.map_map]
   obtain⟨f,h1,h2⟩:=List.mem_map.1 h
   exact List.mem_map.2 ⟨f,h1,by simp only[Function.comp];rw[h2]⟩
  |some v=>
   have hv:∀(l:List cV),fQ (kH l) (ez k)=some v->v=1:=by
    intro l
    induction l with
    |nil=>intro h;cases h
    |cons f l ih=>
     intro h
     rw[kH,List.map_cons,fQ] at h
     split at h
     ·cases h;rfl
     ·exact ih h
   rw[hv l hl]
 ·rename_i h
  refine(rW _ _).2 fun hm=>h ?_
  rw[List.map_map] at hm
  obtain⟨f,h1,h2⟩:=List.mem_map.1 hm
  simp only[Function.comp] at h2
  exact List.mem_map.2 ⟨f,h1,GS h2⟩
theorem IW {l:List cV} {m:MS} {a b:Int} (h:fO m∉hP l):fS (kH l) (ez (fO m)) 1=kH (l++[⟨m,a,b⟩]):=by
 have key:∀E:List (ByteArray×Int),fQ E (ez (fO m))=none->fS E (ez (fO m)) 1=E++[(ez (fO m),1)]:=by
  intro E
  induction E with
  |nil=>intro _;rfl
  |cons p E ih=>
   intro hn
   obtain⟨x,y⟩:=p
   rw[fQ] at hn
   rw[fS]
   split at hn
   ·cases hn
   ·rename_i hx
    rw[if_neg hx,ih hn];rfl
 rw[key _ (by rw[u6,if_neg h]),kH,kH,List.map_append];rfl
theorem FO (u:bx) (hu:u.Wf) (hr:¬cg u) (most:Int) (g:Nat) (caps:List AV) (H0:Hp) (nx:Nat):cU Tryz.prog 92 [u.av,i64 most, .fn (.func g) [] caps] H0 nx (fun r H n=>r= .dI [i64 0,i64 60]/\nx<=n/\∀y,y<nx->bt H y=bt H0 y):=by
 have c0:=Q1 u hu hr
 refine aJ T7 rfl ?_
 refine cP ?_
 exact⟨⟨rfl,cX,fun y hy=>cE⟩⟩
theorem wE (u:bx) (hu:u.Wf) (hr:cg u) (most:Int) (hm:¬(1<=most/\most<=65536)) (g:Nat) (caps:List AV) (H0:Hp) (nx:Nat):cU Tryz.prog 92 [u.av,i64 most, .fn (.func g) [] caps] H0 nx (fun r H n=>r= .dI [i64 0,i64 2]/\nx<=n/\∀y,y<nx->bt H y=bt H0 y):=by
 refine aJ T7 rfl ?_
 refine cP ?_
 refine aG (uk u hu hr _ _) ?_
 rintro r H1 n1 ⟨L,rfl,hM,hlt,hn1,hk1⟩
 by_cases h1:most<1
 ·refine cP ?_
  exact⟨⟨rfl,cX,fun y hy=>Eq.trans cE ((hk1 y cX).trans cE)⟩⟩
 ·have h2:65536<most:=by omega
  refine cP ?_
  exact⟨⟨rfl,cX,fun y hy=>Eq.trans cE ((hk1 y cX).trans cE)⟩⟩
theorem CS (u:bx) (hr:cg u) (m:MS) (h:eN u m) (hp:m.cA.length<=1048576) (H0:Hp) (nx:Nat):cU Tryz.prog 146 [m.fz u] H0 nx (fun r H n=>∃L:ML,r= .pt L.mr 1 0 0/\L.At u m H/\(∀x∈L.all,nx<=x/\x<n)/\nx<=n/\∀y,y<nx->bt H y=bt H0 y):=by
 have hgl:=hr.oh
 refine(CT u m (by have:=h.nG;omega) (by have:=h.ml;omega) (by have:=h.hl;omega) hp (by have:=h.sl;omega) (fun x hx=> ?_) H0 nx).mono ?_
 ·obtain⟨s,hs,rfl⟩:=List.mem_iff_getElem.1 hx
  have h1:=h.B5 s (by rw[<-h.sl];exact hs)
  have h2:=(hr.gr (t:=s) (by rw[<-h.sl];exact hs)).bz.2
  rw[show m.bz.getD s []=m.bz[s] by simp[List.getD,hs]] at h1
  omega
 ·rintro r H n ⟨mr,a,s,me,ho,pr,ids,rfl,h1,h2,h3,h4⟩
  exact⟨⟨mr,a,s,me,ho,pr,ids⟩,rfl,h1,h2,h3,h4⟩
def PB (u:bx) (most:Int) (I:Nat->Hp->Prop) (nx:Nat) (H0:Hp) (r:AV) (H:Hp) (n:Nat):Prop:=
 nx<=n/\match gP u most.toNat with
 |none=>r= .dI [i64 0,i64 3]/\∀y,y<nx->bt H y=bt H0 y
 |some l=>r= .dI [i64 l.length,i64 0]/\I l.length H
set_option maxHeartbeats 4000000 in
theorem tZ (u:bx) (hu:u.Wf) (hr:cg u) (most:Int) (hm:1<=most/\most<=65536) (g:Nat) (caps:List AV) (H0:Hp) (nx:Nat) (I:Nat->Hp->Prop) (hI0:I 0 H0) (hst:∀k H H',I k H->(∀y,y<nx->bt H' y=bt H y)->I k H')
 (hcl:∀l,gP u most.toNat=some l->∀k H n,k<l.length->nx<=n->I k H->cU Tryz.prog g ([lY u l,i64 k]++caps) H n (fun _ H' n'=>I (k+1) H'/\n<=n'/\∀y,nx<=y->y<n->bt H' y=bt H y)):
 cU Tryz.prog 92 [u.av,i64 most, .fn (.func g) [] caps] H0 nx (PB u most I nx H0):=by
 obtain⟨mo,rfl⟩:∃mo:Nat,most=mo:=⟨most.toNat,by omega⟩
 have hgl:=hr.oh
 unfold PB
 rw[Int.toNat_natCast] at hcl ⊢
 refine aJ T7 rfl ?_
 refine cP ?_
 refine aG (uk u hu hr _ _) ?_
 rintro r H1 n1 ⟨L,rfl,hM,hlt,hn1,hk1⟩
 have hF:=iF.init u hu hr
 have hm0:=(hF.ok 0 hF.pos).1
 have hm0':(List.getD (kD u) 0 default).m=cz u:=rfl
 rw[hm0'] at hm0
 have g0:qW true (Value.string (ez (fO (cz u)))) [] (i64 1)=some (pW (kD u)):=rfl
 have h65:(65536:Int)<mo->False:=by omega
 refine cP ?_
 refine aP (xx u (cz u) (hm0.VG hr (by simp[cz]))) (args2:=[(cz u).fz u]) ?_ (by simp[c8,pO]) trivial ?_
 ·rw[List.map_cons,List.map_nil]
  congr 1
  exact(hM.cc fun y hy=>by have:=hlt y hy;exact cE).DA 2
 refine cP ?_
 have hno:∀y,y<nx+1\/n1<=y->y∉L.all:=fun y hy hm=>by have:=hlt y hm;omega
 refine aR (fun σ:Nat×List cV=>[(1,i64 mo),(2, .fn (.func g) [] caps),(3, .pt nx 1 0 0),(10, .sl (n1+15) σ.2.length),(11, .mp (n1+17)),(12,i64 σ.1)])
  (fun σ H n=>σ.1<=σ.2.length/\σ.2.length<=mo/\iF u σ.2/\sg u mo (mo - σ.1) σ.1 σ.2=gP u mo/\n1+23<=n/\(∃d,bt H nx=some (.row 25 3 d [u.av]))/\(∃d,bt H (n1+15)=some (.row 163 3 d (σ.2.map (cV.av u))))/\(∃e d,bt H (n1+17)=some (.row e 0 d (mapA (pW σ.2))))/\∀y,y<nx->bt H y=bt H0 y) (fun σ=>mo - σ.1) (0,kD u)
  ⟨_,_,_,Rt.wk (wa (lb:=n1+15) (l:=[]) (fr:=-1) (th:=0) (hM.cc ?_) bu (hno _ (by omega))),cC,Nat.zero_le _,by show 1<=mo;omega,hF,rfl,cX,⟨_,(eW (hno _ (by omega))).trans (Eq.trans cE ((hk1 nx (by omega)).trans bu))⟩,⟨_,(eW (hno _ (by omega))).trans bu⟩,⟨_,_,(eW (hno _ (by omega))).trans bu⟩,fun y hy=>(eW (hno _ (by omega))).trans (Eq.trans cE ((hk1 y cX).trans cE))⟩ ?_
 ·intro y hy
  have:=hlt y hy
  exact cE
 clear hM hlt hk1 hno
 rintro⟨k,l⟩ H n ⟨hk,hl,hfs,hall,hn,⟨d0,r0'⟩,⟨d1,r1'⟩,⟨e2,d2,r2'⟩,hkp⟩
 dsimp only at hk hl hfs hall r1' r2' ⊢
 by_cases hkl:k<l.length
 ·have e0:∀d,(l.map (cV.av u)).getD ((k:Int)).toNat d=(l.getD k default).av u:=fun d=>by rw[Int.toNat_natCast];exact cx (cV.av u) l k d hkl
  have a0:(l.map (cV.av u)).length=l.length:=by simp
  have hgeq:∀l':List cV,l<+:l'->l'.getD k default=l.getD k default:=fun l' ⟨q,hq⟩=>by rw[<-hq];simp[List.getD,List.getElem?_append,hkl]
  have hmk:mo - k=(mo - (k+1))+1:=by omega
  rw[hmk,sg,if_pos hkl] at hall
  obtain⟨hmok,hpl⟩:=hfs.ok k hkl
  have hmdef:(l.getD k default).m=(l.getD k default).m:=rfl
  generalize hmm:(l.getD k default).m=m at hmok hpl
  have e0':∀d,(l.map (cV.av u)).getD ((k:Int)).toNat d= .agg [m.fz u,i64 (l.getD k default).from_,i64 (l.getD k default).cr]:=fun d=>by rw[e0 d,<-hmm];rfl
  clear e0
  have e0:=e0'
  refine cP ?_
  rw[List.length_map]
  refine aR (fun σ:Nat×List cV=>[(1,i64 mo),(2, .fn (.func g) [] caps),(3, .pt nx 1 0 0),(10, .sl (n1+15) σ.2.length),(11, .mp (n1+17)),(12,i64 k),(13,m.fz u),(52,i64 u.bw.length),(53,i64 σ.1)])
   (fun σ H n=>σ.1<=u.bw.length/\k<σ.2.length/\σ.2.length<=mo/\iF u σ.2/\(σ.2.getD k default).m=m/\(match vv u mo k ((List.range u.bw.length).drop σ.1) σ.2 with
    |none=>none
    |some l2=>sg u mo (mo - (k+1)) (k+1) l2)=gP u mo/\n1+23<=n/\(∃d,bt H nx=some (.row 25 3 d [u.av]))/\(∃d,bt H (n1+15)=some (.row 163 3 d (σ.2.map (cV.av u))))/\(∃e d,bt H (n1+17)=some (.row e 0 d (mapA (pW σ.2))))/\∀y,y<nx->bt H y=bt H0 y) (fun σ=>u.bw.length - σ.1) (0,l)
   ⟨_,_,_,Rt.refl _ _ _,cC,Nat.zero_le _,hkl,hl,hfs,hmm,hall,cX,⟨_,bu⟩,⟨_,bu⟩,⟨_,_,bu⟩,fun y hy=>Eq.trans cE (hkp y hy)⟩ ?_
  clear e0 e0' a0 r0' r1' r2' hkp hall hfs hl hkl hgeq hn hmm
  rintro⟨t,l⟩ H n ⟨ht,hkl,hl,hfs,hmm,hall,hn,⟨d0,r0'⟩,⟨d1,r1'⟩,⟨e2,d2,r2'⟩,hkp⟩
  dsimp only at ht hkl hl hfs hmm hall r1' r2' ⊢
  have a0:(l.map (cV.av u)).length=l.length:=by simp
  by_cases htl:t<u.bw.length
  ·rw[show(List.range u.bw.length).drop t=t::(List.range u.bw.length).drop (t+1) by rw[List.drop_eq_getElem_cons (by simpa using htl)];simp,vv] at hall
   have c0:=LJ u hr m hmok t
   by_cases hb:m.jR u t=0
   ·have hal:=hmok.nG
    refine cP ?_
    refine aG (CS u hr m hmok (by omega) _ _) ?_
    rintro r H2 n2 ⟨L2,rfl,hM2,hlt2,hn2,hk2⟩
    have hlt2:∀x∈L2.all,n+7<=x/\x<n2:=hlt2
    refine cP ?_
    refine aG (xK hu hr hmok (L:=L2) (hM2.cc ?_) ?_ (by omega) htl hb) ?_
    ·intro y hy
     have:=hlt2 y hy
     exact cE
    ·intro y hy
     have:=hlt2 y hy
     exact cX
    rintro r H3 n3 ⟨rfl,hM3,hn3,hk3⟩
    have hno:∀y,y<n+7\/n2<=y->y∉L2.all:=fun y hy hm=>by have:=hlt2 y hm;omega
    have hold:∀y,y<n->bt H3 y=bt H y:=fun y hy=>(hk3 y cX (hno y (by omega))).trans (Eq.trans cE ((hk2 y cX).trans cE))
    have hlt3:∀x∈L2.all,x<n3:=fun x hx=>by have:=hlt2 x hx;exact Nat.lt_of_lt_of_le this.2 cX
    obtain⟨hk9,_⟩:=jW hmok htl hb
    have hm2:=tJ hu hr hmok htl hk9
    have hp2:=ko u m t
    have htry:vS u mo k t l=if fO (m.step u t).1∈hP l then some l else if l.length=mo then none else some (l++[⟨(m.step u t).1,k,t⟩]):=by
     unfold vS
     rw[hmm,if_neg (by omega)]
    rw[htry] at hall
    have hput:=fun(h:fO (m.step u t).1∉hP l)=>IW (l:=l) (m:=(m.step u t).1) (a:=k) (b:=t) h
    have hadd:=fun(h:fO (m.step u t).1∉hP l)=>hfs.add hu hr hkl htl (by rw[hmm];exact hb) (by rw[hmm];exact h)
    rw[hmm] at hadd
    generalize (m.step u t).1=m2 at *
    have hkp3:∀y,y<nx->bt H3 y=bt H0 y:=fun y hy=>(hold y (by omega)).trans (hkp y hy)
    have q0:=(hold nx (by omega)).trans r0'
    have q1:=(hold (n1+15) (by omega)).trans r1'
    have q2:=(hold (n1+17) (by omega)).trans r2'
    have hget:=DT xw i64 (ez (fO m2)) (kH l) (i64 0)
    rw[u6] at hget
    clear hk2 hk3 hM2 r0' r1' r2' hold hkp
    by_cases hin:fO m2∈hP l
    ·rw[if_pos hin] at hget hall
     have g0:na true (Value.string (ez (fO m2))) (pW l) (i64 0)=some (i64 1,true):=hget
     refine cP ?_
     refine aP (xx u m2 (hm2.VG hr (by omega))) (args2:=[m2.fz u]) ?_ (by simp[c8,pO]) trivial ?_
     ·rw[List.map_cons,List.map_nil]
      congr 1
      exact(hM3.cc fun y hy=>by have:=hlt3 y hy;exact cE).DA 2
     refine cP ?_
     exact⟨(t+1,l),by dsimp only;omega,_,_,_,Rt.refl _ _ _,cC,by dsimp only;omega,hkl,hl,hfs,hmm,hall,cX,⟨_,bu⟩,⟨_,bu⟩,⟨_,_,bu⟩,fun y hy=>Eq.trans cE (hkp3 y hy)⟩
    ·rw[if_neg hin] at hget hall
     have g0:na true (Value.string (ez (fO m2))) (pW l) (i64 0)=some (i64 0,false):=hget
     by_cases hfull:l.length=mo
     ·rw[if_pos hfull] at hall
      refine cP ?_
      refine aP (xx u m2 (hm2.VG hr (by omega))) (args2:=[m2.fz u]) ?_ (by simp[c8,pO]) trivial ?_
      ·rw[List.map_cons,List.map_nil]
       congr 1
       exact(hM3.cc fun y hy=>by have:=hlt3 y hy;exact cE).DA 2
      refine cP ?_
      have hall2:none=gP u mo:=hall
      rw[<-hall2]
      exact⟨⟨cX,rfl,fun y hy=>Eq.trans cE (hkp3 y hy)⟩⟩
     ·rw[if_neg hfull] at hall
      have g1:qW true (Value.string (ez (fO m2))) (pW l) (i64 1)=some (pW (l++[⟨m2,k,t⟩])):=by
       have:=DU xw i64 (ez (fO m2)) 1 (kH l)
       rw[hput hin] at this
       exact this
      refine cP ?_
      refine aP (xx u m2 (hm2.VG hr (by omega))) (args2:=[m2.fz u]) ?_ (by simp[c8,pO]) trivial ?_
      ·rw[List.map_cons,List.map_nil]
       congr 1
       exact(hM3.cc fun y hy=>by have:=hlt3 y hy;exact cE).DA 2
      refine cP ?_
      have hout:=hno
      refine⟨(t+1,l++[⟨m2,k,t⟩]),by dsimp only;omega,_,_,_,Rt.wk (wa (L:=L2) (lb:=n1+15) (m:=m2) (l:=l) (fr:=k) (th:=t) (hM3.cc ?_) bu (hno _ (by omega))),cC,by dsimp only;omega,by dsimp only;rw[List.length_append];omega,by dsimp only;simp only[List.length_append,List.length_cons,List.length_nil];omega,hadd hin,by dsimp only;rw[fi hkl];exact hmm,hall,cX,⟨_,(eW (hno _ (by omega))).trans bu⟩,⟨_,(eW (hno _ (by omega))).trans bu⟩,⟨_,_,(eW (hno _ (by omega))).trans bu⟩,fun y hy=>(eW (hno _ (by omega))).trans (Eq.trans cE (hkp3 y hy))⟩
      intro y hy
      have:=hlt2 y hy
      have:=hlt3 y hy
      exact cE
   ·have htry:vS u mo k t l=some l:=by
     unfold vS
     rw[hmm,if_pos hb]
    rw[htry] at hall
    refine cP ?_
    exact⟨(t+1,l),by dsimp only;omega,_,_,_,Rt.refl _ _ _,cC,by dsimp only;omega,hkl,hl,hfs,hmm,hall,cX,⟨_,bu⟩,⟨_,bu⟩,⟨_,_,bu⟩,fun y hy=>Eq.trans cE (hkp y hy)⟩
  ·have htG:t=u.bw.length:=by omega
   subst htG
   rw[List.drop_of_length_le (by simp),vv] at hall
   refine cP ?_
   exact⟨(k+1,l),by dsimp only;omega,_,_,_,Rt.refl _ _ _,cC,by dsimp only;omega,hl,hfs,hall,cX,⟨_,bu⟩,⟨_,bu⟩,⟨_,_,bu⟩,fun y hy=>Eq.trans cE (hkp y hy)⟩
 ·have hk2:k=l.length:=by omega
  refine cP ?_
  have hl2:gP u mo=some l:=by
   rw[<-hall]
   subst hk2
   cases h:mo - l.length with
   |zero=>rfl
   |succ q=>rw[sg,if_neg (by omega)]
  have hw:=fun(H':Hp) (n':Nat) (hr:bt H' (n1+15)=some (.row 163 3 d1 (l.map (cV.av u))))=>Wk.TX (r:= .sl (n1+15) l.length) (H:=H') (nx:=n') [(n1+15,some (.row 163 3 d1 (l.map (cV.av u))))] 1 (fun b q hq=>by
   by_cases hb:b=n1+15
   ·subst hb;rw[ca] at hq;rw[<-hq];exact hr
   ·rw[cN hb] at hq;cases hq)
  rw[DI (ca _ _ _) (by simp),qS] at hw
  rw[hl2]
  refine aR (fun i:Nat=>[(2, .fn (.func g) [] caps),(10,lY u l),(86,i64 l.length),(87,i64 i)])
   (fun i H n=>i<=l.length/\nx<=n/\I i H) (fun i=>l.length - i) 0
   ⟨_,_,_,Rt.slot 10 rfl (hw _ _ bu),cC,Nat.zero_le _,cX,hst 0 _ _ hI0 fun y hy=>(cN (by omega)).trans (Eq.trans cE (hkp y hy))⟩ ?_
  clear r0' r1' r2' hkp hw hn
  rintro i H n ⟨hi,hn,hI⟩
  by_cases hil:i<l.length
  ·refine cP ?_
   refine Eq.mpr (jO caps _) ?_
   show iR Tryz.prog g (lY u l::i64 i::caps) _ _ _
   refine aG (hcl l hl2 i _ _ hil cX (hst i H _ hI fun y hy=>cE)) ?_
   rintro _ H2 n2 ⟨hI2,hn2,_⟩
   refine cP ?_
   exact⟨i+1,by omega,_,_,_,Rt.refl _ _ _,cC,by omega,cX,hst _ _ _ hI2 fun y hy=>cE⟩
  ·obtain rfl:i=l.length:=by omega
   refine cP ?_
   exact⟨⟨cX,by rw[List.length_map],hst _ _ _ hI fun y hy=>cE⟩⟩
theorem HF (p q:cy):Pure Tryz.prog 151 [p.av,q.av] (fun r=>r=i64 (gq p q)):=by
 have c0:=tw p.cr q.cr
 have c1:=wQ p.word q.word
 have c2:=yJ [eG p.cr q.cr,eG p.word q.word] (by simp)
 refine aD XK rfl ?_
 refine cP ?_
 refine aP (args2:=[cT [eG p.cr q.cr,eG p.word q.word]]) (r:=i64 (gq p q)) c2 rfl (by simp[c8,cH]) trivial ?_
 refine cP ?_
 first|exact rfl|trivial
theorem oW {l:List cy} {i:Nat} (h:i<l.length) (d:AV):(l.map cy.av).getD ((i:Int)).toNat d=(l.getD i default).av:=by
 rw[Int.toNat_natCast];exact cx cy.av l i d h
theorem CR (a b:List cy) (ha:a.length<9223372036854775807):Pure Tryz.prog 150 [fY a,fY b, .fn (.func 151) [] []] (fun r=>r=i64 (eR gq a b)):=by
 refine aD XJ rfl ?_
 refine cP ?_
 rw[List.length_map]
 refine aF (fun i:Nat=>[(0,fY a),(1,fY b),(2, .fn (.func 151) [] []),(11,fY a),(12,i64 a.length),(13,i64 i)]) (fun i H n=>i<=a.length/\i<=b.length/\eR gq a b=eR gq (a.drop i) (b.drop i)) (fun i=>a.length - i) 0 cC ⟨Nat.zero_le _,Nat.zero_le _,rfl⟩ ?_
 rintro i H n ⟨hi,hib,ho⟩
 rw[ho]
 have a0:(a.map cy.av).length=a.length:=by simp
 have a1:(b.map cy.av).length=b.length:=by simp
 by_cases hil:i<a.length
 ·have e0:=fun d=>oW hil d
  by_cases hbl:i<b.length
  ·have e1:=fun d=>oW hbl d
   have hd:=qC gq default hil hbl
   have c0:=HF (a.getD i default) (b.getD i default)
   generalize a.getD i default=p at *
   generalize b.getD i default=q at *
   by_cases hz:gq p q=0
   ·have r0:=hz
    rw[if_pos hz] at hd
    refine cP ?_
    exact⟨i+1,by omega,cC,by omega,by omega,hd⟩
   ·have r0:=decide_eq_true hz
    rw[if_neg hz] at hd
    refine cP ?_
    rw[hd]
  ·rw[nM gq hil (by omega)]
   refine cP ?_
   first|exact rfl|trivial
 ·obtain rfl:i=a.length:=by omega
  rw[nL gq (Nat.le_refl _) hib]
  by_cases h:a.length<b.length
  ·rw[if_pos h]
   refine cP ?_
   first|exact rfl|trivial
  ·rw[if_neg h]
   refine cP ?_
   first|exact rfl|trivial
theorem CP (a b:List Int) (ha:a.length<9223372036854775807):Pure Tryz.prog 153 [cT a,cT b] (fun r=>r=i64 (eR eG a b)):=by
 refine aD XL rfl ?_
 refine cP ?_
 rw[List.length_map]
 refine aF (fun i:Nat=>[(0,cT a),(1,cT b),(9,cT a),(10,i64 a.length),(11,i64 i)]) (fun i H n=>i<=a.length/\i<=b.length/\eR eG a b=eR eG (a.drop i) (b.drop i)) (fun i=>a.length - i) 0 cC ⟨Nat.zero_le _,Nat.zero_le _,rfl⟩ ?_
 rintro i H n ⟨hi,hib,ho⟩
 rw[ho]
 have a0:(a.map i64).length=a.length:=by simp
 have a1:(b.map i64).length=b.length:=by simp
 by_cases hil:i<a.length
 ·have e0:=fun d=>ints_at hil d
  by_cases hbl:i<b.length
  ·have e1:=fun d=>ints_at hbl d
   have hd:=qC eG 0 hil hbl
   have c0:=wQ (a.getD i 0) (b.getD i 0)
   generalize a.getD i 0=p at *
   generalize b.getD i 0=q at *
   by_cases hz:eG p q=0
   ·have r0:=hz
    rw[if_pos hz] at hd
    refine cP ?_
    exact⟨i+1,by omega,cC,by omega,by omega,hd⟩
   ·have r0:=decide_eq_true hz
    rw[if_neg hz] at hd
    refine cP ?_
    rw[hd]
  ·rw[nM eG hil (by omega)]
   refine cP ?_
   first|exact rfl|trivial
 ·obtain rfl:i=a.length:=by omega
  rw[nL eG (Nat.le_refl _) hib]
  by_cases h:a.length<b.length
  ·rw[if_pos h]
   refine cP ?_
   first|exact rfl|trivial
  ·rw[if_neg h]
   refine cP ?_
   first|exact rfl|trivial
theorem wP (a b:cY) (h1:a.cA.length<9223372036854775807) (h2:a.mem.length<9223372036854775807):Pure Tryz.prog 96 [a.av,b.av] (fun r=>r=i64 (eJ a b)):=by
 have c0:=CR a.cA b.cA h1
 have c1:=CP a.mem b.mem h2
 have c2:=yJ [eR gq a.cA b.cA,eR eG a.mem b.mem,vi a.ended b.ended] (by simp)
 obtain⟨ap,am,ae⟩:=a
 obtain⟨bp,bm,be⟩:=b
 cases ae<;>cases be<;>(refine aD aAr rfl ?_;refine cP ?_;refine aP (args2:=[cT [eR gq ap bp,eR eG am bm,_]]) (r:=i64 (lG [eR gq ap bp,eR eG am bm,_])) c2 rfl (by simp[c8,cH]) trivial ?_;refine cP ?_;first|exact rfl|trivial)
theorem p9 (a b:cY) (h1:a.cA.length<9223372036854775807) (h2:a.mem.length<9223372036854775807):Pure Tryz.prog 98 [a.av,b.av] (fun r=>r=bl (decide (eJ a b=0))):=by
 have c0:=wP a b h1 h2
 refine aD aAs rfl ?_
 refine cP ?_
 refine eD ?_
 simp
theorem uw (b:Bool):Pure Tryz.prog 105 [bl b] (fun r=>r=i64 (if b then -1 else 1)):=by
 cases b<;>(refine aD WQ rfl ?_;refine cP ?_;first|exact rfl|trivial)
theorem ll {x:Bool} {v:Int} (h:(if x=true then -1 else 1)=v):Pure Tryz.prog 105 [bl x] (fun r=>r=i64 v):=by
 have:=uw x
 rw[h] at this
 exact this
theorem PZ {p q:cy} (h:p.cr<q.cr\/p.cr=q.cr/\p.word<q.word):gq p q=-1:=by
 unfold gq eG
 simp only[lG]
 repeat' (first|omega|split)
theorem PY {p q:cy} (h:¬(p.cr<q.cr\/p.cr=q.cr/\p.word<q.word)) (hne:¬(p.cr=q.cr/\p.word=q.word)):gq p q=1:=by
 unfold gq eG
 simp only[lG]
 repeat' (first|omega|split)
theorem PX {p q:cy} (h:p.cr=q.cr/\p.word=q.word):gq p q=0:=by
 unfold gq eG
 simp only[lG]
 repeat' (first|omega|split)
theorem PW {x y:Int} (h:x≠y):eG x y=if x<y then -1 else 1:=by
 unfold eG;split
 ·rfl
 ·rw[if_pos (by omega)]
theorem FT (x:Int):eG x x=0:=by unfold eG;simp
set_option maxHeartbeats 1000000 in
theorem mW (a b:cY) (h1:a.cA.length<9223372036854775807) (h2:a.mem.length<9223372036854775807):Pure Tryz.prog 66 [a.av,b.av] (fun r=>r=i64 (eJ a b)):=by
 have a0:(a.cA.map cy.av).length=a.cA.length:=by simp
 have a1:(b.cA.map cy.av).length=b.cA.length:=by simp
 have a2:(a.mem.map i64).length=a.mem.length:=by simp
 have a3:(b.mem.map i64).length=b.mem.length:=by simp
 refine aD aA9 rfl ?_
 refine cP ?_
 refine aF (fun i:Nat=>[(2, .pt 0 1 0 0),(3, .pt 1 1 0 0),(5,i64 i)]) (fun i H n=>2<=n/\(∃d,bt H 0=some (.row 105 3 d [a.av]))/\(∃d,bt H 1=some (.row 105 3 d [b.av]))/\i<=a.cA.length/\i<=b.cA.length/\eR gq a.cA b.cA=eR gq (a.cA.drop i) (b.cA.drop i)) (fun i=>a.cA.length - i) 0 cC ⟨cX,⟨_,bu⟩,⟨_,bu⟩,Nat.zero_le _,Nat.zero_le _,rfl⟩ ?_
 rintro i H n ⟨hn,⟨d0,r0⟩,⟨d1,r1⟩,hi,hib,ho⟩
 by_cases hil:i<a.cA.length
 ·have e0:=fun d=>oW hil d
  by_cases hbl:i<b.cA.length
  ·have e1:=fun d=>oW hbl d
   have hd:=qC gq default hil hbl
   generalize a.cA.getD i default=p at *
   generalize b.cA.getD i default=q at *
   have g0:=decide_eq_true hil
   have g1:=decide_eq_true hbl
   by_cases hlt:p.cr<q.cr\/p.cr=q.cr/\p.word<q.word
   ·have hc:=PZ hlt
    have hE:eJ a b=-1:=by unfold eJ;rw[ho,hd,hc,if_neg (by decide),lG,if_neg (by decide)]
    rw[hE]
    by_cases h3:p.cr<q.cr
    ·refine cP ?_
     first|exact rfl|trivial
    ·obtain⟨h4,h5⟩:=hlt.resolve_left h3
     have g2:=decide_eq_true h4
     have g3:=decide_eq_true h5
     refine cP ?_
     first|exact rfl|trivial
   ·have g4:¬p.cr<q.cr:=fun e=>hlt (.inl e)
    by_cases heq:p.cr=q.cr/\p.word=q.word
    ·obtain⟨h4,h5⟩:=heq
     have hc:=PX ⟨h4,h5⟩
     rw[hc,if_pos rfl] at hd
     have g5:¬p.word<q.word:=by omega
     refine cP ?_
     exact⟨i+1,by omega,cC,by omega,⟨_,bu⟩,⟨_,bu⟩,by omega,by omega,ho.trans hd⟩
    ·have hc:=PY hlt heq
     have hE:eJ a b=1:=by unfold eJ;rw[ho,hd,hc,if_neg (by decide),lG,if_neg (by decide)]
     rw[hE]
     refine cP ?_
     first|exact rfl|trivial
  ·have hE:eJ a b=1:=by unfold eJ;rw[ho,nM gq hil (by omega),lG,if_neg (by decide)]
   rw[hE]
   have hne:a.cA.length≠b.cA.length:=by omega
   have c0:=ll (x:=decide (((a.cA.map cy.av).length:Int)<((b.cA.map cy.av).length:Int))) (v:=1) (by rw[decide_eq_false (by omega)];rfl)
   refine cP ?_
   first|exact rfl|trivial
 ·obtain rfl:i=a.cA.length:=by omega
  rw[nL gq (Nat.le_refl _) hib] at ho
  by_cases hpl:a.cA.length<b.cA.length
  ·rw[if_pos hpl] at ho
   have hE:eJ a b=-1:=by unfold eJ;rw[ho,lG,if_neg (by decide)]
   rw[hE]
   have hne:a.cA.length≠b.cA.length:=by omega
   have c0:=ll (x:=decide (((a.cA.map cy.av).length:Int)<((b.cA.map cy.av).length:Int))) (v:=-1) (by rw[decide_eq_true (by omega)];rfl)
   refine cP ?_
   first|exact rfl|trivial
  ·rw[if_neg hpl] at ho
   have hpe:b.cA.length=a.cA.length:=by omega
   refine cP ?_
   refine aF (fun i:Nat=>[(2, .pt 0 1 0 0),(3, .pt 1 1 0 0),(8,i64 i)]) (fun i H n=>2<=n/\(∃d,bt H 0=some (.row 105 3 d [a.av]))/\(∃d,bt H 1=some (.row 105 3 d [b.av]))/\i<=a.mem.length/\i<=b.mem.length/\eR eG a.mem b.mem=eR eG (a.mem.drop i) (b.mem.drop i)) (fun i=>a.mem.length - i) 0 cC ⟨cX,⟨_,bu⟩,⟨_,bu⟩,Nat.zero_le _,Nat.zero_le _,rfl⟩ ?_
   clear r0 r1 hn
   rintro i H n ⟨hn,⟨d0,r0⟩,⟨d1,r1⟩,hi,hib,hm⟩
   by_cases hil:i<a.mem.length
   ·have e0:=fun d=>ints_at hil d
    by_cases hbl:i<b.mem.length
    ·have e1:=fun d=>ints_at hbl d
     have hd:=qC eG 0 hil hbl
     generalize a.mem.getD i 0=p at *
     generalize b.mem.getD i 0=q at *
     have g0:=decide_eq_true hil
     have g1:=decide_eq_true hbl
     by_cases heq:p=q
     ·rw[heq,FT,if_pos rfl] at hd
      refine cP ?_
      exact⟨i+1,by omega,cC,by omega,⟨_,bu⟩,⟨_,bu⟩,by omega,by omega,hm.trans hd⟩
     ·have hc:=PW heq
      by_cases hlt:p<q
      ·rw[if_pos hlt] at hc
       have hE:eJ a b=-1:=by unfold eJ;rw[ho,hm,hd,hc,if_neg (by decide),lG,if_pos rfl,lG,if_neg (by decide)]
       rw[hE]
       have c0:=ll (x:=decide (p<q)) (v:=-1) (by rw[decide_eq_true hlt];rfl)
       refine cP ?_
       first|exact rfl|trivial
      ·rw[if_neg hlt] at hc
       have hE:eJ a b=1:=by unfold eJ;rw[ho,hm,hd,hc,if_neg (by decide),lG,if_pos rfl,lG,if_neg (by decide)]
       rw[hE]
       have c0:=ll (x:=decide (p<q)) (v:=1) (by rw[decide_eq_false hlt];rfl)
       refine cP ?_
       first|exact rfl|trivial
    ·have hE:eJ a b=1:=by unfold eJ;rw[ho,hm,nM eG hil (by omega),lG,if_pos rfl,lG,if_neg (by decide)]
     rw[hE]
     have hne:a.mem.length≠b.mem.length:=by omega
     have c0:=ll (x:=decide (((a.mem.map i64).length:Int)<((b.mem.map i64).length:Int))) (v:=1) (by rw[decide_eq_false (by omega)];rfl)
     refine cP ?_
     first|exact rfl|trivial
   ·obtain rfl:i=a.mem.length:=by omega
    rw[nL eG (Nat.le_refl _) hib] at hm
    by_cases hml:a.mem.length<b.mem.length
    ·rw[if_pos hml] at hm
     have hE:eJ a b=-1:=by unfold eJ;rw[ho,hm,lG,if_pos rfl,lG,if_neg (by decide)]
     rw[hE]
     have hne:a.mem.length≠b.mem.length:=by omega
     have c0:=ll (x:=decide (((a.mem.map i64).length:Int)<((b.mem.map i64).length:Int))) (v:=-1) (by rw[decide_eq_true (by omega)];rfl)
     refine cP ?_
     first|exact rfl|trivial
    ·rw[if_neg hml] at hm
     have hme:b.mem.length=a.mem.length:=by omega
     have hE:eJ a b=vi a.ended b.ended:=by
      unfold eJ;rw[ho,hm,lG,if_pos rfl,lG,if_pos rfl,lG]
      split<;>simp_all[lG]
     rw[hE]
     obtain⟨ap,am,ae⟩:=a
     obtain⟨bp,bm,be⟩:=b
     have c0:=uw be
     cases ae<;>cases be<;>(refine cP ?_;first|exact rfl|trivial)
theorem tx (x y:Int):eG y x=-eG x y:=by
 unfold eG
 repeat' (first|omega|split)
theorem yI:∀l:List Int,lG (l.map (-·))=-lG l
 |[]=>rfl
 |x::l=>by
  simp only[List.map_cons,lG]
  by_cases h:x=0
  ·rw[if_pos (by omega),if_pos h];exact yI l
  ·rw[if_neg (by omega),if_neg h]
theorem LN (p q:cy):gq q p=-gq p q:=by
 unfold gq
 rw[<-yI,tx p.cr,tx p.word];rfl
theorem uA {α:Type} {f:α->α->Int} (hf:∀x y,f y x=-f x y):∀a b:List α,eR f b a=-eR f a b
 |[],[]=>rfl
 |[],_::_=>rfl
 |_::_,[]=>rfl
 |x::a,y::b=>by
  rw[eR,eR,hf x y]
  by_cases h:f x y=0
  ·rw[if_pos (by omega),if_pos h];exact uA hf a b
  ·rw[if_neg (by omega),if_neg h]
theorem LL (a b:Bool):vi b a=-vi a b:=by cases a<;>cases b<;>rfl
theorem LM (a b:cY):eJ b a=-eJ a b:=by
 unfold eJ
 rw[<-yI,uA LN a.cA,uA tx a.mem,LL a.ended];rfl
theorem A0 {l:List Int}:lG l=0↔∀x∈l,x=0:=by
 induction l with
 |nil=>simp[lG]
 |cons x l ih=>
  rw[lG]
  by_cases h:x=0
  ·rw[if_pos h,ih];simp[h]
  ·rw[if_neg h];simp[h]
theorem lW {x y:Int}:eG x y=0↔x=y:=by
 constructor
 ·unfold eG;intro h;revert h;repeat' (first|omega|split)
 ·rintro rfl;exact FT _
theorem rI {p q:cy}:gq p q=0↔p=q:=by
 unfold gq
 rw[A0]
 simp only[List.mem_cons,List.not_mem_nil,or_false,forall_eq_or_imp,forall_eq,lW]
 constructor
 ·rintro⟨h1,h2⟩;cases p;cases q;simp_all
 ·rintro rfl;exact⟨rfl,rfl⟩
theorem lX {α:Type} {f:α->α->Int} (hf:∀x y,f x y=0↔x=y):∀a b:List α,eR f a b=0↔a=b
 |[],[]=>by simp[eR]
 |[],_::_=>by simp[eR]
 |_::_,[]=>by simp[eR]
 |x::a,y::b=>by
  rw[eR]
  by_cases h:f x y=0
  ·rw[if_pos h,lX hf a b]
   have:=(hf x y).1 h
   simp[this]
  ·rw[if_neg h]
   have:x≠y:=fun e=>h ((hf x y).2 e)
   simp[h,this]
theorem rG {a b:cY}:eJ a b=0↔a=b:=by
 unfold eJ
 rw[A0]
 simp only[List.mem_cons,List.not_mem_nil,or_false,forall_eq_or_imp,forall_eq,lX (fun x y=>rI),lX (fun x y=>lW)]
 constructor
 ·rintro⟨h1,h2,h3⟩
  obtain⟨ap,am,ae⟩:=a
  obtain⟨bp,bm,be⟩:=b
  cases ae<;>cases be<;>simp_all[vi]
 ·rintro rfl
  exact⟨rfl,rfl,by cases a.ended<;>rfl⟩
section
open Classical in
noncomputable def dZ (u:bx) (most:Int):Int×List cV:=
 if ¬cg u then(60,[]) else if ¬(1<=most/\most<=65536) then(2,[]) else match gP u most.toNat with
  |none=>(3,[])
  |some l=>(0,l)
theorem lV {u:bx} {most:Int} (h:¬cg u):dZ u most=(60,[]):=by unfold dZ;rw[if_pos h]
theorem jL {u:bx} {most:Int} (h:cg u) (hm:¬(1<=most/\most<=65536)):dZ u most=(2,[]):=by unfold dZ;rw[if_neg (fun e=>e h),if_pos hm]
theorem mB {u:bx} {most:Int} (h:cg u) (hm:1<=most/\most<=65536):dZ u most=(match gP u most.toNat with|none=>(3,[])|some l=>(0,l)):=by unfold dZ;rw[if_neg (fun e=>e h),if_neg (fun e=>e hm)]
def dU (u:bx) (l:List cV) (k:Nat):List cY:=(l.take k).filterMap fun f=>if f.m.stuck u then some (f.m.end_ u) else none
theorem sJ {u:bx} {l:List cV} {k:Nat} (hk:k<l.length):dU u l (k+1)=dU u l k++(if(l.getD k default).m.stuck u then[(l.getD k default).m.end_ u] else[]):=by
 unfold dU
 rw[List.take_succ_eq_append_getElem hk,List.filterMap_append,show l.getD k default=l[k] by simp[List.getD,hk]]
 congr 1
 simp only[List.filterMap_cons,List.filterMap_nil]
 split
 ·rename_i h;split at h<;>simp_all
 ·rename_i h;split at h<;>simp_all
theorem kC (u:bx) (l:List cV) (k:Nat):(dU u l k).length<=k:=by
 unfold dU
 refine Nat.le_trans (List.length_filterMap_le _ _) ?_
 rw[List.length_take];omega
set_option maxHeartbeats 1000000 in
theorem FZ {u:bx} (hr:cg u) {l:List cV} (hf:iF u l) (hl:l.length<=65536) {k:Nat} (hk:k<l.length) {ub ob o:Nat} {H:Hp} {nx:Nat} (h1:ub<nx) (h2:ob<nx) (h3:o<nx) (hne:ob≠o)
 (r1:∃d,bt H ub=some (.row 25 3 d [u.av])) (r2:∃d,bt H ob=some (.row 41 1 d [.sl o (dU u l k).length])) (r3:∃d,bt H o=some (.row 105 3 d ((dU u l k).map cY.av))):
 cU Tryz.prog 93 [lY u l,i64 k, .pt ub 1 0 0, .pt ob 1 0 0] H nx (fun _ H' n=>(∃d,bt H' ob=some (.row 41 1 d [.sl o (dU u l (k+1)).length]))/\(∃d,bt H' o=some (.row 105 3 d ((dU u l (k+1)).map cY.av)))/\nx<=n/\∀y,y<nx->y≠ob->y≠o->bt H' y=bt H y):=by
 obtain⟨d1,r1⟩:=r1
 obtain⟨d2,r2⟩:=r2
 obtain⟨d3,r3⟩:=r3
 have hel:=kC u l k
 obtain⟨hm,hp⟩:=hf.ok k hk
 have e0:∀d,(l.map (cV.av u)).getD ((k:Int)).toNat d= .agg [(l.getD k default).m.fz u,i64 (l.getD k default).from_,i64 (l.getD k default).cr]:=fun d=>by rw[Int.toNat_natCast];exact cx (cV.av u) l k d hk
 have a0:(l.map (cV.av u)).length=l.length:=by simp
 have a1:((dU u l k).map cY.av).length=(dU u l k).length:=by simp
 have c0:=xE u hr (l.getD k default).m hm (by omega) (by have:=hm.ml;have:=hr.oh;omega)
 rw[sJ hk]
 generalize (l.getD k default).m=m at *
 cases hs:m.stuck u with
 |true=>
  rw[mU,hs] at c0
  refine aJ Y7 rfl ?_
  refine cP ?_
  refine⟨⟨⟨_,by simp only[List.length_append,if_true,List.length_cons,List.length_nil];exact bu⟩,⟨_,by simp only[List.map_append,if_true,List.map_cons,List.map_nil];exact bu⟩,cX,fun y y1 y2 y3=>cE⟩⟩
 |false=>
  rw[mU,hs] at c0
  refine aJ Y7 rfl ?_
  refine cP ?_
  refine⟨⟨⟨_,by rw[if_neg (by decide),List.append_nil];exact bu⟩,⟨_,by rw[if_neg (by decide),List.append_nil];exact bu⟩,cX,fun y y1 y2 y3=>cE⟩⟩
end
def lp (l:List Int) (i:Nat):List Int:=(List.range l.length).map fun q=>if q<i\/l.length<=q+i then l.getD (l.length - 1 - q) 0 else l.getD q 0
theorem iz (l:List Int) (i:Nat):(lp l i).length=l.length:=by simp[lp]
theorem oY {l:List Int} {i q:Nat} (h:q<l.length):(lp l i).getD q 0=if q<i\/l.length<=q+i then l.getD (l.length - 1 - q) 0 else l.getD q 0:=by simp[lp,List.getD,h]
theorem JR (l:List Int):lp l 0=l:=by
 apply List.ext_getElem (iz l 0)
 intro q h1 h2
 have:=oY (l:=l) (i:=0) h2
 rw[if_neg (by omega)] at this
 simpa[List.getD,h1,h2] using this
theorem OB {l:List Int} {i:Nat} (h:l.length<=2 * i+1):lp l i=l.reverse:=by
 apply List.ext_getElem (by simp[iz])
 intro q h1 h2
 have hq:q<l.length:=by simpa using h2
 have:=oY (l:=l) (i:=i) hq
 rw[show(lp l i).getD q 0=(lp l i)[q] by simp[List.getD,h1]] at this
 rw[this,List.getElem_reverse]
 split
 ·simp[List.getD,show l.length - 1 - q<l.length by omega]
 ·have:q=l.length - 1 - q:=by omega
  conv=>lhs;rw[this]
  simp[List.getD,show l.length - 1 - q<l.length by omega]
theorem JQ {l:List Int} {i:Nat} (h:2 * i+1<l.length):((lp l i).set i (l.getD (l.length - 1 - i) 0)).set (l.length - 1 - i) (l.getD i 0)=lp l (i+1):=by
 apply List.ext_getElem (by simp[iz])
 intro q h1 h2
 have hq:q<l.length:=by simpa[iz] using h2
 have e1:=oY (l:=l) (i:=i) hq
 have e2:=oY (l:=l) (i:=i+1) hq
 rw[show(lp l (i+1)).getD q 0=(lp l (i+1))[q] by simp[List.getD,h2]] at e2
 rw[show(lp l i).getD q 0=(lp l i)[q]'(by rw[iz];exact hq) by simp[List.getD,iz,hq]] at e1
 rw[e2,List.getElem_set,List.getElem_set,e1]
 by_cases c1:l.length - 1 - i=q
 ·subst c1
  rw[if_pos rfl,if_pos (by omega),show l.length - 1 - (l.length - 1 - i)=i by omega]
 ·rw[if_neg c1]
  by_cases c2:i=q
  ·subst c2
   rw[if_pos rfl,if_pos (by omega)]
  ·rw[if_neg c2]
   by_cases c3:q<i\/l.length<=q+i
   ·rw[if_pos c3,if_pos (by omega)]
   ·rw[if_neg c3,if_neg (by omega)]
set_option maxHeartbeats 1000000 in
theorem qe {b:Nat} {l:List Int} {H:Hp} {nx:Nat} (hb:b<nx) (hl:l.length<=1048576) (r:∃d,bt H b=some (.row 3 1 d (l.map i64))):
 cU Tryz.prog 83 [.sl b l.length] H nx (fun _ H' n=>(∃d,bt H' b=some (.row 3 1 d (l.reverse.map i64)))/\nx<=n/\∀y,y<nx->y≠b->bt H' y=bt H y):=by
 obtain⟨d0,r0'⟩:=r
 refine aJ aAl rfl ?_
 have a0:(l.map i64).length=l.length:=by simp
 refine cP ?_
 refine aF (fun σ:Nat×Int=>[(0, .sl b l.length),(2,i64 σ.1),(3,i64 σ.2)]) (fun σ H2 n=>σ.2=(l.length:Int) - 1 - σ.1/\2 * σ.1<=l.length+1/\nx<=n/\(∃d,bt H2 b=some (.row 3 1 d ((lp l σ.1).map i64)))/\∀y,y<nx->y≠b->bt H2 y=bt H y) (fun σ=>l.length - σ.1) (0,(l.length:Int) - 1) cC ⟨by simp,by dsimp only;omega,cX,⟨d0,by rw[JR];exact bu⟩,fun y h1 h2=>cE⟩ ?_
 clear r0' a0
 rintro⟨i,j⟩ H2 n ⟨hj,hi,hn,⟨d,r1⟩,hk⟩
 dsimp only at hj hi r1 ⊢
 have a0:((lp l i).map i64).length=l.length:=by simp[iz]
 by_cases hc:2 * i+1<l.length
 ·obtain⟨jn,rfl⟩:∃jn:Nat,j=jn:=⟨j.toNat,by omega⟩
  have hjn:jn=l.length - 1 - i:=by omega
  have e0:=fun d=>ints_at (l:=lp l i) (k:=i) (by rw[iz];omega) d
  have e1:=fun d=>ints_at (l:=lp l i) (k:=jn) (by rw[iz];omega) d
  have e2:∀x d,(((lp l i).map i64).set ((i:Int)).toNat x).getD ((jn:Int)).toNat d=i64 ((lp l i).getD jn 0):=fun x d=>by
   rw[getD_set_ne (by omega)];exact e1 d
  have v0:=oY (l:=l) (i:=i) (q:=i) (by omega)
  rw[if_neg (by omega)] at v0
  have v1:=oY (l:=l) (i:=i) (q:=jn) (by omega)
  rw[if_neg (by omega)] at v1
  rw[v0] at e0
  rw[v1] at e1 e2
  have e3:=e2 (i64 (l.getD jn 0))
  clear e2
  have hnx:=JQ hc
  rw[<-hjn] at hnx
  refine cP ?_
  refine⟨(i+1,(jn:Int) - 1),by dsimp only;omega,cC,by dsimp only;omega,by dsimp only;omega,cX,⟨_,by dsimp only;rw[<-hnx,List.map_set,List.map_set];exact bu⟩,fun y h1 h2=>Eq.trans cE (hk y h1 h2)⟩
 ·refine cP ?_
  rw[OB (by omega)] at r1
  exact⟨⟨d,bu⟩,cX,fun y h1 h2=>Eq.trans cE (hk y h1 h2)⟩
def j9 (l:List cV):Nat->Nat->List Int
 |0,_=>[]
 |f+1,k=>if 0<=(l.getD k default).from_ then(l.getD k default).cr::j9 l f (l.getD k default).from_.toNat else[]
theorem iF.tD {u:bx} {l:List cV} (h:iF u l) {k:Nat} (hk:k<l.length) (h0:0<=(l.getD k default).from_):(l.getD k default).from_.toNat<k/\0<k:=by
 rcases Nat.eq_zero_or_pos k with e|e
 ·subst e;rw[h.first] at h0;exact absurd h0 (by simp)
 ·obtain⟨k',t,h1,_,_,h2⟩:=h.HC k e hk
  rw[h2]
  exact⟨by dsimp only;omega,e⟩
theorem tj {u:bx} {l:List cV} (h:iF u l):∀{f g k:Nat},k<l.length->k<=f->k<=g->j9 l f k=j9 l g k
 |0,0,k,hk,hf,hg=>rfl
 |0,g+1,k,hk,hf,hg=>by
  obtain rfl:k=0:=by omega
  rw[j9,j9,h.first];rfl
 |f+1,0,k,hk,hf,hg=>by
  obtain rfl:k=0:=by omega
  rw[j9,j9,h.first];rfl
 |f+1,g+1,k,hk,hf,hg=>by
  rw[j9,j9]
  split
  ·rename_i h0
   obtain⟨h1,h2⟩:=h.tD hk h0
   rw[tj h (f:=f) (g:=g) (by omega) (by omega) (by omega)]
  ·rfl
abbrev kW (l:List cV) (k:Nat):List Int:=j9 l k k
theorem py {u:bx} {l:List cV} (h:iF u l) {k:Nat} (hk:k<l.length) (h0:0<=(l.getD k default).from_):kW l k=(l.getD k default).cr::kW l (l.getD k default).from_.toNat:=by
 obtain⟨h1,h2⟩:=h.tD hk h0
 obtain⟨f,rfl⟩:∃f,k=f+1:=⟨k - 1,by omega⟩
 show j9 l (f+1) (f+1)=_
 rw[j9,if_pos h0]
 congr 1
 exact tj h (by omega) (by omega) (Nat.le_refl _)
theorem rD {l:List cV} {k:Nat} (h0:¬0<=(l.getD k default).from_):kW l k=[]:=by
 show j9 l k k=[]
 cases k with
 |zero=>rfl
 |succ f=>rw[j9,if_neg h0]
theorem wI (l:List cV):∀f k,(j9 l f k).length<=f
 |0,k=>Nat.le_refl _
 |f+1,k=>by
  rw[j9]
  split
  ·rw[List.length_cons];have:=wI l f (l.getD k default).from_.toNat;omega
  ·simp
def fP (u:bx) (l:List cV) (e:cY) (k:Nat):Option Nat:=(List.range k).find? fun i=>(l.getD i default).m.stuck u&&decide (eJ ((l.getD i default).m.end_ u) e=0)
theorem pV (u:bx) (l:List cV) (e:cY) (k:Nat):fP u l e (k+1)=match fP u l e k with
 |some i=>some i
 |none=>if(l.getD k default).m.stuck u&&decide (eJ ((l.getD k default).m.end_ u) e=0) then some k else none:=by
 unfold fP
 rw[List.range_succ,List.find?_append]
 cases(List.range k).find? fun i=>(l.getD i default).m.stuck u&&decide (eJ ((l.getD i default).m.end_ u) e=0) with
 |some i=>rfl
 |none=>
  simp only[Option.none_or,List.find?_cons,List.find?_nil]
  split<;>simp_all
theorem M5 {u:bx} {l:List cV} {e:cY} {k i:Nat} (h:fP u l e k=some i):i<k:=by
 have:=List.mem_of_find?_eq_some h
 exact List.mem_range.1 this
def iV (l:List cV):Option Nat->List Int
 |none=>[]
 |some i=>(kW l i).reverse
set_option maxHeartbeats 2000000 in
theorem UY {u:bx} (hr:cg u) {l:List cV} (hf:iF u l) (hl:l.length<=65536) {e:cY} (he1:e.cA.length * 16<=140737488355328) (he2:e.mem.length * 8<=140737488355328) {k:Nat} (hk:k<l.length) {ub ib eb wb W:Nat} {H:Hp} {nx:Nat} (hn:ub<nx/\ib<nx/\eb<nx/\wb<nx/\W<nx) (hne:ub≠ib/\ub≠wb/\ub≠W/\ib≠eb/\ib≠wb/\ib≠W/\eb≠wb/\eb≠W/\wb≠W)
 (r0:∃d,bt H ub=some (.row 25 3 d [u.av])) (r1:∃d,bt H ib=some (.row 4 1 d [bl (fP u l e k).isSome])) (r2:∃d,bt H eb=some (.row 105 3 d [e.av])) (r3:∃d,bt H wb=some (.row 31 1 d [.sl W (iV l (fP u l e k)).length])) (r4:∃d,bt H W=some (.row 3 1 d ((iV l (fP u l e k)).map i64))):
 cU Tryz.prog 103 [lY u l,i64 k, .pt ub 1 0 0, .pt ib 1 0 0, .pt eb 1 0 0, .pt wb 1 0 0] H nx (fun _ H' n=>(∃d,bt H' ib=some (.row 4 1 d [bl (fP u l e (k+1)).isSome]))/\(∃d,bt H' wb=some (.row 31 1 d [.sl W (iV l (fP u l e (k+1))).length]))/\(∃d,bt H' W=some (.row 3 1 d ((iV l (fP u l e (k+1))).map i64)))/\nx<=n/\∀y,y<nx->y≠ib->y≠wb->y≠W->bt H' y=bt H y):=by
 obtain⟨d0,r0'⟩:=r0
 obtain⟨d1,r1'⟩:=r1
 obtain⟨d2,r2'⟩:=r2
 obtain⟨d3,r3'⟩:=r3
 obtain⟨d4,r4'⟩:=r4
 obtain⟨n0,n1,n2,n3,n4⟩:=hn
 obtain⟨m0,m1,m2,m3,m4,m5,m6,m7,m8⟩:=hne
 obtain⟨hm,hp⟩:=hf.ok k hk
 have e0:∀d,(l.map (cV.av u)).getD ((k:Int)).toNat d= .agg [(l.getD k default).m.fz u,i64 (l.getD k default).from_,i64 (l.getD k default).cr]:=fun d=>by rw[Int.toNat_natCast];exact cx (cV.av u) l k d hk
 have a0:(l.map (cV.av u)).length=l.length:=by simp
 have hgl:=hr.oh
 have hml:=hm.ml
 have c0:=xE u hr (l.getD k default).m hm (by omega) (by omega)
 have c1:=p9 ((l.getD k default).m.end_ u) e (by show(l.getD k default).m.cA.length<_;omega) (by show(l.getD k default).m.mem.length<_;omega)
 rw[pV]
 cases hh:fP u l e k with
 |some i=>
  rw[hh] at r1' r3' r4'
  dsimp only
  generalize (l.getD k default).m=m at *
  cases hs:m.stuck u with
  |true=>
   rw[mU,hs] at c0
   refine aJ AI rfl ?_
   refine cP ?_
   exact⟨⟨_,bu⟩,⟨_,bu⟩,⟨_,bu⟩,cX,fun y y1 y2 y3 y4=>cE⟩
  |false=>
   rw[mU,hs] at c0
   refine aJ AI rfl ?_
   refine cP ?_
   exact⟨⟨_,bu⟩,⟨_,bu⟩,⟨_,bu⟩,cX,fun y y1 y2 y3 y4=>cE⟩
 |none=>
  rw[hh] at r1' r3' r4'
  dsimp only
  by_cases hs:(l.getD k default).m.stuck u=true
  ·rw[mU,hs] at c0
   by_cases hc:eJ ((l.getD k default).m.end_ u) e=0
   ·rw[hs,decide_eq_true hc,if_pos (by rfl)]
    rw[decide_eq_true hc] at c1
    refine aJ AI rfl ?_
    refine cP ?_
    clear c0 c1 e0 r0' r2'
    have hway:iV l none=[]:=rfl
    rw[hway] at r3' r4'
    refine aF (fun σ:Nat×List Int=>[(0,lY u l),(5, .pt wb 1 0 0),(10,i64 σ.1)])
     (fun σ H2 n=>σ.1<l.length/\σ.2++kW l σ.1=kW l k/\nx<=n/\(∃d,bt H2 ib=some (.row 4 1 d [bl true]))/\(∃d,bt H2 wb=some (.row 31 1 d [.sl W σ.2.length]))/\(∃d,bt H2 W=some (.row 3 1 d (σ.2.map i64)))/\∀y,y<nx->y≠ib->y≠wb->y≠W->bt H2 y=bt H y) (fun σ=>σ.1) (k,[]) cC
     ⟨hk,rfl,cX,⟨_,bu⟩,⟨_,bu⟩,⟨_,bu⟩,fun y y1 y2 y3 y4=>cE⟩ ?_
    clear r1' r3' r4'
    rintro⟨at_,acc⟩ H2 n ⟨hat,hacc,hn2,⟨d1,r1'⟩,⟨d3,r3'⟩,⟨d4,r4'⟩,hkp⟩
    dsimp only at hat hacc r3' r4' ⊢
    have hbl:=wI l k k
    have hal:acc.length<=65536:=by
     have:=congrArg List.length hacc
     rw[List.length_append] at this
     have:(kW l k).length<=k:=hbl
     omega
    have a1:(acc.map i64).length=acc.length:=by simp
    have e0:∀d,(l.map (cV.av u)).getD ((at_:Int)).toNat d= .agg [(l.getD at_ default).m.fz u,i64 (l.getD at_ default).from_,i64 (l.getD at_ default).cr]:=fun d=>by rw[Int.toNat_natCast];exact cx (cV.av u) l at_ d hat
    by_cases h0:0<=(l.getD at_ default).from_
    ·obtain⟨hlt,hpos⟩:=hf.tD hat h0
     have hon:=py hf hat h0
     obtain⟨q,hq⟩:∃q:Nat,(l.getD at_ default).from_=q:=⟨_,(Int.toNat_of_nonneg h0).symm⟩
     rw[hq] at e0 hlt hon
     rw[Int.toNat_natCast] at hlt hon
     have hge:¬(q:Int)<0:=by omega
     refine cP ?_
     refine⟨(q,acc++[(l.getD at_ default).cr]),hlt,cC,by dsimp only;omega,by dsimp only;rw[List.append_assoc,List.singleton_append,<-hon];exact hacc,cX,⟨_,bu⟩,⟨_,by dsimp only;rw[List.length_append];exact bu⟩,⟨_,by dsimp only;rw[List.map_append];exact bu⟩,fun y y1 y2 y3 y4=>Eq.trans cE (hkp y y1 y2 y3 y4)⟩
    ·have hon:=rD h0
     rw[hon,List.append_nil] at hacc
     subst hacc
     refine cP ?_
     refine aG (qe (b:=W) (l:=kW l k) ?_ (by omega) ?_) ?_
     ·exact cX
     ·exact⟨_,bu⟩
     rintro _ H3 n3 ⟨⟨d5,r5⟩,hn3,hk3⟩
     have q1:=hk3 ib cX (by omega)
     have q2:=hk3 wb cX (by omega)
     refine cP ?_
     exact⟨⟨d1,q1.trans bu⟩,⟨d3,by simp only[iV,List.length_reverse];exact q2.trans bu⟩,⟨d5,bu⟩,cX,fun y y1 y2 y3 y4=>(hk3 y cX y4).trans (Eq.trans cE (hkp y y1 y2 y3 y4))⟩
   ·rw[hs,decide_eq_false hc,if_neg (by decide)]
    rw[decide_eq_false hc] at c1
    refine aJ AI rfl ?_
    refine cP ?_
    exact⟨⟨_,bu⟩,⟨_,bu⟩,⟨_,bu⟩,cX,fun y y1 y2 y3 y4=>cE⟩
  ·have hs2:(l.getD k default).m.stuck u=false:=by simpa using hs
   rw[mU,hs2] at c0
   rw[hs2,Bool.false_and,if_neg (by decide)]
   refine aJ AI rfl ?_
   refine cP ?_
   exact⟨⟨_,bu⟩,⟨_,bu⟩,⟨_,bu⟩,cX,fun y y1 y2 y3 y4=>cE⟩
theorem VW {te e:TypeId} {sz b nx:Nat} {H:Hp} {d:AV} (hb:b<nx) (hsz:0<sz) (h:bt H b=some (.row te 1 d [.sc (.slice none 0 0)])):∃H2,Wk .any H nx .any H2 (nx+1)/\bt H2 b=some (.row te 1 .any [.sl nx 0])/\bt H2 nx=some (.row e sz .any [])/\∀y,y<nx->y≠b->bt H2 y=bt H y:=by
 refine⟨nJ te e sz b 1 nx H,Wk.born hb hsz h, ?_, ?_,fun y y1 y2=>LH y1 y2⟩
 ·rw[nJ,ca,xG];rfl
 ·rw[nJ,cN (by omega),l4,if_pos (by omega)]
noncomputable def xN (u:bx) (most:Int) (e:cY):AV:=
 if(dZ u most).1=0 then .dI [cT (iV (dZ u most).2 (fP u (dZ u most).2 e (dZ u most).2.length)),bl (fP u (dZ u most).2 e (dZ u most).2.length).isSome,i64 0] else .dI [.sc (.slice none 0 0),bl false,i64 (dZ u most).1]
theorem LI {P:Program} {f:FuncId} {args:List AV} {te:TypeId} (e:TypeId) (sz:Nat) {b nx:Nat} {H:Hp} {d:AV} {R:AV->Hp->Nat->Prop} (hb:b<nx) (hsz:0<sz) (h:bt H b=some (.row te 1 d [.sc (.slice none 0 0)]))
 (k:∀H2,bt H2 b=some (.row te 1 .any [.sl nx 0])->bt H2 nx=some (.row e sz .any [])->(∀y,y<nx->y≠b->bt H2 y=bt H y)->cU P f args H2 (nx+1) R):cU P f args H nx R:=by
 obtain⟨H2,hw,q1,q2,q3⟩:=VW hb hsz h
 exact cU.OW (k H2 q1 q2 q3) (hw.same _)
def ye (u:bx) (most:Int) (I:Nat->Hp->Prop) (r:AV) (H:Hp):Prop:=
 match gP u most.toNat with
 |none=>r= .dI [i64 0,i64 3]
 |some l=>r= .dI [i64 l.length,i64 0]/\I l.length H
theorem PB.short {u:bx} {most:Int} {I:Nat->Hp->Prop} {nx:Nat} {H0:Hp} {r:AV} {H:Hp} {n:Nat} (h:PB u most I nx H0 r H n):ye u most I r H:=by
 obtain⟨_,h⟩:=h
 unfold ye
 revert h
 cases gP u most.toNat with
 |none=>exact fun h=>h.1
 |some l=>exact id
set_option maxHeartbeats 2000000 in
theorem O3 (u:bx) (hu:u.Wf) (most:Int) (e:cY) (he1:e.cA.length * 16<=140737488355328) (he2:e.mem.length * 8<=140737488355328):Pure Tryz.prog 58 [u.av,i64 most,e.av] (fun r=>r=xN u most e):=by
 refine cp ?_ (by unfold xN;split<;>simp[cH,c8,cD])
 refine aJ aA2 rfl ?_
 have hnil:cT []= .im 1 .any []:=rfl
 by_cases hr:cg u
 ·by_cases hm:1<=most/\most<=65536
  ·unfold xN
   rw[mB hr hm]
   refine cP ?_
   let l:=(gP u most.toNat).getD []
   let I:Nat->Hp->Prop:=fun k H=>(∃d,bt H 0=some (.row 25 3 d [u.av]))/\(∃d,bt H 6=some (.row 4 1 d [bl (fP u l e k).isSome]))/\(∃d,bt H 1=some (.row 105 3 d [e.av]))/\(∃d,bt H 5=some (.row 31 1 d [.sl 11 (iV l (fP u l e k)).length]))/\(∃d,bt H 11=some (.row 3 1 d ((iV l (fP u l e k)).map i64)))
   refine aG (R:=fun r H n=>12<=n/\ye u most I r H) (LI (b:=5) 3 1 (by omega) (by omega) (d:=gO false [.slice none 0 0]) (te:=31) ?_ fun H2 q1 q2 q3=> ?_) ?_
   ·exact bu
   ·refine(tZ u hu hr most hm _ [.pt 0 1 0 0, .pt 6 1 0 0, .pt 1 1 0 0, .pt 5 1 0 0] H2 12 I ?_ ?_ ?_).mono fun r H n h=>⟨h.1,h.short⟩
    ·exact⟨⟨_,(q3 0 (by omega) (by omega)).trans bu⟩,⟨_,(q3 6 (by omega) (by omega)).trans bu⟩,⟨_,(q3 1 (by omega) (by omega)).trans bu⟩,⟨_,q1⟩,⟨_,q2⟩⟩
    ·rintro k H H' ⟨⟨d0,p0⟩,⟨d1,p1⟩,⟨d2,p2⟩,⟨d3,p3⟩,⟨d4,p4⟩⟩ hk
     exact⟨⟨d0,(hk 0 (by omega)).trans p0⟩,⟨d1,(hk 6 (by omega)).trans p1⟩,⟨d2,(hk 1 (by omega)).trans p2⟩,⟨d3,(hk 5 (by omega)).trans p3⟩,⟨d4,(hk 11 (by omega)).trans p4⟩⟩
    ·intro l' hl' k H n hk hn ⟨p0,p1,p2,p3,p4⟩
     have hll:l=l':=by show(gP u most.toNat).getD []=l';rw[hl'];rfl
     rw[hll] at p1 p3 p4
     obtain⟨hf,hlm,_⟩:=jd hu hr (by omega) hl'
     refine(UY hr hf (by omega) he1 he2 hk (ub:=0) (ib:=6) (eb:=1) (wb:=5) (W:=11) ⟨by omega,by omega,by omega,by omega,by omega⟩ ⟨by omega,by omega,by omega,by omega,by omega,by omega,by omega,by omega,by omega⟩ p0 p1 p2 p3 p4).mono ?_
     rintro _ H' n' ⟨s1,s2,s3,s4,s5⟩
     obtain⟨d0,p0⟩:=p0
     obtain⟨d2,p2⟩:=p2
     refine⟨⟨⟨d0,(s5 0 (by omega) (by omega) (by omega) (by omega)).trans p0⟩, ?_,⟨d2,(s5 1 (by omega) (by omega) (by omega) (by omega)).trans p2⟩, ?_, ?_⟩,s4,fun y y1 y2=>s5 y y2 (by omega) (by omega) (by omega)⟩
     ·rw[hll];exact s1
     ·rw[hll];exact s2
     ·rw[hll];exact s3
   rintro r H' n' ⟨hn,hA⟩
   revert hA
   unfold ye
   cases hs:gP u most.toNat with
   |none=>
    rintro rfl
    refine cP ?_
    exact⟨rfl⟩
   |some l'=>
    rintro⟨rfl,⟨d0,p0⟩,⟨d1,p1⟩,⟨d2,p2⟩,⟨d3,p3⟩,⟨d4,p4⟩⟩
    have hll:l=l':=by show(gP u most.toNat).getD []=l';rw[hs];rfl
    rw[hll] at p1 p3 p4
    refine cP ?_
    refine⟨?_⟩
    dsimp only
    rw[if_pos rfl]
    have hf1:cw.dY H' 5 (.sl 11 (iV l' (fP u l' e l'.length)).length)=cT (iV l' (fP u l' e l'.length)):=by
     rw[dH (k:=4) p4 (by simp),cn _ ((cD _ _).2 fun _ _=>by simp[cH])]
    show AV.dI [cw.dY H' 5 (.sl 11 (iV l' (fP u l' e l'.length)).length),bl (fP u l' e l'.length).isSome,i64 0]=_
    rw[hf1]
  ·unfold xN
   rw[jL hr hm]
   refine cP ?_
   refine aG (wE u hu hr most hm _ _ _ _) ?_
   rintro r H' n' ⟨rfl,hn,hk⟩
   refine cP ?_
   exact⟨rfl⟩
 ·unfold xN
  rw[lV hr]
  refine cP ?_
  refine aG (FO u hu hr most _ _ _ _) ?_
  rintro r H' n' ⟨rfl,hn,hk⟩
  refine cP ?_
  exact⟨rfl⟩
theorem xk {x y z:Int} (h1:eG x y<0) (h2:eG y z<0):eG x z<0:=by
 unfold eG at *
 repeat' split at *
 all_goals omega
theorem aAw (a b c:Int):lG [a,b,c]<0↔a<0\/a=0/\(b<0\/b=0/\c<0):=by
 simp only[lG]
 repeat' split
 all_goals omega
theorem aAv (a b:Int):lG [a,b]<0↔a<0\/a=0/\b<0:=by
 simp only[lG]
 repeat' split
 all_goals omega
theorem P0 {p q r:cy} (h1:gq p q<0) (h2:gq q r<0):gq p r<0:=by
 unfold gq at *
 rw[aAv] at *
 simp only[lW] at *
 rcases h1 with h1|⟨e1,h1⟩<;>rcases h2 with h2|⟨e2,h2⟩
 ·exact .inl (xk h1 h2)
 ·rw[<-e2];exact .inl h1
 ·rw[e1];exact .inl h2
 ·exact .inr ⟨e1.trans e2,xk h1 h2⟩
theorem xl {α:Type} {f:α->α->Int} (hz:∀x y,f x y=0↔x=y) (hf:∀x y z,f x y<0->f y z<0->f x z<0):∀a b c:List α,eR f a b<0->eR f b c<0->eR f a c<0
 |[],[],_,h1,_=>by simp[eR] at h1
 |[],_::_,[],_,h2=>by simp[eR] at h2
 |[],_::_,_::_,_,_=>by simp[eR]
 |_::_,[],_,h1,_=>by simp[eR] at h1
 |_::_,_::_,[],_,h2=>by simp[eR] at h2
 |x::a,y::b,z::c,h1,h2=>by
  rw[eR] at h1 h2 ⊢
  by_cases e1:f x y=0
  ·have:=(hz _ _).1 e1
   subst this
   rw[if_pos e1] at h1
   by_cases e2:f x z=0
   ·rw[if_pos e2] at h2 ⊢
    exact xl hz hf a b c h1 h2
   ·rw[if_neg e2] at h2 ⊢
    exact h2
  ·rw[if_neg e1] at h1
   by_cases e2:f y z=0
   ·have:=(hz _ _).1 e2
    subst this
    rw[if_neg e1]
    exact h1
   ·rw[if_neg e2] at h2
    have h3:=hf _ _ _ h1 h2
    rw[if_neg (by omega)]
    exact h3
theorem PV {a b c:cY} (h1:eJ a b<0) (h2:eJ b c<0):eJ a c<0:=by
 unfold eJ at *
 rw[aAw] at *
 simp only[lX (fun x y=>rI),lX (fun x y=>lW)] at *
 have tp:=xl (f:=gq) (fun x y=>rI) (fun x y z=>P0) a.cA b.cA c.cA
 have ti:=xl (f:=eG) (fun x y=>lW) (fun x y z=>xk) a.mem b.mem c.mem
 have tb:vi a.ended b.ended<0->vi b.ended c.ended<0->vi a.ended c.ended<0:=by
  cases a.ended<;>cases b.ended<;>cases c.ended<;>simp[vi]
 rcases h1 with h1|⟨e1,h1⟩<;>rcases h2 with h2|⟨e2,h2⟩
 ·exact .inl (tp h1 h2)
 ·rw[<-e2];exact .inl h1
 ·rw[e1];exact .inl h2
 ·refine .inr ⟨e1.trans e2, ?_⟩
  rcases h1 with h1|⟨e1',h1⟩<;>rcases h2 with h2|⟨e2',h2⟩
  ·exact .inl (ti h1 h2)
  ·rw[<-e2'];exact .inl h1
  ·rw[e1'];exact .inl h2
  ·exact .inr ⟨e1'.trans e2',tb h1 h2⟩
structure lP {α:Type} (f:α->α->Int):Prop where
 neg:∀x y,f y x=-f x y
 zero:∀x y,f x y=0↔x=y
 tr:∀x y z,f x y<0->f y z<0->f x z<0
theorem gF:lP eJ:=⟨LM,fun _ _=>rG,fun _ _ _=>PV⟩
def wy {α:Type} (f:α->α->Int) (x y:α):Bool:=decide (f x y<=0)
theorem lP.WK {α:Type} {f:α->α->Int} (h:lP f) {x y z:α} (h1:wy f x y=true) (h2:wy f y z=true):wy f x z=true:=by
 simp only[wy,decide_eq_true_eq] at *
 by_cases e1:f x y=0
 ·rw[(h.zero _ _).1 e1];exact h2
 ·by_cases e2:f y z=0
  ·rw[<-(h.zero _ _).1 e2];exact h1
  ·have:=h.tr x y z (by omega) (by omega);omega
theorem lP.le_total {α:Type} {f:α->α->Int} (h:lP f) (x y:α):(wy f x y||wy f y x)=true:=by
 have:=h.neg x y
 simp only[wy,Bool.or_eq_true,decide_eq_true_eq]
 omega
theorem lP.GA {α:Type} {f:α->α->Int} (h:lP f) {x y:α} (h1:wy f x y=true) (h2:wy f y x=true):x=y:=by
 have:=h.neg x y
 simp only[wy,decide_eq_true_eq] at *
 exact(h.zero _ _).1 (by omega)
def gW {α:Type} (f:α->α->Int) (l:List α):List α:=l.mergeSort (wy f)
theorem od {α:Type} (f:α->α->Int) (l:List α):(gW f l).length=l.length:=by simp[gW]
theorem mZ {α:Type} (f:α->α->Int) (l:List α):(gW f l).Perm l:=List.mergeSort_perm _ _
theorem lP.sorted {α:Type} {f:α->α->Int} (h:lP f) (l:List α):(gW f l).Pairwise fun x y=>wy f x y=true:=
 List.pairwise_mergeSort (le:=wy f) (fun a b c h1 h2=>h.WK h1 h2) (fun a b=>h.le_total a b) l
theorem lP.RK {α:Type} {f:α->α->Int} (h:lP f) {l l':List α} (hp:l'.Perm l) (hs:l'.Pairwise fun x y=>wy f x y=true):l'=gW f l:=
 List.Perm.eq_of_pairwise (fun a b _ _ h1 h2=>h.GA h1 h2) hs (h.sorted l) (hp.trans (mZ f l).symm)
end Go.Proofs.YtjopoheligmmoaaGreatDoor
