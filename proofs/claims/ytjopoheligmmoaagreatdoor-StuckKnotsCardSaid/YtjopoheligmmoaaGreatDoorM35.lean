import Derived.Test.YtjopoheligmmoaaGreatDoorM31
import Derived.Test.YtjopoheligmmoaaGreatDoorM33
import Derived.Test.YtjopoheligmmoaaGreatDoorM34
import Derived.Lib.ItoaLen
import Derived.Test.YtjopoheligmmoaaGreatDoorM30
namespace Go.Proofs.YtjopoheligmmoaaGreatDoor
open Go Go.cu Go.Proofs
set_option linter.unusedSimpArgs false
set_option linter.unusedVariables false
set_option maxRecDepth 8000
section
def kQ (S:List Nat) (H:Hp):Hp:=S.map fun y=>(y,bu H y)
theorem zp {S:List Nat} {H:Hp} {y:Nat} (h:y∈S):bu (kQ S H) y=bu H y:=by
 induction S with
 |nil=>cases h
 |cons x S ih=>
  rw[kQ,List.map_cons]
  by_cases e:y=x
  ·subst e;exact cY _ _ _
  ·rw[cN e]
   exact ih (by simpa[e] using h)
theorem qv {S:List Nat} {H:Hp} {y:Nat} {q:fC} (h:bu (kQ S H) y=some q):bu H y=some q:=by
 have:y∈S:=by
  have:=nW h
  simpa[kQ] using this
 rw[zp this] at h;exact h
theorem eQ {S:List Nat} {H H2:Hp} {y:Nat} (h:y∉S):bu (mE (kQ S H) H2) y=bu H2 y:=gA (by simpa[kQ] using h)
section
variable {u:bz} {m:MS} {L:ML} {H:Hp}
theorem ML.At.u0 (h:L.At u m H) (k:Nat):Go.cu.iT (kQ L.all H) (k+4) (.pt L.mr 1 0 0)=m.fz u:=by
 have h:=h.c8 (H':=kQ L.all H) fun y hy=>zp hy
 generalize kQ L.all H=G at *
 obtain⟨d1,h1⟩:=h.rM
 obtain⟨d2,h2⟩:=h.rA
 obtain⟨d3,h3⟩:=h.rS
 obtain⟨d4,h4⟩:=h.rE
 obtain⟨d5,h5⟩:=h.rH
 obtain⟨d6,h6⟩:=h.rP
 have hsl:(dR L.ids m.cA).length=m.cA.length:=qt h.len
 have hs:(dR L.ids m.cA).map (Go.cu.iT G (k+1))=m.cA.map cR:=by
  apply List.ext_getElem (by simp[hsl])
  intro t q1 q2
  have ht:t<m.cA.length:=by simpa using q2
  have hti:t<L.ids.length:=by rw[h.len];exact ht
  obtain⟨d,hd⟩:=h.rL t ht
  rw[show L.ids.getD t 0=L.ids[t] by simp[List.getD,hti],show m.cA.getD t []=m.cA[t] by simp[List.getD,ht]] at hd
  rw[List.getElem_map,List.getElem_map]
  simp only[dR,List.getElem_map,List.getElem_zip]
  rw[nY hd (by simp),gZ _ ((cD _ _).2 fun _ _=>by simp[cK])]
 rw[show Go.cu.iT G (k+4) (.pt L.mr 1 0 0)= .ip 8 .any ([m.rows u L.a L.s L.me L.ho L.pr].map (Go.cu.iT G (k+3))) 0 0 from N7 h1 rfl]
 simp only[List.map_cons,List.map_nil,MS.rows]
 rw[yl]
 simp only[List.map_cons,List.map_nil]
 rw[nY h2 (by simp),nY h3 hsl,nY h4 (by simp),nY h5 (by simp),nY h6 (by simp),hs]
 rw[gZ _ ((cD _ _).2 fun _ _=>by simp[cK]),gZ _ ((cD _ _).2 fun _ _=>by simp[cK]),gZ _ ((cD _ _).2 fun _ _=>by simp[cK]),gZ _ ((cD _ _).2 fun _ _=>by simp[cK])]
 rw[lI _ (show cK 0 (cE u.shared) by simp[cK,cD]),lI _ (show cK 0 (cE u.cB) by simp[cK,cD]),lI _ (show cK 0 (cW u.bw) by simp[cK,cD])]
 rfl
end
def cc.cells (u:bz) (f:cc):List AV:=[f.m.fz u,i64 f.from_,i64 f.dy]
abbrev cc.av (u:bz) (f:cc):AV:= .agg (f.cells u)
abbrev lA (u:bz) (l:List cc):AV:= .im 3 .any (l.map (cc.av u))
@[simp] theorem FY (n:Nat) (u:bz) (f:cc):cX n (f.cells u):=by
  have:=oX n u f.m
  simp[cc.cells,cX,cK]
theorem BF (u:bz) (l:List cc):cX 0 (l.map (cc.av u)):=(cD _ _).2 fun _ _=>by simp only[cc.av,cK];exact FY _ _ _
theorem vX {u:bz} {m:MS} {L:ML} {H:Hp} {lb nx:Nat} {d:AV} {l:List cc} {fr th:Int} (hM:L.At u m H) (hl:bu H lb=some (.row 163 3 d (l.map (cc.av u)++[.agg [.pt L.mr 1 0 0,i64 fr,i64 th]]))) (hlb:lb∉L.all):
 Wk .any H nx .any (mE (kQ L.all H) ((lb,some (.row 163 3 .any ((l++[(⟨m,fr,th⟩:cc)]).map (cc.av u))))::H)) nx:=by
 have:=Wk.iT (nx:=nx) (kQ L.all H) 5 .any hl (fun b q hq=>qv hq)
 rw[List.map_append,gZ _ (BF u l),List.map_cons,List.map_nil,yl,List.map_cons,List.map_cons,List.map_cons,List.map_nil,hM.u0 0,lI _ (show cK 0 (i64 fr) by simp[cK]),lI _ (show cK 0 (i64 th) by simp[cK])] at this
 rw[List.map_append]
 exact this
end
theorem nV {α:Type} (f:α->List UInt8) (k:Nat):∀l:List α,(∀a∈l,(f a).length<=k)->(l.flatMap f).length<=l.length * k
 |[],_=>by simp
 |a::l,h=>by
  have h1:=nV f k l fun b hb=>h b (by simp[hb])
  have h2:=h a (by simp)
  rw[List.flatMap_cons,List.length_append,List.length_cons,Nat.add_mul]
  omega
theorem nj {x:Int} (e:List UInt8) (h:eT x):(fK x e).length<=21+e.length:=by
 have:=Go.Lib.itoa_length_le x h.1 (by have:=h.2;omega)
 unfold fK
 rw[List.length_append]
 omega
theorem eH.RH {u:bz} {m:MS} (hr:ca u) (h:eH u m):(iU m).length<=100000000+m.cJ.length * 50:=by
 have hf:=hr.oW
 have hal:=h.oM
 have hml:=h.ml
 have hhl:=h.hl
 have hn:∀t,t<u.bw.length->(u.gr t).nodes.length<=4096/\(u.gr t).cA<=4160:=fun t ht=>⟨(hr.gr ht).len.2,(hr.gr ht).cA.2⟩
 have h1:((List.range m.at_.length).flatMap (x6 m)).length<=(List.range m.at_.length).length * 100000:=by
  refine nV _ _ _ fun t ht=> ?_
  have ht:=List.mem_range.1 ht
  have hat:=h.iC t (by omega)
  obtain⟨n1,n2⟩:=hn t (by omega)
  have hs:=h.AD t (by omega)
  have a1:=nj (x:=m.at_.getD t 0) [44] ⟨by omega,by omega⟩
  have a2:=nV (fun w=>fK w [44]) 22 (m.cA.getD t []) fun w hw=>nj [44] (h.DA t (by omega) w hw)
  have e:(x6 m t).length=(fK (m.at_.getD t 0) [44]).length+((m.cA.getD t []).flatMap (fun w=>fK w [44])).length+1:=by simp only[x6,List.length_append,List.length_cons,List.length_nil]
  simp only[List.length_cons,List.length_nil] at a1
  rw[e]
  omega
 rw[List.length_range] at h1
 have h2:=nV (fun w=>fK w [44]) 22 m.mem fun w hw=>nj [44] (h.mw w hw)
 have h3:=nV (fun w=>fK w [44]) 22 m.hold fun w hw=>nj [44] (by have:=h.hw w hw;exact⟨by omega,by omega⟩)
 have h4:=nV HB 50 m.cJ fun p hp=>by
  obtain⟨p1,p2,p3⟩:=h.pw p hp
  have a1:=nj (x:=p.dy) [58] ⟨by omega,by omega⟩
  have a2:=nj (x:=p.word) [44] p3
  simp only[List.length_cons,List.length_nil] at a1 a2
  unfold HB
  rw[List.length_append]
  omega
 rw[wj]
 omega
theorem eH.XG {u:bz} {m:MS} (hr:ca u) (h:eH u m) (hp:m.cJ.length<=1048576):ZC m:=by
 have hf:=hr.oW
 refine⟨fun w hw=> ?_,by rw[h.sl,h.oM],fun l hl w hw=> ?_,h.mw,fun w hw=> ?_,fun p hp=> ?_, ?_⟩
 ·obtain⟨t,ht,rfl⟩:=List.mem_iff_getElem.1 hw
  have h1:=h.iC t (by rw[<-h.oM];exact ht)
  have h2:=(hr.gr (t:=t) (by rw[<-h.oM];exact ht)).len.2
  rw[show m.at_.getD t 0=m.at_[t] by simp[List.getD,ht]] at h1
  exact⟨by omega,by omega⟩
 ·obtain⟨t,ht,rfl⟩:=List.mem_iff_getElem.1 hl
  have:=h.DA t (by rw[<-h.sl];exact ht) w
  rw[show m.cA.getD t []=m.cA[t] by simp[List.getD,ht]] at this
  exact this hw
 ·have:=h.hw w hw
  exact⟨by omega,by omega⟩
 ·obtain⟨p1,p2,p3⟩:=h.pw p hp
  exact⟨⟨by omega,by omega⟩,p3⟩
 ·have:=h.RH hr
  omega
theorem PF {a b:List UInt8} (h:lR a=lR b):a=b:=by
 have:=congrArg (fun x:ByteArray=>x.data.toList) h
 simpa[lR] using this
abbrev js (l:List cc):List (ByteArray×Int):=l.map fun f=>(lR (iU f.m),1)
abbrev og (l:List cc):List AV:=qn (fun s:ByteArray=>Value.string s) i64 (js l)
theorem tR (l:List cc) (k:List UInt8):fJ (js l) (lR k)=if k∈jr l then some 1 else none:=by
 split
 ·rename_i h
  cases hl:fJ (js l) (lR k) with
  |none=>
   exfalso
   refine(qi _ _).1 hl ?_
   rw[List.map_map]
   obtain⟨f,h1,h2⟩:=List.mem_map.1 h
   exact List.mem_map.2 ⟨f,h1,by simp only[Function.comp];rw[h2]⟩
  |some v=>
   have hv:∀(l:List cc),fJ (js l) (lR k)=some v->v=1:=by
    intro l
    induction l with
    |nil=>intro h;cases h
    |cons f l ih=>
     intro h
     rw[js,List.map_cons,fJ] at h
     split at h
     ·cases h;rfl
     ·exact ih h
   rw[hv l hl]
 ·rename_i h
  refine(qi _ _).2 fun hm=>h ?_
  rw[List.map_map] at hm
  obtain⟨f,h1,h2⟩:=List.mem_map.1 hm
  simp only[Function.comp] at h2
  exact List.mem_map.2 ⟨f,h1,PF h2⟩
theorem GN {l:List cc} {m:MS} {a b:Int} (h:iU m∉jr l):j1 (js l) (lR (iU m)) 1=js (l++[⟨m,a,b⟩]):=by
 have key:∀E:List (ByteArray×Int),fJ E (lR (iU m))=none->j1 E (lR (iU m)) 1=E++[(lR (iU m),1)]:=by
  intro E
  induction E with
  |nil=>intro _;rfl
  |cons p E ih=>
   intro hn
   obtain⟨x,y⟩:=p
   rw[fJ] at hn
   rw[j1]
   split at hn
   ·cases hn
   ·rename_i hx
    rw[if_neg hx,ih hn];rfl
 rw[key _ (by rw[tR,if_neg h]),js,js,List.map_append];rfl
theorem DX (u:bz) (hu:u.Wf) (hr:¬ca u) (most:Int) (g:Nat) (caps:List AV) (H0:Hp) (nx:Nat):cS Tryz.prog 92 [u.av,i64 most, .fn (.func g) [] caps] H0 nx (fun r H n=>r= .dD [i64 0,i64 60]/\nx<=n/\∀y,y<nx->bu H y=bu H0 y):=by
 have c0:=EN u hu hr
 refine aI RQ rfl ?_
 refine cV ?_
 exact⟨⟨rfl,cZ,fun y hy=>cC⟩⟩
theorem uo (u:bz) (hu:u.Wf) (hr:ca u) (most:Int) (hm:¬(1<=most/\most<=65536)) (g:Nat) (caps:List AV) (H0:Hp) (nx:Nat):cS Tryz.prog 92 [u.av,i64 most, .fn (.func g) [] caps] H0 nx (fun r H n=>r= .dD [i64 0,i64 2]/\nx<=n/\∀y,y<nx->bu H y=bu H0 y):=by
 refine aI RQ rfl ?_
 refine cV ?_
 refine aF (pe u hu hr _ _) ?_
 rintro r H1 n1 ⟨L,rfl,hM,hlt,hn1,hk1⟩
 by_cases h1:most<1
 ·refine cV ?_
  exact⟨⟨rfl,cZ,fun y hy=>Eq.trans cC ((hk1 y cZ).trans cC)⟩⟩
 ·have h2:65536<most:=by omega
  refine cV ?_
  exact⟨⟨rfl,cZ,fun y hy=>Eq.trans cC ((hk1 y cZ).trans cC)⟩⟩
theorem AZ (u:bz) (hr:ca u) (m:MS) (h:eH u m) (hp:m.cJ.length<=1048576) (H0:Hp) (nx:Nat):cS Tryz.prog 146 [m.fz u] H0 nx (fun r H n=>∃L:ML,r= .pt L.mr 1 0 0/\L.At u m H/\(∀x∈L.all,nx<=x/\x<n)/\nx<=n/\∀y,y<nx->bu H y=bu H0 y):=by
 have hgl:=hr.oW
 refine(A0 u m (by have:=h.oM;omega) (by have:=h.ml;omega) (by have:=h.hl;omega) hp (by have:=h.sl;omega) (fun x hx=> ?_) H0 nx).mono ?_
 ·obtain⟨s,hs,rfl⟩:=List.mem_iff_getElem.1 hx
  have h1:=h.AD s (by rw[<-h.sl];exact hs)
  have h2:=(hr.gr (t:=s) (by rw[<-h.sl];exact hs)).cA.2
  rw[show m.cA.getD s []=m.cA[s] by simp[List.getD,hs]] at h1
  omega
 ·rintro r H n ⟨mr,a,s,me,ho,pr,ids,rfl,h1,h2,h3,h4⟩
  exact⟨⟨mr,a,s,me,ho,pr,ids⟩,rfl,h1,h2,h3,h4⟩
def MX (u:bz) (most:Int) (I:Nat->Hp->Prop) (nx:Nat) (H0:Hp) (r:AV) (H:Hp) (n:Nat):Prop:=
 nx<=n/\match iG u most.toNat with
 |none=>r= .dD [i64 0,i64 3]/\∀y,y<nx->bu H y=bu H0 y
 |some l=>r= .dD [i64 l.length,i64 0]/\I l.length H
set_option maxHeartbeats 4000000 in
theorem sS (u:bz) (hu:u.Wf) (hr:ca u) (most:Int) (hm:1<=most/\most<=65536) (g:Nat) (caps:List AV) (H0:Hp) (nx:Nat) (I:Nat->Hp->Prop) (hI0:I 0 H0) (hst:∀k H H',I k H->(∀y,y<nx->bu H' y=bu H y)->I k H')
 (hcl:∀l,iG u most.toNat=some l->∀k H n,k<l.length->nx<=n->I k H->cS Tryz.prog g ([lA u l,i64 k]++caps) H n (fun _ H' n'=>I (k+1) H'/\n<=n'/\∀y,nx<=y->y<n->bu H' y=bu H y)):
 cS Tryz.prog 92 [u.av,i64 most, .fn (.func g) [] caps] H0 nx (MX u most I nx H0):=by
 obtain⟨mo,rfl⟩:∃mo:Nat,most=mo:=⟨most.toNat,by omega⟩
 have hgl:=hr.oW
 unfold MX
 rw[Int.toNat_natCast] at hcl ⊢
 refine aI RQ rfl ?_
 refine cV ?_
 refine aF (pe u hu hr _ _) ?_
 rintro r H1 n1 ⟨L,rfl,hM,hlt,hn1,hk1⟩
 have hF:=jL.init u hu hr
 have hm0:=(hF.ok 0 hF.pos).1
 have hm0':(List.getD (kX u) 0 default).m=cr u:=rfl
 rw[hm0'] at hm0
 have g0:pc true (Value.string (lR (iU (cr u)))) [] (i64 1)=some (og (kX u)):=rfl
 have h65:(65536:Int)<mo->False:=by omega
 refine cV ?_
 refine aR (wi u (cr u) (hm0.XG hr (by simp[cr]))) (args2:=[(cr u).fz u]) ?_ (by simp[cX,oX]) trivial ?_
 ·rw[List.map_cons,List.map_nil]
  congr 1
  exact(hM.c8 fun y hy=>by have:=hlt y hy;exact cC).BK 2
 refine cV ?_
 have hno:∀y,y<nx+1\/n1<=y->y∉L.all:=fun y hy hm=>by have:=hlt y hm;omega
 refine aS (fun σ:Nat×List cc=>[(1,i64 mo),(2, .fn (.func g) [] caps),(3, .pt nx 1 0 0),(10, .sl (n1+15) σ.2.length),(11, .mp (n1+17)),(12,i64 σ.1)])
  (fun σ H n=>σ.1<=σ.2.length/\σ.2.length<=mo/\jL u σ.2/\xn u mo (mo - σ.1) σ.1 σ.2=iG u mo/\n1+23<=n/\(∃d,bu H nx=some (.row 25 3 d [u.av]))/\(∃d,bu H (n1+15)=some (.row 163 3 d (σ.2.map (cc.av u))))/\(∃e d,bu H (n1+17)=some (.row e 0 d (mapA (og σ.2))))/\∀y,y<nx->bu H y=bu H0 y) (fun σ=>mo - σ.1) (0,kX u)
  ⟨_,_,_,Rt.wk (vX (lb:=n1+15) (l:=[]) (fr:=-1) (th:=0) (hM.c8 ?_) bx (hno _ (by omega))),cH,Nat.zero_le _,by show 1<=mo;omega,hF,rfl,cZ,⟨_,(eQ (hno _ (by omega))).trans (Eq.trans cC ((hk1 nx (by omega)).trans bx))⟩,⟨_,(eQ (hno _ (by omega))).trans bx⟩,⟨_,_,(eQ (hno _ (by omega))).trans bx⟩,fun y hy=>(eQ (hno _ (by omega))).trans (Eq.trans cC ((hk1 y cZ).trans cC))⟩ ?_
 ·intro y hy
  have:=hlt y hy
  exact cC
 clear hM hlt hk1 hno
 rintro⟨k,l⟩ H n ⟨hk,hl,hfs,hall,hn,⟨d0,r0'⟩,⟨d1,r1'⟩,⟨e2,d2,r2'⟩,hkp⟩
 dsimp only at hk hl hfs hall r1' r2' ⊢
 by_cases hkl:k<l.length
 ·have e0:∀d,(l.map (cc.av u)).getD ((k:Int)).toNat d=(l.getD k default).av u:=fun d=>by rw[Int.toNat_natCast];exact dN (cc.av u) l k d hkl
  have a0:(l.map (cc.av u)).length=l.length:=by simp
  have hgeq:∀l':List cc,l<+:l'->l'.getD k default=l.getD k default:=fun l' ⟨q,hq⟩=>by rw[<-hq];simp[List.getD,List.getElem?_append,hkl]
  have hmk:mo - k=(mo - (k+1))+1:=by omega
  rw[hmk,xn,if_pos hkl] at hall
  obtain⟨hmok,hpl⟩:=hfs.ok k hkl
  have hmdef:(l.getD k default).m=(l.getD k default).m:=rfl
  generalize hmm:(l.getD k default).m=m at hmok hpl
  have e0':∀d,(l.map (cc.av u)).getD ((k:Int)).toNat d= .agg [m.fz u,i64 (l.getD k default).from_,i64 (l.getD k default).dy]:=fun d=>by rw[e0 d,<-hmm];rfl
  clear e0
  have e0:=e0'
  refine cV ?_
  rw[List.length_map]
  refine aS (fun σ:Nat×List cc=>[(1,i64 mo),(2, .fn (.func g) [] caps),(3, .pt nx 1 0 0),(10, .sl (n1+15) σ.2.length),(11, .mp (n1+17)),(12,i64 k),(13,m.fz u),(52,i64 u.bw.length),(53,i64 σ.1)])
   (fun σ H n=>σ.1<=u.bw.length/\k<σ.2.length/\σ.2.length<=mo/\jL u σ.2/\(σ.2.getD k default).m=m/\(match C1 u mo k ((List.range u.bw.length).drop σ.1) σ.2 with
    |none=>none
    |some l2=>xn u mo (mo - (k+1)) (k+1) l2)=iG u mo/\n1+23<=n/\(∃d,bu H nx=some (.row 25 3 d [u.av]))/\(∃d,bu H (n1+15)=some (.row 163 3 d (σ.2.map (cc.av u))))/\(∃e d,bu H (n1+17)=some (.row e 0 d (mapA (og σ.2))))/\∀y,y<nx->bu H y=bu H0 y) (fun σ=>u.bw.length - σ.1) (0,l)
   ⟨_,_,_,Rt.refl _ _ _,cH,Nat.zero_le _,hkl,hl,hfs,hmm,hall,cZ,⟨_,bx⟩,⟨_,bx⟩,⟨_,_,bx⟩,fun y hy=>Eq.trans cC (hkp y hy)⟩ ?_
  clear e0 e0' a0 r0' r1' r2' hkp hall hfs hl hkl hgeq hn hmm
  rintro⟨t,l⟩ H n ⟨ht,hkl,hl,hfs,hmm,hall,hn,⟨d0,r0'⟩,⟨d1,r1'⟩,⟨e2,d2,r2'⟩,hkp⟩
  dsimp only at ht hkl hl hfs hmm hall r1' r2' ⊢
  have a0:(l.map (cc.av u)).length=l.length:=by simp
  by_cases htl:t<u.bw.length
  ·rw[show(List.range u.bw.length).drop t=t::(List.range u.bw.length).drop (t+1) by rw[List.drop_eq_getElem_cons (by simpa using htl)];simp,C1] at hall
   have c0:=JG u hr m hmok t
   by_cases hb:m.ja u t=0
   ·have hal:=hmok.oM
    refine cV ?_
    refine aF (AZ u hr m hmok (by omega) _ _) ?_
    rintro r H2 n2 ⟨L2,rfl,hM2,hlt2,hn2,hk2⟩
    have hlt2:∀x∈L2.all,n+7<=x/\x<n2:=hlt2
    refine cV ?_
    refine aF (vy hu hr hmok (L:=L2) (hM2.c8 ?_) ?_ (by omega) htl hb) ?_
    ·intro y hy
     have:=hlt2 y hy
     exact cC
    ·intro y hy
     have:=hlt2 y hy
     exact cZ
    rintro r H3 n3 ⟨rfl,hM3,hn3,hk3⟩
    have hno:∀y,y<n+7\/n2<=y->y∉L2.all:=fun y hy hm=>by have:=hlt2 y hm;omega
    have hold:∀y,y<n->bu H3 y=bu H y:=fun y hy=>(hk3 y cZ (hno y (by omega))).trans (Eq.trans cC ((hk2 y cZ).trans cC))
    have hlt3:∀x∈L2.all,x<n3:=fun x hx=>by have:=hlt2 x hx;exact Nat.lt_of_lt_of_le this.2 cZ
    obtain⟨hk9,_⟩:=jj hmok htl hb
    have hm2:=xV hu hr hmok htl hk9
    have hp2:=nH u m t
    have htry:DM u mo k t l=if iU (m.step u t).1∈jr l then some l else if l.length=mo then none else some (l++[⟨(m.step u t).1,k,t⟩]):=by
     unfold DM
     rw[hmm,if_neg (by omega)]
    rw[htry] at hall
    have hput:=fun(h:iU (m.step u t).1∉jr l)=>GN (l:=l) (m:=(m.step u t).1) (a:=k) (b:=t) h
    have hadd:=fun(h:iU (m.step u t).1∉jr l)=>hfs.add hu hr hkl htl (by rw[hmm];exact hb) (by rw[hmm];exact h)
    rw[hmm] at hadd
    generalize (m.step u t).1=m2 at *
    have hkp3:∀y,y<nx->bu H3 y=bu H0 y:=fun y hy=>(hold y (by omega)).trans (hkp y hy)
    have q0:=(hold nx (by omega)).trans r0'
    have q1:=(hold (n1+15) (by omega)).trans r1'
    have q2:=(hold (n1+17) (by omega)).trans r2'
    have hget:=B4 wh i64 (lR (iU m2)) (js l) (i64 0)
    rw[tR] at hget
    clear hk2 hk3 hM2 r0' r1' r2' hold hkp
    by_cases hin:iU m2∈jr l
    ·rw[if_pos hin] at hget hall
     have g0:my true (Value.string (lR (iU m2))) (og l) (i64 0)=some (i64 1,true):=hget
     refine cV ?_
     refine aR (wi u m2 (hm2.XG hr (by omega))) (args2:=[m2.fz u]) ?_ (by simp[cX,oX]) trivial ?_
     ·rw[List.map_cons,List.map_nil]
      congr 1
      exact(hM3.c8 fun y hy=>by have:=hlt3 y hy;exact cC).BK 2
     refine cV ?_
     exact⟨(t+1,l),by dsimp only;omega,_,_,_,Rt.refl _ _ _,cH,by dsimp only;omega,hkl,hl,hfs,hmm,hall,cZ,⟨_,bx⟩,⟨_,bx⟩,⟨_,_,bx⟩,fun y hy=>Eq.trans cC (hkp3 y hy)⟩
    ·rw[if_neg hin] at hget hall
     have g0:my true (Value.string (lR (iU m2))) (og l) (i64 0)=some (i64 0,false):=hget
     by_cases hfull:l.length=mo
     ·rw[if_pos hfull] at hall
      refine cV ?_
      refine aR (wi u m2 (hm2.XG hr (by omega))) (args2:=[m2.fz u]) ?_ (by simp[cX,oX]) trivial ?_
      ·rw[List.map_cons,List.map_nil]
       congr 1
       exact(hM3.c8 fun y hy=>by have:=hlt3 y hy;exact cC).BK 2
      refine cV ?_
      have hall2:none=iG u mo:=hall
      rw[<-hall2]
      exact⟨⟨cZ,rfl,fun y hy=>Eq.trans cC (hkp3 y hy)⟩⟩
     ·rw[if_neg hfull] at hall
      have g1:pc true (Value.string (lR (iU m2))) (og l) (i64 1)=some (og (l++[⟨m2,k,t⟩])):=by
       have:=B5 wh i64 (lR (iU m2)) 1 (js l)
       rw[hput hin] at this
       exact this
      refine cV ?_
      refine aR (wi u m2 (hm2.XG hr (by omega))) (args2:=[m2.fz u]) ?_ (by simp[cX,oX]) trivial ?_
      ·rw[List.map_cons,List.map_nil]
       congr 1
       exact(hM3.c8 fun y hy=>by have:=hlt3 y hy;exact cC).BK 2
      refine cV ?_
      have hout:=hno
      refine⟨(t+1,l++[⟨m2,k,t⟩]),by dsimp only;omega,_,_,_,Rt.wk (vX (L:=L2) (lb:=n1+15) (m:=m2) (l:=l) (fr:=k) (th:=t) (hM3.c8 ?_) bx (hno _ (by omega))),cH,by dsimp only;omega,by dsimp only;rw[List.length_append];omega,by dsimp only;simp only[List.length_append,List.length_cons,List.length_nil];omega,hadd hin,by dsimp only;rw[gQ hkl];exact hmm,hall,cZ,⟨_,(eQ (hno _ (by omega))).trans bx⟩,⟨_,(eQ (hno _ (by omega))).trans bx⟩,⟨_,_,(eQ (hno _ (by omega))).trans bx⟩,fun y hy=>(eQ (hno _ (by omega))).trans (Eq.trans cC (hkp3 y hy))⟩
      intro y hy
      have:=hlt2 y hy
      have:=hlt3 y hy
      exact cC
   ·have htry:DM u mo k t l=some l:=by
     unfold DM
     rw[hmm,if_pos hb]
    rw[htry] at hall
    refine cV ?_
    exact⟨(t+1,l),by dsimp only;omega,_,_,_,Rt.refl _ _ _,cH,by dsimp only;omega,hkl,hl,hfs,hmm,hall,cZ,⟨_,bx⟩,⟨_,bx⟩,⟨_,_,bx⟩,fun y hy=>Eq.trans cC (hkp y hy)⟩
  ·have htG:t=u.bw.length:=by omega
   subst htG
   rw[List.drop_of_length_le (by simp),C1] at hall
   refine cV ?_
   exact⟨(k+1,l),by dsimp only;omega,_,_,_,Rt.refl _ _ _,cH,by dsimp only;omega,hl,hfs,hall,cZ,⟨_,bx⟩,⟨_,bx⟩,⟨_,_,bx⟩,fun y hy=>Eq.trans cC (hkp y hy)⟩
 ·have hk2:k=l.length:=by omega
  refine cV ?_
  have hl2:iG u mo=some l:=by
   rw[<-hall]
   subst hk2
   cases h:mo - l.length with
   |zero=>rfl
   |succ q=>rw[xn,if_neg (by omega)]
  have hw:=fun(H':Hp) (n':Nat) (hr:bu H' (n1+15)=some (.row 163 3 d1 (l.map (cc.av u))))=>Wk.RE (r:= .sl (n1+15) l.length) (H:=H') (nx:=n') [(n1+15,some (.row 163 3 d1 (l.map (cc.av u))))] 1 (fun b q hq=>by
   by_cases hb:b=n1+15
   ·subst hb;rw[cY] at hq;rw[<-hq];exact hr
   ·rw[cN hb] at hq;cases hq)
  rw[BT (cY _ _ _) (by simp),p6] at hw
  rw[hl2]
  refine aS (fun i:Nat=>[(2, .fn (.func g) [] caps),(10,lA u l),(86,i64 l.length),(87,i64 i)])
   (fun i H n=>i<=l.length/\nx<=n/\I i H) (fun i=>l.length - i) 0
   ⟨_,_,_,Rt.slot 10 rfl (hw _ _ bx),cH,Nat.zero_le _,cZ,hst 0 _ _ hI0 fun y hy=>(cN (by omega)).trans (Eq.trans cC (hkp y hy))⟩ ?_
  clear r0' r1' r2' hkp hw hn
  rintro i H n ⟨hi,hn,hI⟩
  by_cases hil:i<l.length
  ·refine cV ?_
   refine Eq.mpr (iy caps _) ?_
   show jB Tryz.prog g (lA u l::i64 i::caps) _ _ _
   refine aF (hcl l hl2 i _ _ hil cZ (hst i H _ hI fun y hy=>cC)) ?_
   rintro _ H2 n2 ⟨hI2,hn2,_⟩
   refine cV ?_
   exact⟨i+1,by omega,_,_,_,Rt.refl _ _ _,cH,by omega,cZ,hst _ _ _ hI2 fun y hy=>cC⟩
  ·obtain rfl:i=l.length:=by omega
   refine cV ?_
   exact⟨⟨cZ,by rw[List.length_map],hst _ _ _ hI fun y hy=>cC⟩⟩
theorem FG (p q:dP):Pure Tryz.prog 151 [p.av,q.av] (fun r=>r=i64 (jl p q)):=by
 have c0:=sd p.dy q.dy
 have c1:=vD p.word q.word
 have c2:=xG [ew p.dy q.dy,ew p.word q.word] (by simp)
 refine aD UP rfl ?_
 refine cV ?_
 refine aR (args2:=[cR [ew p.dy q.dy,ew p.word q.word]]) (r:=i64 (jl p q)) c2 rfl (by simp[cX,cK]) trivial ?_
 refine cV ?_
 first|exact rfl|trivial
theorem vu {l:List dP} {i:Nat} (h:i<l.length) (d:AV):(l.map dP.av).getD ((i:Int)).toNat d=(l.getD i default).av:=by
 rw[Int.toNat_natCast];exact dN dP.av l i d h
theorem AY (a b:List dP) (ha:a.length<9223372036854775807):Pure Tryz.prog 150 [gV a,gV b, .fn (.func 151) [] []] (fun r=>r=i64 (fD jl a b)):=by
 refine aD UO rfl ?_
 refine cV ?_
 rw[List.length_map]
 refine aN (fun i:Nat=>[(0,gV a),(1,gV b),(2, .fn (.func 151) [] []),(11,gV a),(12,i64 a.length),(13,i64 i)]) (fun i H n=>i<=a.length/\i<=b.length/\fD jl a b=fD jl (a.drop i) (b.drop i)) (fun i=>a.length - i) 0 cH ⟨Nat.zero_le _,Nat.zero_le _,rfl⟩ ?_
 rintro i H n ⟨hi,hib,ho⟩
 rw[ho]
 have a0:(a.map dP.av).length=a.length:=by simp
 have a1:(b.map dP.av).length=b.length:=by simp
 by_cases hil:i<a.length
 ·have e0:=fun d=>vu hil d
  by_cases hbl:i<b.length
  ·have e1:=fun d=>vu hbl d
   have hd:=w3 jl default hil hbl
   have c0:=FG (a.getD i default) (b.getD i default)
   generalize a.getD i default=p at *
   generalize b.getD i default=q at *
   by_cases hz:jl p q=0
   ·have r0:=hz
    rw[if_pos hz] at hd
    refine cV ?_
    exact⟨i+1,by omega,cH,by omega,by omega,hd⟩
   ·have r0:=decide_eq_true hz
    rw[if_neg hz] at hd
    refine cV ?_
    rw[hd]
  ·rw[sh jl hil (by omega)]
   refine cV ?_
   first|exact rfl|trivial
 ·obtain rfl:i=a.length:=by omega
  rw[sf jl (Nat.le_refl _) hib]
  by_cases h:a.length<b.length
  ·rw[if_pos h]
   refine cV ?_
   first|exact rfl|trivial
  ·rw[if_neg h]
   refine cV ?_
   first|exact rfl|trivial
theorem AW (a b:List Int) (ha:a.length<9223372036854775807):Pure Tryz.prog 153 [cR a,cR b] (fun r=>r=i64 (fD ew a b)):=by
 refine aD UQ rfl ?_
 refine cV ?_
 rw[List.length_map]
 refine aN (fun i:Nat=>[(0,cR a),(1,cR b),(9,cR a),(10,i64 a.length),(11,i64 i)]) (fun i H n=>i<=a.length/\i<=b.length/\fD ew a b=fD ew (a.drop i) (b.drop i)) (fun i=>a.length - i) 0 cH ⟨Nat.zero_le _,Nat.zero_le _,rfl⟩ ?_
 rintro i H n ⟨hi,hib,ho⟩
 rw[ho]
 have a0:(a.map i64).length=a.length:=by simp
 have a1:(b.map i64).length=b.length:=by simp
 by_cases hil:i<a.length
 ·have e0:=fun d=>ints_at hil d
  by_cases hbl:i<b.length
  ·have e1:=fun d=>ints_at hbl d
   have hd:=w3 ew 0 hil hbl
   have c0:=vD (a.getD i 0) (b.getD i 0)
   generalize a.getD i 0=p at *
   generalize b.getD i 0=q at *
   by_cases hz:ew p q=0
   ·have r0:=hz
    rw[if_pos hz] at hd
    refine cV ?_
    exact⟨i+1,by omega,cH,by omega,by omega,hd⟩
   ·have r0:=decide_eq_true hz
    rw[if_neg hz] at hd
    refine cV ?_
    rw[hd]
  ·rw[sh ew hil (by omega)]
   refine cV ?_
   first|exact rfl|trivial
 ·obtain rfl:i=a.length:=by omega
  rw[sf ew (Nat.le_refl _) hib]
  by_cases h:a.length<b.length
  ·rw[if_pos h]
   refine cV ?_
   first|exact rfl|trivial
  ·rw[if_neg h]
   refine cV ?_
   first|exact rfl|trivial
theorem vC (a b:cx) (h1:a.cJ.length<9223372036854775807) (h2:a.mem.length<9223372036854775807):Pure Tryz.prog 96 [a.av,b.av] (fun r=>r=i64 (gY a b)):=by
 have c0:=AY a.cJ b.cJ h1
 have c1:=AW a.mem b.mem h2
 have c2:=xG [fD jl a.cJ b.cJ,fD ew a.mem b.mem,wY a.ended b.ended] (by simp)
 obtain⟨ap,am,ae⟩:=a
 obtain⟨bp,bm,be⟩:=b
 cases ae<;>cases be<;>(refine aD YZ rfl ?_;refine cV ?_;refine aR (args2:=[cR [fD jl ap bp,fD ew am bm,_]]) (r:=i64 (tn [fD jl ap bp,fD ew am bm,_])) c2 rfl (by simp[cX,cK]) trivial ?_;refine cV ?_;first|exact rfl|trivial)
theorem ot (a b:cx) (h1:a.cJ.length<9223372036854775807) (h2:a.mem.length<9223372036854775807):Pure Tryz.prog 98 [a.av,b.av] (fun r=>r=bl (decide (gY a b=0))):=by
 have c0:=vC a b h1 h2
 refine aD Y0 rfl ?_
 refine cV ?_
 refine eK ?_
 simp
theorem NI (x:Int):ew x x=0:=by unfold ew;simp
theorem se (x y:Int):ew y x=-ew x y:=by
 unfold ew
 repeat' (first|omega|split)
theorem xF:∀l:List Int,tn (l.map (-·))=-tn l
 |[]=>rfl
 |x::l=>by
  simp only[List.map_cons,tn]
  by_cases h:x=0
  ·rw[if_pos (by omega),if_pos h];exact xF l
  ·rw[if_neg (by omega),if_neg h]
theorem JJ (p q:dP):jl q p=-jl p q:=by
 unfold jl
 rw[<-xF,se p.dy,se p.word];rfl
theorem sg {α:Type} {f:α->α->Int} (hf:∀x y,f y x=-f x y):∀a b:List α,fD f b a=-fD f a b
 |[],[]=>rfl
 |[],_::_=>rfl
 |_::_,[]=>rfl
 |x::a,y::b=>by
  rw[fD,fD,hf x y]
  by_cases h:f x y=0
  ·rw[if_pos (by omega),if_pos h];exact sg hf a b
  ·rw[if_neg (by omega),if_neg h]
theorem JH (a b:Bool):wY b a=-wY a b:=by cases a<;>cases b<;>rfl
theorem JI (a b:cx):gY b a=-gY a b:=by
 unfold gY
 rw[<-xF,sg JJ a.cJ,sg se a.mem,JH a.ended];rfl
theorem zW {l:List Int}:tn l=0↔∀x∈l,x=0:=by
 induction l with
 |nil=>simp[tn]
 |cons x l ih=>
  rw[tn]
  by_cases h:x=0
  ·rw[if_pos h,ih];simp[h]
  ·rw[if_neg h];simp[h]
theorem ky {x y:Int}:ew x y=0↔x=y:=by
 constructor
 ·unfold ew;intro h;revert h;repeat' (first|omega|split)
 ·rintro rfl;exact NI _
theorem q7 {p q:dP}:jl p q=0↔p=q:=by
 unfold jl
 rw[zW]
 simp only[List.mem_cons,List.not_mem_nil,or_false,forall_eq_or_imp,forall_eq,ky]
 constructor
 ·rintro⟨h1,h2⟩;cases p;cases q;simp_all
 ·rintro rfl;exact⟨rfl,rfl⟩
theorem kz {α:Type} {f:α->α->Int} (hf:∀x y,f x y=0↔x=y):∀a b:List α,fD f a b=0↔a=b
 |[],[]=>by simp[fD]
 |[],_::_=>by simp[fD]
 |_::_,[]=>by simp[fD]
 |x::a,y::b=>by
  rw[fD]
  by_cases h:f x y=0
  ·rw[if_pos h,kz hf a b]
   have:=(hf x y).1 h
   simp[this]
  ·rw[if_neg h]
   have:x≠y:=fun e=>h ((hf x y).2 e)
   simp[h,this]
theorem qZ {a b:cx}:gY a b=0↔a=b:=by
 unfold gY
 rw[zW]
 simp only[List.mem_cons,List.not_mem_nil,or_false,forall_eq_or_imp,forall_eq,kz (fun x y=>q7),kz (fun x y=>ky)]
 constructor
 ·rintro⟨h1,h2,h3⟩
  obtain⟨ap,am,ae⟩:=a
  obtain⟨bp,bm,be⟩:=b
  cases ae<;>cases be<;>simp_all[wY]
 ·rintro rfl
  exact⟨rfl,rfl,by cases a.ended<;>rfl⟩
section
open Classical in
noncomputable def eS (u:bz) (most:Int):Int×List cc:=
 if ¬ca u then(60,[]) else if ¬(1<=most/\most<=65536) then(2,[]) else match iG u most.toNat with
  |none=>(3,[])
  |some l=>(0,l)
theorem pG {u:bz} {most:Int} (h:¬ca u):eS u most=(60,[]):=by unfold eS;rw[if_pos h]
theorem lT {u:bz} {most:Int} (h:ca u) (hm:¬(1<=most/\most<=65536)):eS u most=(2,[]):=by unfold eS;rw[if_neg (fun e=>e h),if_pos hm]
theorem pH {u:bz} {most:Int} (h:ca u) (hm:1<=most/\most<=65536):eS u most=(match iG u most.toNat with|none=>(3,[])|some l=>(0,l)):=by unfold eS;rw[if_neg (fun e=>e h),if_neg (fun e=>e hm)]
def di (u:bz) (l:List cc) (k:Nat):List cx:=(l.take k).filterMap fun f=>if f.m.stuck u then some (f.m.end_ u) else none
theorem yN {u:bz} {l:List cc} {k:Nat} (hk:k<l.length):di u l (k+1)=di u l k++(if(l.getD k default).m.stuck u then[(l.getD k default).m.end_ u] else[]):=by
 unfold di
 rw[List.take_succ_eq_append_getElem hk,List.filterMap_append,show l.getD k default=l[k] by simp[List.getD,hk]]
 congr 1
 simp only[List.filterMap_cons,List.filterMap_nil]
 split
 ·rename_i h;split at h<;>simp_all
 ·rename_i h;split at h<;>simp_all
theorem l5 (u:bz) (l:List cc) (k:Nat):(di u l k).length<=k:=by
 unfold di
 refine Nat.le_trans (List.length_filterMap_le _ _) ?_
 rw[List.length_take];omega
set_option maxHeartbeats 1000000 in
theorem D6 {u:bz} (hr:ca u) {l:List cc} (hf:jL u l) (hl:l.length<=65536) {k:Nat} (hk:k<l.length) {ub ob o:Nat} {H:Hp} {nx:Nat} (h1:ub<nx) (h2:ob<nx) (h3:o<nx) (hne:ob≠o)
 (r1:∃d,bu H ub=some (.row 25 3 d [u.av])) (r2:∃d,bu H ob=some (.row 41 1 d [.sl o (di u l k).length])) (r3:∃d,bu H o=some (.row 105 3 d ((di u l k).map cx.av))):
 cS Tryz.prog 93 [lA u l,i64 k, .pt ub 1 0 0, .pt ob 1 0 0] H nx (fun _ H' n=>(∃d,bu H' ob=some (.row 41 1 d [.sl o (di u l (k+1)).length]))/\(∃d,bu H' o=some (.row 105 3 d ((di u l (k+1)).map cx.av)))/\nx<=n/\∀y,y<nx->y≠ob->y≠o->bu H' y=bu H y):=by
 obtain⟨d1,r1⟩:=r1
 obtain⟨d2,r2⟩:=r2
 obtain⟨d3,r3⟩:=r3
 have hel:=l5 u l k
 obtain⟨hm,hp⟩:=hf.ok k hk
 have e0:∀d,(l.map (cc.av u)).getD ((k:Int)).toNat d= .agg [(l.getD k default).m.fz u,i64 (l.getD k default).from_,i64 (l.getD k default).dy]:=fun d=>by rw[Int.toNat_natCast];exact dN (cc.av u) l k d hk
 have a0:(l.map (cc.av u)).length=l.length:=by simp
 have a1:((di u l k).map cx.av).length=(di u l k).length:=by simp
 have c0:=vq u hr (l.getD k default).m hm (by omega) (by have:=hm.ml;have:=hr.oW;omega)
 rw[yN hk]
 generalize (l.getD k default).m=m at *
 cases hs:m.stuck u with
 |true=>
  rw[lp,hs] at c0
  refine aI WH rfl ?_
  refine cV ?_
  refine⟨⟨⟨_,by simp only[List.length_append,if_true,List.length_cons,List.length_nil];exact bx⟩,⟨_,by simp only[List.map_append,if_true,List.map_cons,List.map_nil];exact bx⟩,cZ,fun y y1 y2 y3=>cC⟩⟩
 |false=>
  rw[lp,hs] at c0
  refine aI WH rfl ?_
  refine cV ?_
  refine⟨⟨⟨_,by rw[if_neg (by decide),List.append_nil];exact bx⟩,⟨_,by rw[if_neg (by decide),List.append_nil];exact bx⟩,cZ,fun y y1 y2 y3=>cC⟩⟩
end
def lN (l:List Int) (i:Nat):List Int:=(List.range l.length).map fun q=>if q<i\/l.length<=q+i then l.getD (l.length - 1 - q) 0 else l.getD q 0
theorem iQ (l:List Int) (i:Nat):(lN l i).length=l.length:=by simp[lN]
theorem nk {l:List Int} {i q:Nat} (h:q<l.length):(lN l i).getD q 0=if q<i\/l.length<=q+i then l.getD (l.length - 1 - q) 0 else l.getD q 0:=by simp[lN,List.getD,h]
theorem HG (l:List Int):lN l 0=l:=by
 apply List.ext_getElem (iQ l 0)
 intro q h1 h2
 have:=nk (l:=l) (i:=0) h2
 rw[if_neg (by omega)] at this
 simpa[List.getD,h1,h2] using this
theorem LX {l:List Int} {i:Nat} (h:l.length<=2 * i+1):lN l i=l.reverse:=by
 apply List.ext_getElem (by simp[iQ])
 intro q h1 h2
 have hq:q<l.length:=by simpa using h2
 have:=nk (l:=l) (i:=i) hq
 rw[show(lN l i).getD q 0=(lN l i)[q] by simp[List.getD,h1]] at this
 rw[this,List.getElem_reverse]
 split
 ·simp[List.getD,show l.length - 1 - q<l.length by omega]
 ·have:q=l.length - 1 - q:=by omega
  conv=>lhs;rw[this]
  simp[List.getD,show l.length - 1 - q<l.length by omega]
theorem HF {l:List Int} {i:Nat} (h:2 * i+1<l.length):((lN l i).set i (l.getD (l.length - 1 - i) 0)).set (l.length - 1 - i) (l.getD i 0)=lN l (i+1):=by
 apply List.ext_getElem (by simp[iQ])
 intro q h1 h2
 have hq:q<l.length:=by simpa[iQ] using h2
 have e1:=nk (l:=l) (i:=i) hq
 have e2:=nk (l:=l) (i:=i+1) hq
 rw[show(lN l (i+1)).getD q 0=(lN l (i+1))[q] by simp[List.getD,h2]] at e2
 rw[show(lN l i).getD q 0=(lN l i)[q]'(by rw[iQ];exact hq) by simp[List.getD,iQ,hq]] at e1
 rw[e2,List.getElem_set,List.getElem_set,e1]
 by_cases c1:l.length - 1 - i=q
 ·subst c1
  rw[if_pos rfl,if_pos (by omega),show l.length - 1 - (l.length - 1 - i)=i by omega]
 ·rw[if_neg c1]
  by_cases c2:i=q
  ·subst c2
   rw[if_pos rfl,if_pos (by omega)]
  ·rw[if_neg c2]
   by_cases c3:q<i\/l.length<=q+i
   ·rw[if_pos c3,if_pos (by omega)]
   ·rw[if_neg c3,if_neg (by omega)]
set_option maxHeartbeats 1000000 in
theorem qB {b:Nat} {l:List Int} {H:Hp} {nx:Nat} (hb:b<nx) (hl:l.length<=1048576) (r:∃d,bu H b=some (.row 3 1 d (l.map i64))):
 cS Tryz.prog 83 [.sl b l.length] H nx (fun _ H' n=>(∃d,bu H' b=some (.row 3 1 d (l.reverse.map i64)))/\nx<=n/\∀y,y<nx->y≠b->bu H' y=bu H y):=by
 obtain⟨d0,r0'⟩:=r
 refine aI YT rfl ?_
 have a0:(l.map i64).length=l.length:=by simp
 refine cV ?_
 refine aN (fun σ:Nat×Int=>[(0, .sl b l.length),(2,i64 σ.1),(3,i64 σ.2)]) (fun σ H2 n=>σ.2=(l.length:Int) - 1 - σ.1/\2 * σ.1<=l.length+1/\nx<=n/\(∃d,bu H2 b=some (.row 3 1 d ((lN l σ.1).map i64)))/\∀y,y<nx->y≠b->bu H2 y=bu H y) (fun σ=>l.length - σ.1) (0,(l.length:Int) - 1) cH ⟨by simp,by dsimp only;omega,cZ,⟨d0,by rw[HG];exact bx⟩,fun y h1 h2=>cC⟩ ?_
 clear r0' a0
 rintro⟨i,j⟩ H2 n ⟨hj,hi,hn,⟨d,r1⟩,hk⟩
 dsimp only at hj hi r1 ⊢
 have a0:((lN l i).map i64).length=l.length:=by simp[iQ]
 by_cases hc:2 * i+1<l.length
 ·obtain⟨jn,rfl⟩:∃jn:Nat,j=jn:=⟨j.toNat,by omega⟩
  have hjn:jn=l.length - 1 - i:=by omega
  have e0:=fun d=>ints_at (l:=lN l i) (k:=i) (by rw[iQ];omega) d
  have e1:=fun d=>ints_at (l:=lN l i) (k:=jn) (by rw[iQ];omega) d
  have e2:∀x d,(((lN l i).map i64).set ((i:Int)).toNat x).getD ((jn:Int)).toNat d=i64 ((lN l i).getD jn 0):=fun x d=>by
   rw[getD_set_ne (by omega)];exact e1 d
  have v0:=nk (l:=l) (i:=i) (q:=i) (by omega)
  rw[if_neg (by omega)] at v0
  have v1:=nk (l:=l) (i:=i) (q:=jn) (by omega)
  rw[if_neg (by omega)] at v1
  rw[v0] at e0
  rw[v1] at e1 e2
  have e3:=e2 (i64 (l.getD jn 0))
  clear e2
  have hnx:=HF hc
  rw[<-hjn] at hnx
  refine cV ?_
  refine⟨(i+1,(jn:Int) - 1),by dsimp only;omega,cH,by dsimp only;omega,by dsimp only;omega,cZ,⟨_,by dsimp only;rw[<-hnx,List.map_set,List.map_set];exact bx⟩,fun y h1 h2=>Eq.trans cC (hk y h1 h2)⟩
 ·refine cV ?_
  rw[LX (by omega)] at r1
  exact⟨⟨d,bx⟩,cZ,fun y h1 h2=>Eq.trans cC (hk y h1 h2)⟩
def jT (l:List cc):Nat->Nat->List Int
 |0,_=>[]
 |f+1,k=>if 0<=(l.getD k default).from_ then(l.getD k default).dy::jT l f (l.getD k default).from_.toNat else[]
theorem jL.wc {u:bz} {l:List cc} (h:jL u l) {k:Nat} (hk:k<l.length) (h0:0<=(l.getD k default).from_):(l.getD k default).from_.toNat<k/\0<k:=by
 rcases Nat.eq_zero_or_pos k with e|e
 ·subst e;rw[h.first] at h0;exact absurd h0 (by simp)
 ·obtain⟨k',t,h1,_,_,h2⟩:=h.JF k e hk
  rw[h2]
  exact⟨by dsimp only;omega,e⟩
theorem sY {u:bz} {l:List cc} (h:jL u l):∀{f g k:Nat},k<l.length->k<=f->k<=g->jT l f k=jT l g k
 |0,0,k,hk,hf,hg=>rfl
 |0,g+1,k,hk,hf,hg=>by
  obtain rfl:k=0:=by omega
  rw[jT,jT,h.first];rfl
 |f+1,0,k,hk,hf,hg=>by
  obtain rfl:k=0:=by omega
  rw[jT,jT,h.first];rfl
 |f+1,g+1,k,hk,hf,hg=>by
  rw[jT,jT]
  split
  ·rename_i h0
   obtain⟨h1,h2⟩:=h.wc hk h0
   rw[sY h (f:=f) (g:=g) (by omega) (by omega) (by omega)]
  ·rfl
abbrev oC (l:List cc) (k:Nat):List Int:=jT l k k
theorem xu {u:bz} {l:List cc} (h:jL u l) {k:Nat} (hk:k<l.length) (h0:0<=(l.getD k default).from_):oC l k=(l.getD k default).dy::oC l (l.getD k default).from_.toNat:=by
 obtain⟨h1,h2⟩:=h.wc hk h0
 obtain⟨f,rfl⟩:∃f,k=f+1:=⟨k - 1,by omega⟩
 show jT l (f+1) (f+1)=_
 rw[jT,if_pos h0]
 congr 1
 exact sY h (by omega) (by omega) (Nat.le_refl _)
theorem ux {l:List cc} {k:Nat} (h0:¬0<=(l.getD k default).from_):oC l k=[]:=by
 show jT l k k=[]
 cases k with
 |zero=>rfl
 |succ f=>rw[jT,if_neg h0]
theorem uw (l:List cc):∀f k,(jT l f k).length<=f
 |0,k=>Nat.le_refl _
 |f+1,k=>by
  rw[jT]
  split
  ·rw[List.length_cons];have:=uw l f (l.getD k default).from_.toNat;omega
  ·simp
def fg (u:bz) (l:List cc) (e:cx) (k:Nat):Option Nat:=(List.range k).find? fun i=>(l.getD i default).m.stuck u&&decide (gY ((l.getD i default).m.end_ u) e=0)
theorem BQ (u:bz) (l:List cc) (e:cx) (k:Nat):fg u l e (k+1)=match fg u l e k with
 |some i=>some i
 |none=>if(l.getD k default).m.stuck u&&decide (gY ((l.getD k default).m.end_ u) e=0) then some k else none:=by
 unfold fg
 rw[List.range_succ,List.find?_append]
 cases(List.range k).find? fun i=>(l.getD i default).m.stuck u&&decide (gY ((l.getD i default).m.end_ u) e=0) with
 |some i=>rfl
 |none=>
  simp only[Option.none_or,List.find?_cons,List.find?_nil]
  split<;>simp_all
theorem KN {u:bz} {l:List cc} {e:cx} {k i:Nat} (h:fg u l e k=some i):i<k:=by
 have:=List.mem_of_find?_eq_some h
 exact List.mem_range.1 this
def kR (l:List cc):Option Nat->List Int
 |none=>[]
 |some i=>(oC l i).reverse
set_option maxHeartbeats 2000000 in
theorem SH {u:bz} (hr:ca u) {l:List cc} (hf:jL u l) (hl:l.length<=65536) {e:cx} (he1:e.cJ.length * 16<=140737488355328) (he2:e.mem.length * 8<=140737488355328) {k:Nat} (hk:k<l.length) {ub ib eb wb W:Nat} {H:Hp} {nx:Nat} (hn:ub<nx/\ib<nx/\eb<nx/\wb<nx/\W<nx) (hne:ub≠ib/\ub≠wb/\ub≠W/\ib≠eb/\ib≠wb/\ib≠W/\eb≠wb/\eb≠W/\wb≠W)
 (r0:∃d,bu H ub=some (.row 25 3 d [u.av])) (r1:∃d,bu H ib=some (.row 4 1 d [bl (fg u l e k).isSome])) (r2:∃d,bu H eb=some (.row 105 3 d [e.av])) (r3:∃d,bu H wb=some (.row 31 1 d [.sl W (kR l (fg u l e k)).length])) (r4:∃d,bu H W=some (.row 3 1 d ((kR l (fg u l e k)).map i64))):
 cS Tryz.prog 103 [lA u l,i64 k, .pt ub 1 0 0, .pt ib 1 0 0, .pt eb 1 0 0, .pt wb 1 0 0] H nx (fun _ H' n=>(∃d,bu H' ib=some (.row 4 1 d [bl (fg u l e (k+1)).isSome]))/\(∃d,bu H' wb=some (.row 31 1 d [.sl W (kR l (fg u l e (k+1))).length]))/\(∃d,bu H' W=some (.row 3 1 d ((kR l (fg u l e (k+1))).map i64)))/\nx<=n/\∀y,y<nx->y≠ib->y≠wb->y≠W->bu H' y=bu H y):=by
 obtain⟨d0,r0'⟩:=r0
 obtain⟨d1,r1'⟩:=r1
 obtain⟨d2,r2'⟩:=r2
 obtain⟨d3,r3'⟩:=r3
 obtain⟨d4,r4'⟩:=r4
 obtain⟨n0,n1,n2,n3,n4⟩:=hn
 obtain⟨m0,m1,m2,m3,m4,m5,m6,m7,m8⟩:=hne
 obtain⟨hm,hp⟩:=hf.ok k hk
 have e0:∀d,(l.map (cc.av u)).getD ((k:Int)).toNat d= .agg [(l.getD k default).m.fz u,i64 (l.getD k default).from_,i64 (l.getD k default).dy]:=fun d=>by rw[Int.toNat_natCast];exact dN (cc.av u) l k d hk
 have a0:(l.map (cc.av u)).length=l.length:=by simp
 have hgl:=hr.oW
 have hml:=hm.ml
 have c0:=vq u hr (l.getD k default).m hm (by omega) (by omega)
 have c1:=ot ((l.getD k default).m.end_ u) e (by show(l.getD k default).m.cJ.length<_;omega) (by show(l.getD k default).m.mem.length<_;omega)
 rw[BQ]
 cases hh:fg u l e k with
 |some i=>
  rw[hh] at r1' r3' r4'
  dsimp only
  generalize (l.getD k default).m=m at *
  cases hs:m.stuck u with
  |true=>
   rw[lp,hs] at c0
   refine aI zB rfl ?_
   refine cV ?_
   exact⟨⟨_,bx⟩,⟨_,bx⟩,⟨_,bx⟩,cZ,fun y y1 y2 y3 y4=>cC⟩
  |false=>
   rw[lp,hs] at c0
   refine aI zB rfl ?_
   refine cV ?_
   exact⟨⟨_,bx⟩,⟨_,bx⟩,⟨_,bx⟩,cZ,fun y y1 y2 y3 y4=>cC⟩
 |none=>
  rw[hh] at r1' r3' r4'
  dsimp only
  by_cases hs:(l.getD k default).m.stuck u=true
  ·rw[lp,hs] at c0
   by_cases hc:gY ((l.getD k default).m.end_ u) e=0
   ·rw[hs,decide_eq_true hc,if_pos (by rfl)]
    rw[decide_eq_true hc] at c1
    refine aI zB rfl ?_
    refine cV ?_
    clear c0 c1 e0 r0' r2'
    have hway:kR l none=[]:=rfl
    rw[hway] at r3' r4'
    refine aN (fun σ:Nat×List Int=>[(0,lA u l),(5, .pt wb 1 0 0),(10,i64 σ.1)])
     (fun σ H2 n=>σ.1<l.length/\σ.2++oC l σ.1=oC l k/\nx<=n/\(∃d,bu H2 ib=some (.row 4 1 d [bl true]))/\(∃d,bu H2 wb=some (.row 31 1 d [.sl W σ.2.length]))/\(∃d,bu H2 W=some (.row 3 1 d (σ.2.map i64)))/\∀y,y<nx->y≠ib->y≠wb->y≠W->bu H2 y=bu H y) (fun σ=>σ.1) (k,[]) cH
     ⟨hk,rfl,cZ,⟨_,bx⟩,⟨_,bx⟩,⟨_,bx⟩,fun y y1 y2 y3 y4=>cC⟩ ?_
    clear r1' r3' r4'
    rintro⟨at_,acc⟩ H2 n ⟨hat,hacc,hn2,⟨d1,r1'⟩,⟨d3,r3'⟩,⟨d4,r4'⟩,hkp⟩
    dsimp only at hat hacc r3' r4' ⊢
    have hbl:=uw l k k
    have hal:acc.length<=65536:=by
     have:=congrArg List.length hacc
     rw[List.length_append] at this
     have:(oC l k).length<=k:=hbl
     omega
    have a1:(acc.map i64).length=acc.length:=by simp
    have e0:∀d,(l.map (cc.av u)).getD ((at_:Int)).toNat d= .agg [(l.getD at_ default).m.fz u,i64 (l.getD at_ default).from_,i64 (l.getD at_ default).dy]:=fun d=>by rw[Int.toNat_natCast];exact dN (cc.av u) l at_ d hat
    by_cases h0:0<=(l.getD at_ default).from_
    ·obtain⟨hlt,hpos⟩:=hf.wc hat h0
     have hon:=xu hf hat h0
     obtain⟨q,hq⟩:∃q:Nat,(l.getD at_ default).from_=q:=⟨_,(Int.toNat_of_nonneg h0).symm⟩
     rw[hq] at e0 hlt hon
     rw[Int.toNat_natCast] at hlt hon
     have hge:¬(q:Int)<0:=by omega
     refine cV ?_
     refine⟨(q,acc++[(l.getD at_ default).dy]),hlt,cH,by dsimp only;omega,by dsimp only;rw[List.append_assoc,List.singleton_append,<-hon];exact hacc,cZ,⟨_,bx⟩,⟨_,by dsimp only;rw[List.length_append];exact bx⟩,⟨_,by dsimp only;rw[List.map_append];exact bx⟩,fun y y1 y2 y3 y4=>Eq.trans cC (hkp y y1 y2 y3 y4)⟩
    ·have hon:=ux h0
     rw[hon,List.append_nil] at hacc
     subst hacc
     refine cV ?_
     refine aF (qB (b:=W) (l:=oC l k) ?_ (by omega) ?_) ?_
     ·exact cZ
     ·exact⟨_,bx⟩
     rintro _ H3 n3 ⟨⟨d5,r5⟩,hn3,hk3⟩
     have q1:=hk3 ib cZ (by omega)
     have q2:=hk3 wb cZ (by omega)
     refine cV ?_
     exact⟨⟨d1,q1.trans bx⟩,⟨d3,by simp only[kR,List.length_reverse];exact q2.trans bx⟩,⟨d5,bx⟩,cZ,fun y y1 y2 y3 y4=>(hk3 y cZ y4).trans (Eq.trans cC (hkp y y1 y2 y3 y4))⟩
   ·rw[hs,decide_eq_false hc,if_neg (by decide)]
    rw[decide_eq_false hc] at c1
    refine aI zB rfl ?_
    refine cV ?_
    exact⟨⟨_,bx⟩,⟨_,bx⟩,⟨_,bx⟩,cZ,fun y y1 y2 y3 y4=>cC⟩
  ·have hs2:(l.getD k default).m.stuck u=false:=by simpa using hs
   rw[lp,hs2] at c0
   rw[hs2,Bool.false_and,if_neg (by decide)]
   refine aI zB rfl ?_
   refine cV ?_
   exact⟨⟨_,bx⟩,⟨_,bx⟩,⟨_,bx⟩,cZ,fun y y1 y2 y3 y4=>cC⟩
theorem TB {te e:TypeId} {sz b nx:Nat} {H:Hp} {d:AV} (hb:b<nx) (hsz:0<sz) (h:bu H b=some (.row te 1 d [.sc (.slice none 0 0)])):∃H2,Wk .any H nx .any H2 (nx+1)/\bu H2 b=some (.row te 1 .any [.sl nx 0])/\bu H2 nx=some (.row e sz .any [])/\∀y,y<nx->y≠b->bu H2 y=bu H y:=by
 refine⟨mV te e sz b 1 nx H,Wk.born hb hsz h, ?_, ?_,fun y y1 y2=>JD y1 y2⟩
 ·rw[mV,cY,vv];rfl
 ·rw[mV,cN (by omega),lD,if_pos (by omega)]
noncomputable def wB (u:bz) (most:Int) (e:cx):AV:=
 if(eS u most).1=0 then .dD [cR (kR (eS u most).2 (fg u (eS u most).2 e (eS u most).2.length)),bl (fg u (eS u most).2 e (eS u most).2.length).isSome,i64 0] else .dD [.sc (.slice none 0 0),bl false,i64 (eS u most).1]
theorem JE {P:Program} {f:FuncId} {args:List AV} {te:TypeId} (e:TypeId) (sz:Nat) {b nx:Nat} {H:Hp} {d:AV} {R:AV->Hp->Nat->Prop} (hb:b<nx) (hsz:0<sz) (h:bu H b=some (.row te 1 d [.sc (.slice none 0 0)]))
 (k:∀H2,bu H2 b=some (.row te 1 .any [.sl nx 0])->bu H2 nx=some (.row e sz .any [])->(∀y,y<nx->y≠b->bu H2 y=bu H y)->cS P f args H2 (nx+1) R):cS P f args H nx R:=by
 obtain⟨H2,hw,q1,q2,q3⟩:=TB hb hsz h
 exact cS.MG (k H2 q1 q2 q3) (hw.same _)
def x8 (u:bz) (most:Int) (I:Nat->Hp->Prop) (r:AV) (H:Hp):Prop:=
 match iG u most.toNat with
 |none=>r= .dD [i64 0,i64 3]
 |some l=>r= .dD [i64 l.length,i64 0]/\I l.length H
theorem MX.short {u:bz} {most:Int} {I:Nat->Hp->Prop} {nx:Nat} {H0:Hp} {r:AV} {H:Hp} {n:Nat} (h:MX u most I nx H0 r H n):x8 u most I r H:=by
 obtain⟨_,h⟩:=h
 unfold x8
 revert h
 cases iG u most.toNat with
 |none=>exact fun h=>h.1
 |some l=>exact id
set_option maxHeartbeats 2000000 in
theorem MO (u:bz) (hu:u.Wf) (most:Int) (e:cx) (he1:e.cJ.length * 16<=140737488355328) (he2:e.mem.length * 8<=140737488355328):Pure Tryz.prog 58 [u.av,i64 most,e.av] (fun r=>r=wB u most e):=by
 refine cm ?_ (by unfold wB;split<;>simp[cK,cX,cD])
 refine aI YD rfl ?_
 have hnil:cR []= .im 1 .any []:=rfl
 by_cases hr:ca u
 ·by_cases hm:1<=most/\most<=65536
  ·unfold wB
   rw[pH hr hm]
   refine cV ?_
   let l:=(iG u most.toNat).getD []
   let I:Nat->Hp->Prop:=fun k H=>(∃d,bu H 0=some (.row 25 3 d [u.av]))/\(∃d,bu H 6=some (.row 4 1 d [bl (fg u l e k).isSome]))/\(∃d,bu H 1=some (.row 105 3 d [e.av]))/\(∃d,bu H 5=some (.row 31 1 d [.sl 11 (kR l (fg u l e k)).length]))/\(∃d,bu H 11=some (.row 3 1 d ((kR l (fg u l e k)).map i64)))
   refine aF (R:=fun r H n=>12<=n/\x8 u most I r H) (JE (b:=5) 3 1 (by omega) (by omega) (d:=gC false [.slice none 0 0]) (te:=31) ?_ fun H2 q1 q2 q3=> ?_) ?_
   ·exact bx
   ·refine(sS u hu hr most hm _ [.pt 0 1 0 0, .pt 6 1 0 0, .pt 1 1 0 0, .pt 5 1 0 0] H2 12 I ?_ ?_ ?_).mono fun r H n h=>⟨h.1,h.short⟩
    ·exact⟨⟨_,(q3 0 (by omega) (by omega)).trans bx⟩,⟨_,(q3 6 (by omega) (by omega)).trans bx⟩,⟨_,(q3 1 (by omega) (by omega)).trans bx⟩,⟨_,q1⟩,⟨_,q2⟩⟩
    ·rintro k H H' ⟨⟨d0,p0⟩,⟨d1,p1⟩,⟨d2,p2⟩,⟨d3,p3⟩,⟨d4,p4⟩⟩ hk
     exact⟨⟨d0,(hk 0 (by omega)).trans p0⟩,⟨d1,(hk 6 (by omega)).trans p1⟩,⟨d2,(hk 1 (by omega)).trans p2⟩,⟨d3,(hk 5 (by omega)).trans p3⟩,⟨d4,(hk 11 (by omega)).trans p4⟩⟩
    ·intro l' hl' k H n hk hn ⟨p0,p1,p2,p3,p4⟩
     have hll:l=l':=by show(iG u most.toNat).getD []=l';rw[hl'];rfl
     rw[hll] at p1 p3 p4
     obtain⟨hf,hlm,_⟩:=lU hu hr (by omega) hl'
     refine(SH hr hf (by omega) he1 he2 hk (ub:=0) (ib:=6) (eb:=1) (wb:=5) (W:=11) ⟨by omega,by omega,by omega,by omega,by omega⟩ ⟨by omega,by omega,by omega,by omega,by omega,by omega,by omega,by omega,by omega⟩ p0 p1 p2 p3 p4).mono ?_
     rintro _ H' n' ⟨s1,s2,s3,s4,s5⟩
     obtain⟨d0,p0⟩:=p0
     obtain⟨d2,p2⟩:=p2
     refine⟨⟨⟨d0,(s5 0 (by omega) (by omega) (by omega) (by omega)).trans p0⟩, ?_,⟨d2,(s5 1 (by omega) (by omega) (by omega) (by omega)).trans p2⟩, ?_, ?_⟩,s4,fun y y1 y2=>s5 y y2 (by omega) (by omega) (by omega)⟩
     ·rw[hll];exact s1
     ·rw[hll];exact s2
     ·rw[hll];exact s3
   rintro r H' n' ⟨hn,hA⟩
   revert hA
   unfold x8
   cases hs:iG u most.toNat with
   |none=>
    rintro rfl
    refine cV ?_
    exact⟨rfl⟩
   |some l'=>
    rintro⟨rfl,⟨d0,p0⟩,⟨d1,p1⟩,⟨d2,p2⟩,⟨d3,p3⟩,⟨d4,p4⟩⟩
    have hll:l=l':=by show(iG u most.toNat).getD []=l';rw[hs];rfl
    rw[hll] at p1 p3 p4
    refine cV ?_
    refine⟨?_⟩
    dsimp only
    rw[if_pos rfl]
    have hf1:cu.dX H' 5 (.sl 11 (kR l' (fg u l' e l'.length)).length)=cR (kR l' (fg u l' e l'.length)):=by
     rw[dI (k:=4) p4 (by simp),cn _ ((cD _ _).2 fun _ _=>by simp[cK])]
    show AV.dD [cu.dX H' 5 (.sl 11 (kR l' (fg u l' e l'.length)).length),bl (fg u l' e l'.length).isSome,i64 0]=_
    rw[hf1]
  ·unfold wB
   rw[lT hr hm]
   refine cV ?_
   refine aF (uo u hu hr most hm _ _ _ _) ?_
   rintro r H' n' ⟨rfl,hn,hk⟩
   refine cV ?_
   exact⟨rfl⟩
 ·unfold wB
  rw[pG hr]
  refine cV ?_
  refine aF (DX u hu hr most _ _ _ _) ?_
  rintro r H' n' ⟨rfl,hn,hk⟩
  refine cV ?_
  exact⟨rfl⟩
theorem wZ {x y z:Int} (h1:ew x y<0) (h2:ew y z<0):ew x z<0:=by
 unfold ew at *
 repeat' split at *
 all_goals omega
theorem Y4 (a b c:Int):tn [a,b,c]<0↔a<0\/a=0/\(b<0\/b=0/\c<0):=by
 simp only[tn]
 repeat' split
 all_goals omega
theorem Y3 (a b:Int):tn [a,b]<0↔a<0\/a=0/\b<0:=by
 simp only[tn]
 repeat' split
 all_goals omega
theorem NJ {p q r:dP} (h1:jl p q<0) (h2:jl q r<0):jl p r<0:=by
 unfold jl at *
 rw[Y3] at *
 simp only[ky] at *
 rcases h1 with h1|⟨e1,h1⟩<;>rcases h2 with h2|⟨e2,h2⟩
 ·exact .inl (wZ h1 h2)
 ·rw[<-e2];exact .inl h1
 ·rw[e1];exact .inl h2
 ·exact .inr ⟨e1.trans e2,wZ h1 h2⟩
theorem w4 {α:Type} {f:α->α->Int} (hz:∀x y,f x y=0↔x=y) (hf:∀x y z,f x y<0->f y z<0->f x z<0):∀a b c:List α,fD f a b<0->fD f b c<0->fD f a c<0
 |[],[],_,h1,_=>by simp[fD] at h1
 |[],_::_,[],_,h2=>by simp[fD] at h2
 |[],_::_,_::_,_,_=>by simp[fD]
 |_::_,[],_,h1,_=>by simp[fD] at h1
 |_::_,_::_,[],_,h2=>by simp[fD] at h2
 |x::a,y::b,z::c,h1,h2=>by
  rw[fD] at h1 h2 ⊢
  by_cases e1:f x y=0
  ·have:=(hz _ _).1 e1
   subst this
   rw[if_pos e1] at h1
   by_cases e2:f x z=0
   ·rw[if_pos e2] at h2 ⊢
    exact w4 hz hf a b c h1 h2
   ·rw[if_neg e2] at h2 ⊢
    exact h2
  ·rw[if_neg e1] at h1
   by_cases e2:f y z=0
   ·have:=(hz _ _).1 e2
    subst this
    rw[if_neg e1]
    exact h1
   ·rw[if_neg e2] at h2
    have h3:=hf _ _ _ h1 h2
    rw[if_neg (by omega)]
    exact h3
theorem NH {a b c:cx} (h1:gY a b<0) (h2:gY b c<0):gY a c<0:=by
 unfold gY at *
 rw[Y4] at *
 simp only[kz (fun x y=>q7),kz (fun x y=>ky)] at *
 have tp:=w4 (f:=jl) (fun x y=>q7) (fun x y z=>NJ) a.cJ b.cJ c.cJ
 have ti:=w4 (f:=ew) (fun x y=>ky) (fun x y z=>wZ) a.mem b.mem c.mem
 have tb:wY a.ended b.ended<0->wY b.ended c.ended<0->wY a.ended c.ended<0:=by
  cases a.ended<;>cases b.ended<;>cases c.ended<;>simp[wY]
 rcases h1 with h1|⟨e1,h1⟩<;>rcases h2 with h2|⟨e2,h2⟩
 ·exact .inl (tp h1 h2)
 ·rw[<-e2];exact .inl h1
 ·rw[e1];exact .inl h2
 ·refine .inr ⟨e1.trans e2, ?_⟩
  rcases h1 with h1|⟨e1',h1⟩<;>rcases h2 with h2|⟨e2',h2⟩
  ·exact .inl (ti h1 h2)
  ·rw[<-e2'];exact .inl h1
  ·rw[e1'];exact .inl h2
  ·exact .inr ⟨e1'.trans e2',tb h1 h2⟩
structure kn {α:Type} (f:α->α->Int):Prop where
 neg:∀x y,f y x=-f x y
 zero:∀x y,f x y=0↔x=y
 tr:∀x y z,f x y<0->f y z<0->f x z<0
theorem kD:kn gY:=⟨JI,fun _ _=>qZ,fun _ _ _=>NH⟩
def vk {α:Type} (f:α->α->Int) (x y:α):Bool:=decide (f x y<=0)
theorem kn.TW {α:Type} {f:α->α->Int} (h:kn f) {x y z:α} (h1:vk f x y=true) (h2:vk f y z=true):vk f x z=true:=by
 simp only[vk,decide_eq_true_eq] at *
 by_cases e1:f x y=0
 ·rw[(h.zero _ _).1 e1];exact h2
 ·by_cases e2:f y z=0
  ·rw[<-(h.zero _ _).1 e2];exact h1
  ·have:=h.tr x y z (by omega) (by omega);omega
theorem kn.le_total {α:Type} {f:α->α->Int} (h:kn f) (x y:α):(vk f x y||vk f y x)=true:=by
 have:=h.neg x y
 simp only[vk,Bool.or_eq_true,decide_eq_true_eq]
 omega
theorem kn.EH {α:Type} {f:α->α->Int} (h:kn f) {x y:α} (h1:vk f x y=true) (h2:vk f y x=true):x=y:=by
 have:=h.neg x y
 simp only[vk,decide_eq_true_eq] at *
 exact(h.zero _ _).1 (by omega)
def gI {α:Type} (f:α->α->Int) (l:List α):List α:=l.mergeSort (vk f)
theorem nr {α:Type} (f:α->α->Int) (l:List α):(gI f l).length=l.length:=by simp[gI]
theorem lu {α:Type} (f:α->α->Int) (l:List α):(gI f l).Perm l:=List.mergeSort_perm _ _
theorem kn.sorted {α:Type} {f:α->α->Int} (h:kn f) (l:List α):(gI f l).Pairwise fun x y=>vk f x y=true:=
 List.pairwise_mergeSort (le:=vk f) (fun a b c h1 h2=>h.TW h1 h2) (fun a b=>h.le_total a b) l
theorem kn.O2 {α:Type} {f:α->α->Int} (h:kn f) {l l':List α} (hp:l'.Perm l) (hs:l'.Pairwise fun x y=>vk f x y=true):l'=gI f l:=
 List.Perm.eq_of_pairwise (fun a b _ _ h1 h2=>h.EH h1 h2) hs (h.sorted l) (hp.trans (lu f l).symm)
end Go.Proofs.YtjopoheligmmoaaGreatDoor
