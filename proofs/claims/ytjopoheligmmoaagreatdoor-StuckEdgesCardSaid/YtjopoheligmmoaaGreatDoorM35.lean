import Derived.Test.YtjopoheligmmoaaGreatDoorM31
import Derived.Test.YtjopoheligmmoaaGreatDoorM33
import Derived.Test.YtjopoheligmmoaaGreatDoorM34
import Derived.Lib.ItoaLen
import Derived.Test.YtjopoheligmmoaaGreatDoorM30
namespace Go.Proofs.YtjopoheligmmoaaGreatDoor
open Go Go.dA Go.Proofs
set_option linter.unusedSimpArgs false
set_option linter.unusedVariables false
set_option maxRecDepth 8000
section
def ku (S:List Nat) (H:Hp):Hp:=S.map fun y=>(y,cC H y)
theorem BG {S:List Nat} {H:Hp} {y:Nat} (h:y∈S):cC (ku S H) y=cC H y:=by
 induction S with
 |nil=>cases h
 |cons x S ih=>
  rw[ku,List.map_cons]
  by_cases e:y=x
  ·subst e;exact cx _ _ _
  ·rw[cc e]
   exact ih (by simpa[e] using h)
theorem rz {S:List Nat} {H:Hp} {y:Nat} {q:fD} (h:cC (ku S H) y=some q):cC H y=some q:=by
 have:y∈S:=by
  have:=oJ h
  simpa[ku] using this
 rw[BG this] at h;exact h
theorem eX {S:List Nat} {H H2:Hp} {y:Nat} (h:y∉S):cC (mm (ku S H) H2) y=cC H2 y:=gI (by simpa[ku] using h)
section
variable {u:cF} {m:MS} {L:ML} {H:Hp}
theorem ML.At.pT (h:L.At u m H) (k:Nat):Go.dA.ig (ku L.all H) (k+4) (.pt L.mr 1 0 0)=m.fz u:=by
 have h:=h.cd (H':=ku L.all H) fun y hy=>BG hy
 generalize ku L.all H=G at *
 obtain⟨d1,h1⟩:=h.rM
 obtain⟨d2,h2⟩:=h.rA
 obtain⟨d3,h3⟩:=h.rS
 obtain⟨d4,h4⟩:=h.rE
 obtain⟨d5,h5⟩:=h.rH
 obtain⟨d6,h6⟩:=h.rP
 have hsl:(eJ L.ids m.cH).length=m.cH.length:=wh h.len
 have hs:(eJ L.ids m.cH).map (Go.dA.ig G (k+1))=m.cH.map c8:=by
  apply List.ext_getElem (by simp[hsl])
  intro t q1 q2
  have ht:t<m.cH.length:=by simpa using q2
  have hti:t<L.ids.length:=by rw[h.len];exact ht
  obtain⟨d,hd⟩:=h.rL t ht
  rw[show L.ids.getD t 0=L.ids[t] by simp[List.getD,hti],show m.cH.getD t []=m.cH[t] by simp[List.getD,ht]] at hd
  rw[List.getElem_map,List.getElem_map]
  simp only[eJ,List.getElem_map,List.getElem_zip]
  rw[oK hd (by simp),gl _ ((cL _ _).2 fun _ _=>by simp[cP])]
 rw[show Go.dA.ig G (k+4) (.pt L.mr 1 0 0)= .ip 8 .any ([m.rows u L.a L.s L.me L.ho L.pr].map (Go.dA.ig G (k+3))) 0 0 from QE h1 rfl]
 simp only[List.map_cons,List.map_nil,MS.rows]
 rw[zd]
 simp only[List.map_cons,List.map_nil]
 rw[oK h2 (by simp),oK h3 hsl,oK h4 (by simp),oK h5 (by simp),oK h6 (by simp),hs]
 rw[gl _ ((cL _ _).2 fun _ _=>by simp[cP]),gl _ ((cL _ _).2 fun _ _=>by simp[cP]),gl _ ((cL _ _).2 fun _ _=>by simp[cP]),gl _ ((cL _ _).2 fun _ _=>by simp[cP])]
 rw[la _ (show cP 0 (cq u.shared) by simp[cP,cL]),la _ (show cP 0 (cq u.cI) by simp[cP,cL]),la _ (show cP 0 (dy u.cD) by simp[cP,cL])]
 rfl
end
def cm.cells (u:cF) (f:cm):List AV:=[f.m.fz u,i64 f.from_,i64 f.eA]
abbrev cm.av (u:cF) (f:cm):AV:= .agg (f.cells u)
abbrev lZ (u:cF) (l:List cm):AV:= .im 3 .any (l.map (cm.av u))
@[simp] theorem HX (n:Nat) (u:cF) (f:cm):cg n (f.cells u):=by
  have:=pN n u f.m
  simp[cm.cells,cg,cP]
theorem CS (u:cF) (l:List cm):cg 0 (l.map (cm.av u)):=(cL _ _).2 fun _ _=>by simp only[cm.av,cP];exact HX _ _ _
theorem wK {u:cF} {m:MS} {L:ML} {H:Hp} {lb nx:Nat} {d:AV} {l:List cm} {fr th:Int} (hM:L.At u m H) (hl:cC H lb=some (.row 163 3 d (l.map (cm.av u)++[.agg [.pt L.mr 1 0 0,i64 fr,i64 th]]))) (hlb:lb∉L.all):
 Wk .any H nx .any (mm (ku L.all H) ((lb,some (.row 163 3 .any ((l++[(⟨m,fr,th⟩:cm)]).map (cm.av u))))::H)) nx:=by
 have:=Wk.ig (nx:=nx) (ku L.all H) 5 .any hl (fun b q hq=>rz hq)
 rw[List.map_append,gl _ (CS u l),List.map_cons,List.map_nil,zd,List.map_cons,List.map_cons,List.map_cons,List.map_nil,hM.pT 0,la _ (show cP 0 (i64 fr) by simp[cP]),la _ (show cP 0 (i64 th) by simp[cP])] at this
 rw[List.map_append]
 exact this
end
theorem oG {α:Type} (f:α->List UInt8) (k:Nat):∀l:List α,(∀a∈l,(f a).length<=k)->(l.flatMap f).length<=l.length * k
 |[],_=>by simp
 |a::l,h=>by
  have h1:=oG f k l fun b hb=>h b (by simp[hb])
  have h2:=h a (by simp)
  rw[List.flatMap_cons,List.length_append,List.length_cons,Nat.add_mul]
  omega
theorem oV {x:Int} (e:List UInt8) (h:ec x):(fS x e).length<=21+e.length:=by
 have:=Go.Lib.itoa_length_le x h.1 (by have:=h.2;omega)
 unfold fS
 rw[List.length_append]
 omega
theorem eo.TR {u:cF} {m:MS} (hr:cj u) (h:eo u m):(ij m).length<=100000000+m.cW.length * 50:=by
 have hf:=hr.qD
 have hal:=h.rI
 have hml:=h.ml
 have hhl:=h.hl
 have hn:∀t,t<u.cD.length->(u.gr t).nodes.length<=4096/\(u.gr t).cH<=4160:=fun t ht=>⟨(hr.gr ht).len.2,(hr.gr ht).cH.2⟩
 have h1:((List.range m.at_.length).flatMap (yP m)).length<=(List.range m.at_.length).length * 100000:=by
  refine oG _ _ _ fun t ht=> ?_
  have ht:=List.mem_range.1 ht
  have hat:=h.iN t (by omega)
  obtain⟨n1,n2⟩:=hn t (by omega)
  have hs:=h.EP t (by omega)
  have a1:=oV (x:=m.at_.getD t 0) [44] ⟨by omega,by omega⟩
  have a2:=oG (fun w=>fS w [44]) 22 (m.cH.getD t []) fun w hw=>oV [44] (h.ER t (by omega) w hw)
  have e:(yP m t).length=(fS (m.at_.getD t 0) [44]).length+((m.cH.getD t []).flatMap (fun w=>fS w [44])).length+1:=by simp only[yP,List.length_append,List.length_cons,List.length_nil]
  simp only[List.length_cons,List.length_nil] at a1
  rw[e]
  omega
 rw[List.length_range] at h1
 have h2:=oG (fun w=>fS w [44]) 22 m.mem fun w hw=>oV [44] (h.mw w hw)
 have h3:=oG (fun w=>fS w [44]) 22 m.hold fun w hw=>oV [44] (by have:=h.hw w hw;exact⟨by omega,by omega⟩)
 have h4:=oG JL 50 m.cW fun p hp=>by
  obtain⟨p1,p2,p3⟩:=h.pw p hp
  have a1:=oV (x:=p.eA) [58] ⟨by omega,by omega⟩
  have a2:=oV (x:=p.word) [44] p3
  simp only[List.length_cons,List.length_nil] at a1 a2
  unfold JL
  rw[List.length_append]
  omega
 rw[xe]
 omega
theorem eo.ZP {u:cF} {m:MS} (hr:cj u) (h:eo u m) (hp:m.cW.length<=1048576):MsW m:=by
 have hf:=hr.qD
 refine⟨fun w hw=> ?_,by rw[h.sl,h.rI],fun l hl w hw=> ?_,h.mw,fun w hw=> ?_,fun p hp=> ?_, ?_⟩
 ·obtain⟨t,ht,rfl⟩:=List.mem_iff_getElem.1 hw
  have h1:=h.iN t (by rw[<-h.rI];exact ht)
  have h2:=(hr.gr (t:=t) (by rw[<-h.rI];exact ht)).len.2
  rw[show m.at_.getD t 0=m.at_[t] by simp[List.getD,ht]] at h1
  exact⟨by omega,by omega⟩
 ·obtain⟨t,ht,rfl⟩:=List.mem_iff_getElem.1 hl
  have:=h.ER t (by rw[<-h.sl];exact ht) w
  rw[show m.cH.getD t []=m.cH[t] by simp[List.getD,ht]] at this
  exact this hw
 ·have:=h.hw w hw
  exact⟨by omega,by omega⟩
 ·obtain⟨p1,p2,p3⟩:=h.pw p hp
  exact⟨⟨by omega,by omega⟩,p3⟩
 ·have:=h.TR hr
  omega
theorem RN {a b:List UInt8} (h:mA a=mA b):a=b:=by
 have:=congrArg (fun x:ByteArray=>x.data.toList) h
 simpa[mA] using this
abbrev kK (l:List cm):List (ByteArray×Int):=l.map fun f=>(mA (ij f.m),1)
abbrev pV (l:List cm):List AV:=rn (fun s:ByteArray=>Value.string s) i64 (kK l)
theorem uL (l:List cm) (k:List UInt8):fQ (kK l) (mA k)=if k∈kJ l then some 1 else none:=by
 split
 ·rename_i h
  cases hl:fQ (kK l) (mA k) with
  |none=>
   exfalso
   refine(rh _ _).1 hl ?_
   rw[List.map_map]
   obtain⟨f,h1,h2⟩:=List.mem_map.1 h
   exact List.mem_map.2 ⟨f,h1,by simp only[Function.comp];rw[h2]⟩
  |some v=>
   have hv:∀(l:List cm),fQ (kK l) (mA k)=some v->v=1:=by
    intro l
    induction l with
    |nil=>intro h;cases h
    |cons f l ih=>
     intro h
     rw[kK,List.map_cons,fQ] at h
     split at h
     ·cases h;rfl
     ·exact ih h
   rw[hv l hl]
 ·rename_i h
  refine(rh _ _).2 fun hm=>h ?_
  rw[List.map_map] at hm
  obtain⟨f,h1,h2⟩:=List.mem_map.1 hm
  simp only[Function.comp] at h2
  exact List.mem_map.2 ⟨f,h1,RN h2⟩
theorem IV {l:List cm} {m:MS} {a b:Int} (h:ij m∉kJ l):jl (kK l) (mA (ij m)) 1=kK (l++[⟨m,a,b⟩]):=by
 have key:∀E:List (ByteArray×Int),fQ E (mA (ij m))=none->jl E (mA (ij m)) 1=E++[(mA (ij m),1)]:=by
  intro E
  induction E with
  |nil=>intro _;rfl
  |cons p E ih=>
   intro hn
   obtain⟨x,y⟩:=p
   rw[fQ] at hn
   rw[jl]
   split at hn
   ·cases hn
   ·rename_i hx
    rw[if_neg hx,ih hn];rfl
 rw[key _ (by rw[uL,if_neg h]),kK,kK,List.map_append];rfl
theorem FJ (u:cF) (hu:u.Wf) (hr:¬cj u) (most:Int) (g:Nat) (caps:List AV) (H0:Hp) (nx:Nat):cT Tryz.prog 92 [u.av,i64 most, .fn (.func g) [] caps] H0 nx (fun r H n=>r= .dQ [i64 0,i64 60]/\nx<=n/\∀y,y<nx->cC H y=cC H0 y):=by
 have c0:=QO u hu hr
 refine aM TX rfl ?_
 refine ca ?_
 exact⟨⟨rfl,cZ,fun y hy=>cM⟩⟩
theorem vc (u:cF) (hu:u.Wf) (hr:cj u) (most:Int) (hm:¬(1<=most/\most<=65536)) (g:Nat) (caps:List AV) (H0:Hp) (nx:Nat):cT Tryz.prog 92 [u.av,i64 most, .fn (.func g) [] caps] H0 nx (fun r H n=>r= .dQ [i64 0,i64 2]/\nx<=n/\∀y,y<nx->cC H y=cC H0 y):=by
 refine aM TX rfl ?_
 refine ca ?_
 refine aJ (uU u hu hr _ _) ?_
 rintro r H1 n1 ⟨L,rfl,hM,hlt,hn1,hk1⟩
 by_cases h1:most<1
 ·refine ca ?_
  exact⟨⟨rfl,cZ,fun y hy=>Eq.trans cM ((hk1 y cZ).trans cM)⟩⟩
 ·have h2:65536<most:=by omega
  refine ca ?_
  exact⟨⟨rfl,cZ,fun y hy=>Eq.trans cM ((hk1 y cZ).trans cM)⟩⟩
theorem CD (u:cF) (hr:cj u) (m:MS) (h:eo u m) (hp:m.cW.length<=1048576) (H0:Hp) (nx:Nat):cT Tryz.prog 146 [m.fz u] H0 nx (fun r H n=>∃L:ML,r= .pt L.mr 1 0 0/\L.At u m H/\(∀x∈L.all,nx<=x/\x<n)/\nx<=n/\∀y,y<nx->cC H y=cC H0 y):=by
 have hgl:=hr.qD
 refine(CE u m (by have:=h.rI;omega) (by have:=h.ml;omega) (by have:=h.hl;omega) hp (by have:=h.sl;omega) (fun x hx=> ?_) H0 nx).mono ?_
 ·obtain⟨s,hs,rfl⟩:=List.mem_iff_getElem.1 hx
  have h1:=h.EP s (by rw[<-h.sl];exact hs)
  have h2:=(hr.gr (t:=s) (by rw[<-h.sl];exact hs)).cH.2
  rw[show m.cH.getD s []=m.cH[s] by simp[List.getD,hs]] at h1
  omega
 ·rintro r H n ⟨mr,a,s,me,ho,pr,ids,rfl,h1,h2,h3,h4⟩
  exact⟨⟨mr,a,s,me,ho,pr,ids⟩,rfl,h1,h2,h3,h4⟩
def O9 (u:cF) (most:Int) (I:Nat->Hp->Prop) (nx:Nat) (H0:Hp) (r:AV) (H:Hp) (n:Nat):Prop:=
 nx<=n/\match iM u most.toNat with
 |none=>r= .dQ [i64 0,i64 3]/\∀y,y<nx->cC H y=cC H0 y
 |some l=>r= .dQ [i64 l.length,i64 0]/\I l.length H
set_option maxHeartbeats 4000000 in
theorem tG (u:cF) (hu:u.Wf) (hr:cj u) (most:Int) (hm:1<=most/\most<=65536) (g:Nat) (caps:List AV) (H0:Hp) (nx:Nat) (I:Nat->Hp->Prop) (hI0:I 0 H0) (hst:∀k H H',I k H->(∀y,y<nx->cC H' y=cC H y)->I k H')
 (hcl:∀l,iM u most.toNat=some l->∀k H n,k<l.length->nx<=n->I k H->cT Tryz.prog g ([lZ u l,i64 k]++caps) H n (fun _ H' n'=>I (k+1) H'/\n<=n'/\∀y,nx<=y->y<n->cC H' y=cC H y)):
 cT Tryz.prog 92 [u.av,i64 most, .fn (.func g) [] caps] H0 nx (O9 u most I nx H0):=by
 obtain⟨mo,rfl⟩:∃mo:Nat,most=mo:=⟨most.toNat,by omega⟩
 have hgl:=hr.qD
 unfold O9
 rw[Int.toNat_natCast] at hcl ⊢
 refine aM TX rfl ?_
 refine ca ?_
 refine aJ (uU u hu hr _ _) ?_
 rintro r H1 n1 ⟨L,rfl,hM,hlt,hn1,hk1⟩
 have hF:=jX.init u hu hr
 have hm0:=(hF.ok 0 hF.pos).1
 have hm0':(List.getD (lE u) 0 default).m=eH u:=rfl
 rw[hm0'] at hm0
 have g0:qW true (Value.string (mA (ij (eH u)))) [] (i64 1)=some (pV (lE u)):=rfl
 have h65:(65536:Int)<mo->False:=by omega
 refine ca ?_
 refine aW (xd u (eH u) (hm0.ZP hr (by simp[eH]))) (args2:=[(eH u).fz u]) ?_ (by simp[cg,pN]) trivial ?_
 ·rw[List.map_cons,List.map_nil]
  congr 1
  exact(hM.cd fun y hy=>by have:=hlt y hy;exact cM).CZ 2
 refine ca ?_
 have hno:∀y,y<nx+1\/n1<=y->y∉L.all:=fun y hy hm=>by have:=hlt y hm;omega
 refine aV (fun σ:Nat×List cm=>[(1,i64 mo),(2, .fn (.func g) [] caps),(3, .pt nx 1 0 0),(10, .sl (n1+15) σ.2.length),(11, .mp (n1+17)),(12,i64 σ.1)])
  (fun σ H n=>σ.1<=σ.2.length/\σ.2.length<=mo/\jX u σ.2/\yd u mo (mo - σ.1) σ.1 σ.2=iM u mo/\n1+23<=n/\(∃d,cC H nx=some (.row 25 3 d [u.av]))/\(∃d,cC H (n1+15)=some (.row 163 3 d (σ.2.map (cm.av u))))/\(∃e d,cC H (n1+17)=some (.row e 0 d (mapA (pV σ.2))))/\∀y,y<nx->cC H y=cC H0 y) (fun σ=>mo - σ.1) (0,lE u)
  ⟨_,_,_,Rt.wk (wK (lb:=n1+15) (l:=[]) (fr:=-1) (th:=0) (hM.cd ?_) cE (hno _ (by omega))),cJ,Nat.zero_le _,by show 1<=mo;omega,hF,rfl,cZ,⟨_,(eX (hno _ (by omega))).trans (Eq.trans cM ((hk1 nx (by omega)).trans cE))⟩,⟨_,(eX (hno _ (by omega))).trans cE⟩,⟨_,_,(eX (hno _ (by omega))).trans cE⟩,fun y hy=>(eX (hno _ (by omega))).trans (Eq.trans cM ((hk1 y cZ).trans cM))⟩ ?_
 ·intro y hy
  have:=hlt y hy
  exact cM
 clear hM hlt hk1 hno
 rintro⟨k,l⟩ H n ⟨hk,hl,hfs,hall,hn,⟨d0,r0'⟩,⟨d1,r1'⟩,⟨e2,d2,r2'⟩,hkp⟩
 dsimp only at hk hl hfs hall r1' r2' ⊢
 by_cases hkl:k<l.length
 ·have e0:∀d,(l.map (cm.av u)).getD ((k:Int)).toNat d=(l.getD k default).av u:=fun d=>by rw[Int.toNat_natCast];exact dI (cm.av u) l k d hkl
  have a0:(l.map (cm.av u)).length=l.length:=by simp
  have hgeq:∀l':List cm,l<+:l'->l'.getD k default=l.getD k default:=fun l' ⟨q,hq⟩=>by rw[<-hq];simp[List.getD,List.getElem?_append,hkl]
  have hmk:mo - k=(mo - (k+1))+1:=by omega
  rw[hmk,yd,if_pos hkl] at hall
  obtain⟨hmok,hpl⟩:=hfs.ok k hkl
  have hmdef:(l.getD k default).m=(l.getD k default).m:=rfl
  generalize hmm:(l.getD k default).m=m at hmok hpl
  have e0':∀d,(l.map (cm.av u)).getD ((k:Int)).toNat d= .agg [m.fz u,i64 (l.getD k default).from_,i64 (l.getD k default).eA]:=fun d=>by rw[e0 d,<-hmm];rfl
  clear e0
  have e0:=e0'
  refine ca ?_
  rw[List.length_map]
  refine aV (fun σ:Nat×List cm=>[(1,i64 mo),(2, .fn (.func g) [] caps),(3, .pt nx 1 0 0),(10, .sl (n1+15) σ.2.length),(11, .mp (n1+17)),(12,i64 k),(13,m.fz u),(52,i64 u.cD.length),(53,i64 σ.1)])
   (fun σ H n=>σ.1<=u.cD.length/\k<σ.2.length/\σ.2.length<=mo/\jX u σ.2/\(σ.2.getD k default).m=m/\(match EF u mo k ((List.range u.cD.length).drop σ.1) σ.2 with
    |none=>none
    |some l2=>yd u mo (mo - (k+1)) (k+1) l2)=iM u mo/\n1+23<=n/\(∃d,cC H nx=some (.row 25 3 d [u.av]))/\(∃d,cC H (n1+15)=some (.row 163 3 d (σ.2.map (cm.av u))))/\(∃e d,cC H (n1+17)=some (.row e 0 d (mapA (pV σ.2))))/\∀y,y<nx->cC H y=cC H0 y) (fun σ=>u.cD.length - σ.1) (0,l)
   ⟨_,_,_,Rt.refl _ _ _,cJ,Nat.zero_le _,hkl,hl,hfs,hmm,hall,cZ,⟨_,cE⟩,⟨_,cE⟩,⟨_,_,cE⟩,fun y hy=>Eq.trans cM (hkp y hy)⟩ ?_
  clear e0 e0' a0 r0' r1' r2' hkp hall hfs hl hkl hgeq hn hmm
  rintro⟨t,l⟩ H n ⟨ht,hkl,hl,hfs,hmm,hall,hn,⟨d0,r0'⟩,⟨d1,r1'⟩,⟨e2,d2,r2'⟩,hkp⟩
  dsimp only at ht hkl hl hfs hmm hall r1' r2' ⊢
  have a0:(l.map (cm.av u)).length=l.length:=by simp
  by_cases htl:t<u.cD.length
  ·rw[show(List.range u.cD.length).drop t=t::(List.range u.cD.length).drop (t+1) by rw[List.drop_eq_getElem_cons (by simpa using htl)];simp,EF] at hall
   have c0:=LH u hr m hmok t
   by_cases hb:m.ly u t=0
   ·have hal:=hmok.rI
    refine ca ?_
    refine aJ (CD u hr m hmok (by omega) _ _) ?_
    rintro r H2 n2 ⟨L2,rfl,hM2,hlt2,hn2,hk2⟩
    have hlt2:∀x∈L2.all,n+7<=x/\x<n2:=hlt2
    refine ca ?_
    refine aJ (wm hu hr hmok (L:=L2) (hM2.cd ?_) ?_ (by omega) htl hb) ?_
    ·intro y hy
     have:=hlt2 y hy
     exact cM
    ·intro y hy
     have:=hlt2 y hy
     exact cZ
    rintro r H3 n3 ⟨rfl,hM3,hn3,hk3⟩
    have hno:∀y,y<n+7\/n2<=y->y∉L2.all:=fun y hy hm=>by have:=hlt2 y hm;omega
    have hold:∀y,y<n->cC H3 y=cC H y:=fun y hy=>(hk3 y cZ (hno y (by omega))).trans (Eq.trans cM ((hk2 y cZ).trans cM))
    have hlt3:∀x∈L2.all,x<n3:=fun x hx=>by have:=hlt2 x hx;exact Nat.lt_of_lt_of_le this.2 cZ
    obtain⟨hk9,_⟩:=lS hmok htl hb
    have hm2:=yI hu hr hmok htl hk9
    have hp2:=np u m t
    have htry:E4 u mo k t l=if ij (m.step u t).1∈kJ l then some l else if l.length=mo then none else some (l++[⟨(m.step u t).1,k,t⟩]):=by
     unfold E4
     rw[hmm,if_neg (by omega)]
    rw[htry] at hall
    have hput:=fun(h:ij (m.step u t).1∉kJ l)=>IV (l:=l) (m:=(m.step u t).1) (a:=k) (b:=t) h
    have hadd:=fun(h:ij (m.step u t).1∉kJ l)=>hfs.add hu hr hkl htl (by rw[hmm];exact hb) (by rw[hmm];exact h)
    rw[hmm] at hadd
    generalize (m.step u t).1=m2 at *
    have hkp3:∀y,y<nx->cC H3 y=cC H0 y:=fun y hy=>(hold y (by omega)).trans (hkp y hy)
    have q0:=(hold nx (by omega)).trans r0'
    have q1:=(hold (n1+15) (by omega)).trans r1'
    have q2:=(hold (n1+17) (by omega)).trans r2'
    have hget:=DK xc i64 (mA (ij m2)) (kK l) (i64 0)
    rw[uL] at hget
    clear hk2 hk3 hM2 r0' r1' r2' hold hkp
    by_cases hin:ij m2∈kJ l
    ·rw[if_pos hin] at hget hall
     have g0:nY true (Value.string (mA (ij m2))) (pV l) (i64 0)=some (i64 1,true):=hget
     refine ca ?_
     refine aW (xd u m2 (hm2.ZP hr (by omega))) (args2:=[m2.fz u]) ?_ (by simp[cg,pN]) trivial ?_
     ·rw[List.map_cons,List.map_nil]
      congr 1
      exact(hM3.cd fun y hy=>by have:=hlt3 y hy;exact cM).CZ 2
     refine ca ?_
     exact⟨(t+1,l),by dsimp only;omega,_,_,_,Rt.refl _ _ _,cJ,by dsimp only;omega,hkl,hl,hfs,hmm,hall,cZ,⟨_,cE⟩,⟨_,cE⟩,⟨_,_,cE⟩,fun y hy=>Eq.trans cM (hkp3 y hy)⟩
    ·rw[if_neg hin] at hget hall
     have g0:nY true (Value.string (mA (ij m2))) (pV l) (i64 0)=some (i64 0,false):=hget
     by_cases hfull:l.length=mo
     ·rw[if_pos hfull] at hall
      refine ca ?_
      refine aW (xd u m2 (hm2.ZP hr (by omega))) (args2:=[m2.fz u]) ?_ (by simp[cg,pN]) trivial ?_
      ·rw[List.map_cons,List.map_nil]
       congr 1
       exact(hM3.cd fun y hy=>by have:=hlt3 y hy;exact cM).CZ 2
      refine ca ?_
      have hall2:none=iM u mo:=hall
      rw[<-hall2]
      exact⟨⟨cZ,rfl,fun y hy=>Eq.trans cM (hkp3 y hy)⟩⟩
     ·rw[if_neg hfull] at hall
      have g1:qW true (Value.string (mA (ij m2))) (pV l) (i64 1)=some (pV (l++[⟨m2,k,t⟩])):=by
       have:=DL xc i64 (mA (ij m2)) 1 (kK l)
       rw[hput hin] at this
       exact this
      refine ca ?_
      refine aW (xd u m2 (hm2.ZP hr (by omega))) (args2:=[m2.fz u]) ?_ (by simp[cg,pN]) trivial ?_
      ·rw[List.map_cons,List.map_nil]
       congr 1
       exact(hM3.cd fun y hy=>by have:=hlt3 y hy;exact cM).CZ 2
      refine ca ?_
      have hout:=hno
      refine⟨(t+1,l++[⟨m2,k,t⟩]),by dsimp only;omega,_,_,_,Rt.wk (wK (L:=L2) (lb:=n1+15) (m:=m2) (l:=l) (fr:=k) (th:=t) (hM3.cd ?_) cE (hno _ (by omega))),cJ,by dsimp only;omega,by dsimp only;rw[List.length_append];omega,by dsimp only;simp only[List.length_append,List.length_cons,List.length_nil];omega,hadd hin,by dsimp only;rw[gV hkl];exact hmm,hall,cZ,⟨_,(eX (hno _ (by omega))).trans cE⟩,⟨_,(eX (hno _ (by omega))).trans cE⟩,⟨_,_,(eX (hno _ (by omega))).trans cE⟩,fun y hy=>(eX (hno _ (by omega))).trans (Eq.trans cM (hkp3 y hy))⟩
      intro y hy
      have:=hlt2 y hy
      have:=hlt3 y hy
      exact cM
   ·have htry:E4 u mo k t l=some l:=by
     unfold E4
     rw[hmm,if_pos hb]
    rw[htry] at hall
    refine ca ?_
    exact⟨(t+1,l),by dsimp only;omega,_,_,_,Rt.refl _ _ _,cJ,by dsimp only;omega,hkl,hl,hfs,hmm,hall,cZ,⟨_,cE⟩,⟨_,cE⟩,⟨_,_,cE⟩,fun y hy=>Eq.trans cM (hkp y hy)⟩
  ·have htG:t=u.cD.length:=by omega
   subst htG
   rw[List.drop_of_length_le (by simp),EF] at hall
   refine ca ?_
   exact⟨(k+1,l),by dsimp only;omega,_,_,_,Rt.refl _ _ _,cJ,by dsimp only;omega,hl,hfs,hall,cZ,⟨_,cE⟩,⟨_,cE⟩,⟨_,_,cE⟩,fun y hy=>Eq.trans cM (hkp y hy)⟩
 ·have hk2:k=l.length:=by omega
  refine ca ?_
  have hl2:iM u mo=some l:=by
   rw[<-hall]
   subst hk2
   cases h:mo - l.length with
   |zero=>rfl
   |succ q=>rw[yd,if_neg (by omega)]
  have hw:=fun(H':Hp) (n':Nat) (hr:cC H' (n1+15)=some (.row 163 3 d1 (l.map (cm.av u))))=>Wk.TO (r:= .sl (n1+15) l.length) (H:=H') (nx:=n') [(n1+15,some (.row 163 3 d1 (l.map (cm.av u))))] 1 (fun b q hq=>by
   by_cases hb:b=n1+15
   ·subst hb;rw[cx] at hq;rw[<-hq];exact hr
   ·rw[cc hb] at hq;cases hq)
  rw[pU (cx _ _ _) (by simp),qQ] at hw
  rw[hl2]
  refine aV (fun i:Nat=>[(2, .fn (.func g) [] caps),(10,lZ u l),(86,i64 l.length),(87,i64 i)])
   (fun i H n=>i<=l.length/\nx<=n/\I i H) (fun i=>l.length - i) 0
   ⟨_,_,_,Rt.slot 10 rfl (hw _ _ cE),cJ,Nat.zero_le _,cZ,hst 0 _ _ hI0 fun y hy=>(cc (by omega)).trans (Eq.trans cM (hkp y hy))⟩ ?_
  clear r0' r1' r2' hkp hw hn
  rintro i H n ⟨hi,hn,hI⟩
  by_cases hil:i<l.length
  ·refine ca ?_
   refine Eq.mpr (jH caps _) ?_
   show jL Tryz.prog g (lZ u l::i64 i::caps) _ _ _
   refine aJ (hcl l hl2 i _ _ hil cZ (hst i H _ hI fun y hy=>cM)) ?_
   rintro _ H2 n2 ⟨hI2,hn2,_⟩
   refine ca ?_
   exact⟨i+1,by omega,_,_,_,Rt.refl _ _ _,cJ,by omega,cZ,hst _ _ _ hI2 fun y hy=>cM⟩
  ·obtain rfl:i=l.length:=by omega
   refine ca ?_
   exact⟨⟨cZ,by rw[List.length_map],hst _ _ _ hI fun y hy=>cM⟩⟩
theorem G9 (p q:de):Pure Tryz.prog 151 [p.av,q.av] (fun r=>r=i64 (kH p q)):=by
 have c0:=tS p.eA q.eA
 have c1:=vp p.word q.word
 have c2:=xw [fI p.eA q.eA,fI p.word q.word] (by simp)
 refine aG XB rfl ?_
 refine ca ?_
 refine aW (args2:=[c8 [fI p.eA q.eA,fI p.word q.word]]) (r:=i64 (kH p q)) c2 rfl (by simp[cg,cP]) trivial ?_
 refine ca ?_
 first|exact rfl|trivial
theorem w8 {l:List de} {i:Nat} (h:i<l.length) (d:AV):(l.map de.av).getD ((i:Int)).toNat d=(l.getD i default).av:=by
 rw[Int.toNat_natCast];exact dI de.av l i d h
theorem CB (a b:List de) (ha:a.length<9223372036854775807):Pure Tryz.prog 150 [gY a,gY b, .fn (.func 151) [] []] (fun r=>r=i64 (fK kH a b)):=by
 refine aG XA rfl ?_
 refine ca ?_
 rw[List.length_map]
 refine aI (fun i:Nat=>[(0,gY a),(1,gY b),(2, .fn (.func 151) [] []),(11,gY a),(12,i64 a.length),(13,i64 i)]) (fun i H n=>i<=a.length/\i<=b.length/\fK kH a b=fK kH (a.drop i) (b.drop i)) (fun i=>a.length - i) 0 cJ ⟨Nat.zero_le _,Nat.zero_le _,rfl⟩ ?_
 rintro i H n ⟨hi,hib,ho⟩
 rw[ho]
 have a0:(a.map de.av).length=a.length:=by simp
 have a1:(b.map de.av).length=b.length:=by simp
 by_cases hil:i<a.length
 ·have e0:=fun d=>w8 hil d
  by_cases hbl:i<b.length
  ·have e1:=fun d=>w8 hbl d
   have hd:=xV kH default hil hbl
   have c0:=G9 (a.getD i default) (b.getD i default)
   generalize a.getD i default=p at *
   generalize b.getD i default=q at *
   by_cases hz:kH p q=0
   ·have r0:=hz
    rw[if_pos hz] at hd
    refine ca ?_
    exact⟨i+1,by omega,cJ,by omega,by omega,hd⟩
   ·have r0:=decide_eq_true hz
    rw[if_neg hz] at hd
    refine ca ?_
    rw[hd]
  ·rw[tW kH hil (by omega)]
   refine ca ?_
   first|exact rfl|trivial
 ·obtain rfl:i=a.length:=by omega
  rw[tU kH (Nat.le_refl _) hib]
  by_cases h:a.length<b.length
  ·rw[if_pos h]
   refine ca ?_
   first|exact rfl|trivial
  ·rw[if_neg h]
   refine ca ?_
   first|exact rfl|trivial
theorem B9 (a b:List Int) (ha:a.length<9223372036854775807):Pure Tryz.prog 153 [c8 a,c8 b] (fun r=>r=i64 (fK fI a b)):=by
 refine aG XC rfl ?_
 refine ca ?_
 rw[List.length_map]
 refine aI (fun i:Nat=>[(0,c8 a),(1,c8 b),(9,c8 a),(10,i64 a.length),(11,i64 i)]) (fun i H n=>i<=a.length/\i<=b.length/\fK fI a b=fK fI (a.drop i) (b.drop i)) (fun i=>a.length - i) 0 cJ ⟨Nat.zero_le _,Nat.zero_le _,rfl⟩ ?_
 rintro i H n ⟨hi,hib,ho⟩
 rw[ho]
 have a0:(a.map i64).length=a.length:=by simp
 have a1:(b.map i64).length=b.length:=by simp
 by_cases hil:i<a.length
 ·have e0:=fun d=>ints_at hil d
  by_cases hbl:i<b.length
  ·have e1:=fun d=>ints_at hbl d
   have hd:=xV fI 0 hil hbl
   have c0:=vp (a.getD i 0) (b.getD i 0)
   generalize a.getD i 0=p at *
   generalize b.getD i 0=q at *
   by_cases hz:fI p q=0
   ·have r0:=hz
    rw[if_pos hz] at hd
    refine ca ?_
    exact⟨i+1,by omega,cJ,by omega,by omega,hd⟩
   ·have r0:=decide_eq_true hz
    rw[if_neg hz] at hd
    refine ca ?_
    rw[hd]
  ·rw[tW fI hil (by omega)]
   refine ca ?_
   first|exact rfl|trivial
 ·obtain rfl:i=a.length:=by omega
  rw[tU fI (Nat.le_refl _) hib]
  by_cases h:a.length<b.length
  ·rw[if_pos h]
   refine ca ?_
   first|exact rfl|trivial
  ·rw[if_neg h]
   refine ca ?_
   first|exact rfl|trivial
theorem vo (a b:dC) (h1:a.cW.length<9223372036854775807) (h2:a.mem.length<9223372036854775807):Pure Tryz.prog 96 [a.av,b.av] (fun r=>r=i64 (gk a b)):=by
 have c0:=CB a.cW b.cW h1
 have c1:=B9 a.mem b.mem h2
 have c2:=xw [fK kH a.cW b.cW,fK fI a.mem b.mem,xT a.ended b.ended] (by simp)
 obtain⟨ap,am,ae⟩:=a
 obtain⟨bp,bm,be⟩:=b
 cases ae<;>cases be<;>(refine aG aAi rfl ?_;refine ca ?_;refine aW (args2:=[c8 [fK kH ap bp,fK fI am bm,_]]) (r:=i64 (u0 [fK kH ap bp,fK fI am bm,_])) c2 rfl (by simp[cg,cP]) trivial ?_;refine ca ?_;first|exact rfl|trivial)
theorem p9 (a b:dC) (h1:a.cW.length<9223372036854775807) (h2:a.mem.length<9223372036854775807):Pure Tryz.prog 98 [a.av,b.av] (fun r=>r=bl (decide (gk a b=0))):=by
 have c0:=vo a b h1 h2
 refine aG aAj rfl ?_
 refine ca ?_
 refine dw ?_
 simp
theorem PQ (x:Int):fI x x=0:=by unfold fI;simp
theorem tT (x y:Int):fI y x=-fI x y:=by
 unfold fI
 repeat' (first|omega|split)
theorem xu:∀l:List Int,u0 (l.map (-·))=-u0 l
 |[]=>rfl
 |x::l=>by
  simp only[List.map_cons,u0]
  by_cases h:x=0
  ·rw[if_pos (by omega),if_pos h];exact xu l
  ·rw[if_neg (by omega),if_neg h]
theorem LL (p q:de):kH q p=-kH p q:=by
 unfold kH
 rw[<-xu,tT p.eA,tT p.word];rfl
theorem tV {α:Type} {f:α->α->Int} (hf:∀x y,f y x=-f x y):∀a b:List α,fK f b a=-fK f a b
 |[],[]=>rfl
 |[],_::_=>rfl
 |_::_,[]=>rfl
 |x::a,y::b=>by
  rw[fK,fK,hf x y]
  by_cases h:f x y=0
  ·rw[if_pos (by omega),if_pos h];exact tV hf a b
  ·rw[if_neg (by omega),if_neg h]
theorem LI (a b:Bool):xT b a=-xT a b:=by cases a<;>cases b<;>rfl
theorem LJ (a b:dC):gk b a=-gk a b:=by
 unfold gk
 rw[<-xu,tV LL a.cW,tV tT a.mem,LI a.ended];rfl
theorem AO {l:List Int}:u0 l=0↔∀x∈l,x=0:=by
 induction l with
 |nil=>simp[u0]
 |cons x l ih=>
  rw[u0]
  by_cases h:x=0
  ·rw[if_pos h,ih];simp[h]
  ·rw[if_neg h];simp[h]
theorem lT {x y:Int}:fI x y=0↔x=y:=by
 constructor
 ·unfold fI;intro h;revert h;repeat' (first|omega|split)
 ·rintro rfl;exact PQ _
theorem rK {p q:de}:kH p q=0↔p=q:=by
 unfold kH
 rw[AO]
 simp only[List.mem_cons,List.not_mem_nil,or_false,forall_eq_or_imp,forall_eq,lT]
 constructor
 ·rintro⟨h1,h2⟩;cases p;cases q;simp_all
 ·rintro rfl;exact⟨rfl,rfl⟩
theorem lU {α:Type} {f:α->α->Int} (hf:∀x y,f x y=0↔x=y):∀a b:List α,fK f a b=0↔a=b
 |[],[]=>by simp[fK]
 |[],_::_=>by simp[fK]
 |_::_,[]=>by simp[fK]
 |x::a,y::b=>by
  rw[fK]
  by_cases h:f x y=0
  ·rw[if_pos h,lU hf a b]
   have:=(hf x y).1 h
   simp[this]
  ·rw[if_neg h]
   have:x≠y:=fun e=>h ((hf x y).2 e)
   simp[h,this]
theorem rJ {a b:dC}:gk a b=0↔a=b:=by
 unfold gk
 rw[AO]
 simp only[List.mem_cons,List.not_mem_nil,or_false,forall_eq_or_imp,forall_eq,lU (fun x y=>rK),lU (fun x y=>lT)]
 constructor
 ·rintro⟨h1,h2,h3⟩
  obtain⟨ap,am,ae⟩:=a
  obtain⟨bp,bm,be⟩:=b
  cases ae<;>cases be<;>simp_all[xT]
 ·rintro rfl
  exact⟨rfl,rfl,by cases a.ended<;>rfl⟩
section
open Classical in
noncomputable def eY (u:cF) (most:Int):Int×List cm:=
 if ¬cj u then(60,[]) else if ¬(1<=most/\most<=65536) then(2,[]) else match iM u most.toNat with
  |none=>(3,[])
  |some l=>(0,l)
theorem pk {u:cF} {most:Int} (h:¬cj u):eY u most=(60,[]):=by unfold eY;rw[if_pos h]
theorem mC {u:cF} {most:Int} (h:cj u) (hm:¬(1<=most/\most<=65536)):eY u most=(2,[]):=by unfold eY;rw[if_neg (fun e=>e h),if_pos hm]
theorem pn {u:cF} {most:Int} (h:cj u) (hm:1<=most/\most<=65536):eY u most=(match iM u most.toNat with|none=>(3,[])|some l=>(0,l)):=by unfold eY;rw[if_neg (fun e=>e h),if_neg (fun e=>e hm)]
def dn (u:cF) (l:List cm) (k:Nat):List dC:=(l.take k).filterMap fun f=>if f.m.stuck u then some (f.m.end_ u) else none
theorem zB {u:cF} {l:List cm} {k:Nat} (hk:k<l.length):dn u l (k+1)=dn u l k++(if(l.getD k default).m.stuck u then[(l.getD k default).m.end_ u] else[]):=by
 unfold dn
 rw[List.take_succ_eq_append_getElem hk,List.filterMap_append,show l.getD k default=l[k] by simp[List.getD,hk]]
 congr 1
 simp only[List.filterMap_cons,List.filterMap_nil]
 split
 ·rename_i h;split at h<;>simp_all
 ·rename_i h;split at h<;>simp_all
theorem mM (u:cF) (l:List cm) (k:Nat):(dn u l k).length<=k:=by
 unfold dn
 refine Nat.le_trans (List.length_filterMap_le _ _) ?_
 rw[List.length_take];omega
set_option maxHeartbeats 1000000 in
theorem FW {u:cF} (hr:cj u) {l:List cm} (hf:jX u l) (hl:l.length<=65536) {k:Nat} (hk:k<l.length) {ub ob o:Nat} {H:Hp} {nx:Nat} (h1:ub<nx) (h2:ob<nx) (h3:o<nx) (hne:ob≠o)
 (r1:∃d,cC H ub=some (.row 25 3 d [u.av])) (r2:∃d,cC H ob=some (.row 41 1 d [.sl o (dn u l k).length])) (r3:∃d,cC H o=some (.row 105 3 d ((dn u l k).map dC.av))):
 cT Tryz.prog 93 [lZ u l,i64 k, .pt ub 1 0 0, .pt ob 1 0 0] H nx (fun _ H' n=>(∃d,cC H' ob=some (.row 41 1 d [.sl o (dn u l (k+1)).length]))/\(∃d,cC H' o=some (.row 105 3 d ((dn u l (k+1)).map dC.av)))/\nx<=n/\∀y,y<nx->y≠ob->y≠o->cC H' y=cC H y):=by
 obtain⟨d1,r1⟩:=r1
 obtain⟨d2,r2⟩:=r2
 obtain⟨d3,r3⟩:=r3
 have hel:=mM u l k
 obtain⟨hm,hp⟩:=hf.ok k hk
 have e0:∀d,(l.map (cm.av u)).getD ((k:Int)).toNat d= .agg [(l.getD k default).m.fz u,i64 (l.getD k default).from_,i64 (l.getD k default).eA]:=fun d=>by rw[Int.toNat_natCast];exact dI (cm.av u) l k d hk
 have a0:(l.map (cm.av u)).length=l.length:=by simp
 have a1:((dn u l k).map dC.av).length=(dn u l k).length:=by simp
 have c0:=w6 u hr (l.getD k default).m hm (by omega) (by have:=hm.ml;have:=hr.qD;omega)
 rw[zB hk]
 generalize (l.getD k default).m=m at *
 cases hs:m.stuck u with
 |true=>
  rw[mZ,hs] at c0
  refine aM YR rfl ?_
  refine ca ?_
  refine⟨⟨⟨_,by simp only[List.length_append,if_true,List.length_cons,List.length_nil];exact cE⟩,⟨_,by simp only[List.map_append,if_true,List.map_cons,List.map_nil];exact cE⟩,cZ,fun y y1 y2 y3=>cM⟩⟩
 |false=>
  rw[mZ,hs] at c0
  refine aM YR rfl ?_
  refine ca ?_
  refine⟨⟨⟨_,by rw[if_neg (by decide),List.append_nil];exact cE⟩,⟨_,by rw[if_neg (by decide),List.append_nil];exact cE⟩,cZ,fun y y1 y2 y3=>cM⟩⟩
end
def lp (l:List Int) (i:Nat):List Int:=(List.range l.length).map fun q=>if q<i\/l.length<=q+i then l.getD (l.length - 1 - q) 0 else l.getD q 0
theorem iW (l:List Int) (i:Nat):(lp l i).length=l.length:=by simp[lp]
theorem oW {l:List Int} {i q:Nat} (h:q<l.length):(lp l i).getD q 0=if q<i\/l.length<=q+i then l.getD (l.length - 1 - q) 0 else l.getD q 0:=by simp[lp,List.getD,h]
theorem JQ (l:List Int):lp l 0=l:=by
 apply List.ext_getElem (iW l 0)
 intro q h1 h2
 have:=oW (l:=l) (i:=0) h2
 rw[if_neg (by omega)] at this
 simpa[List.getD,h1,h2] using this
theorem N8 {l:List Int} {i:Nat} (h:l.length<=2 * i+1):lp l i=l.reverse:=by
 apply List.ext_getElem (by simp[iW])
 intro q h1 h2
 have hq:q<l.length:=by simpa using h2
 have:=oW (l:=l) (i:=i) hq
 rw[show(lp l i).getD q 0=(lp l i)[q] by simp[List.getD,h1]] at this
 rw[this,List.getElem_reverse]
 split
 ·simp[List.getD,show l.length - 1 - q<l.length by omega]
 ·have:q=l.length - 1 - q:=by omega
  conv=>lhs;rw[this]
  simp[List.getD,show l.length - 1 - q<l.length by omega]
theorem JP {l:List Int} {i:Nat} (h:2 * i+1<l.length):((lp l i).set i (l.getD (l.length - 1 - i) 0)).set (l.length - 1 - i) (l.getD i 0)=lp l (i+1):=by
 apply List.ext_getElem (by simp[iW])
 intro q h1 h2
 have hq:q<l.length:=by simpa[iW] using h2
 have e1:=oW (l:=l) (i:=i) hq
 have e2:=oW (l:=l) (i:=i+1) hq
 rw[show(lp l (i+1)).getD q 0=(lp l (i+1))[q] by simp[List.getD,h2]] at e2
 rw[show(lp l i).getD q 0=(lp l i)[q]'(by rw[iW];exact hq) by simp[List.getD,iW,hq]] at e1
 rw[e2,List.getElem_set,List.getElem_set,e1]
 by_cases c1:l.length - 1 - i=q
 ·subst c1
  rw[if_pos rfl,if_pos (by omega),show l.length - 1 - (l.length - 1 - i)=i by omega]
 ·rw[if_neg c1]
  by_cases c2:i=q
  ·subst c2
   rw[if_pos rfl,if_pos (by omega)]
  ·rw[if_neg c2]
   by_cases c3:q<i\/l.length<=q+i
   ·rw[if_pos c3,if_pos (by omega)]
   ·rw[if_neg c3,if_neg (by omega)]
set_option maxHeartbeats 1000000 in
theorem qg {b:Nat} {l:List Int} {H:Hp} {nx:Nat} (hb:b<nx) (hl:l.length<=1048576) (r:∃d,cC H b=some (.row 3 1 d (l.map i64))):
 cT Tryz.prog 83 [.sl b l.length] H nx (fun _ H' n=>(∃d,cC H' b=some (.row 3 1 d (l.reverse.map i64)))/\nx<=n/\∀y,y<nx->y≠b->cC H' y=cC H y):=by
 obtain⟨d0,r0'⟩:=r
 refine aM aAe rfl ?_
 have a0:(l.map i64).length=l.length:=by simp
 refine ca ?_
 refine aI (fun σ:Nat×Int=>[(0, .sl b l.length),(2,i64 σ.1),(3,i64 σ.2)]) (fun σ H2 n=>σ.2=(l.length:Int) - 1 - σ.1/\2 * σ.1<=l.length+1/\nx<=n/\(∃d,cC H2 b=some (.row 3 1 d ((lp l σ.1).map i64)))/\∀y,y<nx->y≠b->cC H2 y=cC H y) (fun σ=>l.length - σ.1) (0,(l.length:Int) - 1) cJ ⟨by simp,by dsimp only;omega,cZ,⟨d0,by rw[JQ];exact cE⟩,fun y h1 h2=>cM⟩ ?_
 clear r0' a0
 rintro⟨i,j⟩ H2 n ⟨hj,hi,hn,⟨d,r1⟩,hk⟩
 dsimp only at hj hi r1 ⊢
 have a0:((lp l i).map i64).length=l.length:=by simp[iW]
 by_cases hc:2 * i+1<l.length
 ·obtain⟨jn,rfl⟩:∃jn:Nat,j=jn:=⟨j.toNat,by omega⟩
  have hjn:jn=l.length - 1 - i:=by omega
  have e0:=fun d=>ints_at (l:=lp l i) (k:=i) (by rw[iW];omega) d
  have e1:=fun d=>ints_at (l:=lp l i) (k:=jn) (by rw[iW];omega) d
  have e2:∀x d,(((lp l i).map i64).set ((i:Int)).toNat x).getD ((jn:Int)).toNat d=i64 ((lp l i).getD jn 0):=fun x d=>by
   rw[getD_set_ne (by omega)];exact e1 d
  have v0:=oW (l:=l) (i:=i) (q:=i) (by omega)
  rw[if_neg (by omega)] at v0
  have v1:=oW (l:=l) (i:=i) (q:=jn) (by omega)
  rw[if_neg (by omega)] at v1
  rw[v0] at e0
  rw[v1] at e1 e2
  have e3:=e2 (i64 (l.getD jn 0))
  clear e2
  have hnx:=JP hc
  rw[<-hjn] at hnx
  refine ca ?_
  refine⟨(i+1,(jn:Int) - 1),by dsimp only;omega,cJ,by dsimp only;omega,by dsimp only;omega,cZ,⟨_,by dsimp only;rw[<-hnx,List.map_set,List.map_set];exact cE⟩,fun y h1 h2=>Eq.trans cM (hk y h1 h2)⟩
 ·refine ca ?_
  rw[N8 (by omega)] at r1
  exact⟨⟨d,cE⟩,cZ,fun y h1 h2=>Eq.trans cM (hk y h1 h2)⟩
def j8 (l:List cm):Nat->Nat->List Int
 |0,_=>[]
 |f+1,k=>if 0<=(l.getD k default).from_ then(l.getD k default).eA::j8 l f (l.getD k default).from_.toNat else[]
theorem jX.x8 {u:cF} {l:List cm} (h:jX u l) {k:Nat} (hk:k<l.length) (h0:0<=(l.getD k default).from_):(l.getD k default).from_.toNat<k/\0<k:=by
 rcases Nat.eq_zero_or_pos k with e|e
 ·subst e;rw[h.first] at h0;exact absurd h0 (by simp)
 ·obtain⟨k',t,h1,_,_,h2⟩:=h.LG k e hk
  rw[h2]
  exact⟨by dsimp only;omega,e⟩
theorem tL {u:cF} {l:List cm} (h:jX u l):∀{f g k:Nat},k<l.length->k<=f->k<=g->j8 l f k=j8 l g k
 |0,0,k,hk,hf,hg=>rfl
 |0,g+1,k,hk,hf,hg=>by
  obtain rfl:k=0:=by omega
  rw[j8,j8,h.first];rfl
 |f+1,0,k,hk,hf,hg=>by
  obtain rfl:k=0:=by omega
  rw[j8,j8,h.first];rfl
 |f+1,g+1,k,hk,hf,hg=>by
  rw[j8,j8]
  split
  ·rename_i h0
   obtain⟨h1,h2⟩:=h.x8 hk h0
   rw[tL h (f:=f) (g:=g) (by omega) (by omega) (by omega)]
  ·rfl
abbrev om (l:List cm) (k:Nat):List Int:=j8 l k k
theorem yi {u:cF} {l:List cm} (h:jX u l) {k:Nat} (hk:k<l.length) (h0:0<=(l.getD k default).from_):om l k=(l.getD k default).eA::om l (l.getD k default).from_.toNat:=by
 obtain⟨h1,h2⟩:=h.x8 hk h0
 obtain⟨f,rfl⟩:∃f,k=f+1:=⟨k - 1,by omega⟩
 show j8 l (f+1) (f+1)=_
 rw[j8,if_pos h0]
 congr 1
 exact tL h (by omega) (by omega) (Nat.le_refl _)
theorem vi {l:List cm} {k:Nat} (h0:¬0<=(l.getD k default).from_):om l k=[]:=by
 show j8 l k k=[]
 cases k with
 |zero=>rfl
 |succ f=>rw[j8,if_neg h0]
theorem vh (l:List cm):∀f k,(j8 l f k).length<=f
 |0,k=>Nat.le_refl _
 |f+1,k=>by
  rw[j8]
  split
  ·rw[List.length_cons];have:=vh l f (l.getD k default).from_.toNat;omega
  ·simp
def fk (u:cF) (l:List cm) (e:dC) (k:Nat):Option Nat:=(List.range k).find? fun i=>(l.getD i default).m.stuck u&&decide (gk ((l.getD i default).m.end_ u) e=0)
theorem C6 (u:cF) (l:List cm) (e:dC) (k:Nat):fk u l e (k+1)=match fk u l e k with
 |some i=>some i
 |none=>if(l.getD k default).m.stuck u&&decide (gk ((l.getD k default).m.end_ u) e=0) then some k else none:=by
 unfold fk
 rw[List.range_succ,List.find?_append]
 cases(List.range k).find? fun i=>(l.getD i default).m.stuck u&&decide (gk ((l.getD i default).m.end_ u) e=0) with
 |some i=>rfl
 |none=>
  simp only[Option.none_or,List.find?_cons,List.find?_nil]
  split<;>simp_all
theorem M5 {u:cF} {l:List cm} {e:dC} {k i:Nat} (h:fk u l e k=some i):i<k:=by
 have:=List.mem_of_find?_eq_some h
 exact List.mem_range.1 this
def kx (l:List cm):Option Nat->List Int
 |none=>[]
 |some i=>(om l i).reverse
set_option maxHeartbeats 2000000 in
theorem UN {u:cF} (hr:cj u) {l:List cm} (hf:jX u l) (hl:l.length<=65536) {e:dC} (he1:e.cW.length * 16<=140737488355328) (he2:e.mem.length * 8<=140737488355328) {k:Nat} (hk:k<l.length) {ub ib eb wb W:Nat} {H:Hp} {nx:Nat} (hn:ub<nx/\ib<nx/\eb<nx/\wb<nx/\W<nx) (hne:ub≠ib/\ub≠wb/\ub≠W/\ib≠eb/\ib≠wb/\ib≠W/\eb≠wb/\eb≠W/\wb≠W)
 (r0:∃d,cC H ub=some (.row 25 3 d [u.av])) (r1:∃d,cC H ib=some (.row 4 1 d [bl (fk u l e k).isSome])) (r2:∃d,cC H eb=some (.row 105 3 d [e.av])) (r3:∃d,cC H wb=some (.row 31 1 d [.sl W (kx l (fk u l e k)).length])) (r4:∃d,cC H W=some (.row 3 1 d ((kx l (fk u l e k)).map i64))):
 cT Tryz.prog 103 [lZ u l,i64 k, .pt ub 1 0 0, .pt ib 1 0 0, .pt eb 1 0 0, .pt wb 1 0 0] H nx (fun _ H' n=>(∃d,cC H' ib=some (.row 4 1 d [bl (fk u l e (k+1)).isSome]))/\(∃d,cC H' wb=some (.row 31 1 d [.sl W (kx l (fk u l e (k+1))).length]))/\(∃d,cC H' W=some (.row 3 1 d ((kx l (fk u l e (k+1))).map i64)))/\nx<=n/\∀y,y<nx->y≠ib->y≠wb->y≠W->cC H' y=cC H y):=by
 obtain⟨d0,r0'⟩:=r0
 obtain⟨d1,r1'⟩:=r1
 obtain⟨d2,r2'⟩:=r2
 obtain⟨d3,r3'⟩:=r3
 obtain⟨d4,r4'⟩:=r4
 obtain⟨n0,n1,n2,n3,n4⟩:=hn
 obtain⟨m0,m1,m2,m3,m4,m5,m6,m7,m8⟩:=hne
 obtain⟨hm,hp⟩:=hf.ok k hk
 have e0:∀d,(l.map (cm.av u)).getD ((k:Int)).toNat d= .agg [(l.getD k default).m.fz u,i64 (l.getD k default).from_,i64 (l.getD k default).eA]:=fun d=>by rw[Int.toNat_natCast];exact dI (cm.av u) l k d hk
 have a0:(l.map (cm.av u)).length=l.length:=by simp
 have hgl:=hr.qD
 have hml:=hm.ml
 have c0:=w6 u hr (l.getD k default).m hm (by omega) (by omega)
 have c1:=p9 ((l.getD k default).m.end_ u) e (by show(l.getD k default).m.cW.length<_;omega) (by show(l.getD k default).m.mem.length<_;omega)
 rw[C6]
 cases hh:fk u l e k with
 |some i=>
  rw[hh] at r1' r3' r4'
  dsimp only
  generalize (l.getD k default).m=m at *
  cases hs:m.stuck u with
  |true=>
   rw[mZ,hs] at c0
   refine aM zu rfl ?_
   refine ca ?_
   exact⟨⟨_,cE⟩,⟨_,cE⟩,⟨_,cE⟩,cZ,fun y y1 y2 y3 y4=>cM⟩
  |false=>
   rw[mZ,hs] at c0
   refine aM zu rfl ?_
   refine ca ?_
   exact⟨⟨_,cE⟩,⟨_,cE⟩,⟨_,cE⟩,cZ,fun y y1 y2 y3 y4=>cM⟩
 |none=>
  rw[hh] at r1' r3' r4'
  dsimp only
  by_cases hs:(l.getD k default).m.stuck u=true
  ·rw[mZ,hs] at c0
   by_cases hc:gk ((l.getD k default).m.end_ u) e=0
   ·rw[hs,decide_eq_true hc,if_pos (by rfl)]
    rw[decide_eq_true hc] at c1
    refine aM zu rfl ?_
    refine ca ?_
    clear c0 c1 e0 r0' r2'
    have hway:kx l none=[]:=rfl
    rw[hway] at r3' r4'
    refine aI (fun σ:Nat×List Int=>[(0,lZ u l),(5, .pt wb 1 0 0),(10,i64 σ.1)])
     (fun σ H2 n=>σ.1<l.length/\σ.2++om l σ.1=om l k/\nx<=n/\(∃d,cC H2 ib=some (.row 4 1 d [bl true]))/\(∃d,cC H2 wb=some (.row 31 1 d [.sl W σ.2.length]))/\(∃d,cC H2 W=some (.row 3 1 d (σ.2.map i64)))/\∀y,y<nx->y≠ib->y≠wb->y≠W->cC H2 y=cC H y) (fun σ=>σ.1) (k,[]) cJ
     ⟨hk,rfl,cZ,⟨_,cE⟩,⟨_,cE⟩,⟨_,cE⟩,fun y y1 y2 y3 y4=>cM⟩ ?_
    clear r1' r3' r4'
    rintro⟨at_,acc⟩ H2 n ⟨hat,hacc,hn2,⟨d1,r1'⟩,⟨d3,r3'⟩,⟨d4,r4'⟩,hkp⟩
    dsimp only at hat hacc r3' r4' ⊢
    have hbl:=vh l k k
    have hal:acc.length<=65536:=by
     have:=congrArg List.length hacc
     rw[List.length_append] at this
     have:(om l k).length<=k:=hbl
     omega
    have a1:(acc.map i64).length=acc.length:=by simp
    have e0:∀d,(l.map (cm.av u)).getD ((at_:Int)).toNat d= .agg [(l.getD at_ default).m.fz u,i64 (l.getD at_ default).from_,i64 (l.getD at_ default).eA]:=fun d=>by rw[Int.toNat_natCast];exact dI (cm.av u) l at_ d hat
    by_cases h0:0<=(l.getD at_ default).from_
    ·obtain⟨hlt,hpos⟩:=hf.x8 hat h0
     have hon:=yi hf hat h0
     obtain⟨q,hq⟩:∃q:Nat,(l.getD at_ default).from_=q:=⟨_,(Int.toNat_of_nonneg h0).symm⟩
     rw[hq] at e0 hlt hon
     rw[Int.toNat_natCast] at hlt hon
     have hge:¬(q:Int)<0:=by omega
     refine ca ?_
     refine⟨(q,acc++[(l.getD at_ default).eA]),hlt,cJ,by dsimp only;omega,by dsimp only;rw[List.append_assoc,List.singleton_append,<-hon];exact hacc,cZ,⟨_,cE⟩,⟨_,by dsimp only;rw[List.length_append];exact cE⟩,⟨_,by dsimp only;rw[List.map_append];exact cE⟩,fun y y1 y2 y3 y4=>Eq.trans cM (hkp y y1 y2 y3 y4)⟩
    ·have hon:=vi h0
     rw[hon,List.append_nil] at hacc
     subst hacc
     refine ca ?_
     refine aJ (qg (b:=W) (l:=om l k) ?_ (by omega) ?_) ?_
     ·exact cZ
     ·exact⟨_,cE⟩
     rintro _ H3 n3 ⟨⟨d5,r5⟩,hn3,hk3⟩
     have q1:=hk3 ib cZ (by omega)
     have q2:=hk3 wb cZ (by omega)
     refine ca ?_
     exact⟨⟨d1,q1.trans cE⟩,⟨d3,by simp only[kx,List.length_reverse];exact q2.trans cE⟩,⟨d5,cE⟩,cZ,fun y y1 y2 y3 y4=>(hk3 y cZ y4).trans (Eq.trans cM (hkp y y1 y2 y3 y4))⟩
   ·rw[hs,decide_eq_false hc,if_neg (by decide)]
    rw[decide_eq_false hc] at c1
    refine aM zu rfl ?_
    refine ca ?_
    exact⟨⟨_,cE⟩,⟨_,cE⟩,⟨_,cE⟩,cZ,fun y y1 y2 y3 y4=>cM⟩
  ·have hs2:(l.getD k default).m.stuck u=false:=by simpa using hs
   rw[mZ,hs2] at c0
   rw[hs2,Bool.false_and,if_neg (by decide)]
   refine aM zu rfl ?_
   refine ca ?_
   exact⟨⟨_,cE⟩,⟨_,cE⟩,⟨_,cE⟩,cZ,fun y y1 y2 y3 y4=>cM⟩
theorem VN {te e:TypeId} {sz b nx:Nat} {H:Hp} {d:AV} (hb:b<nx) (hsz:0<sz) (h:cC H b=some (.row te 1 d [.sc (.slice none 0 0)])):∃H2,Wk .any H nx .any H2 (nx+1)/\cC H2 b=some (.row te 1 .any [.sl nx 0])/\cC H2 nx=some (.row e sz .any [])/\∀y,y<nx->y≠b->cC H2 y=cC H y:=by
 refine⟨nL te e sz b 1 nx H,Wk.born hb hsz h, ?_, ?_,fun y y1 y2=>LB y1 y2⟩
 ·rw[nL,cx,w9];rfl
 ·rw[nL,cc (by omega),l4,if_pos (by omega)]
noncomputable def wv (u:cF) (most:Int) (e:dC):AV:=
 if(eY u most).1=0 then .dQ [c8 (kx (eY u most).2 (fk u (eY u most).2 e (eY u most).2.length)),bl (fk u (eY u most).2 e (eY u most).2.length).isSome,i64 0] else .dQ [.sc (.slice none 0 0),bl false,i64 (eY u most).1]
theorem LD {P:Program} {f:FuncId} {args:List AV} {te:TypeId} (e:TypeId) (sz:Nat) {b nx:Nat} {H:Hp} {d:AV} {R:AV->Hp->Nat->Prop} (hb:b<nx) (hsz:0<sz) (h:cC H b=some (.row te 1 d [.sc (.slice none 0 0)]))
 (k:∀H2,cC H2 b=some (.row te 1 .any [.sl nx 0])->cC H2 nx=some (.row e sz .any [])->(∀y,y<nx->y≠b->cC H2 y=cC H y)->cT P f args H2 (nx+1) R):cT P f args H nx R:=by
 obtain⟨H2,hw,q1,q2,q3⟩:=VN hb hsz h
 exact cT.OU (k H2 q1 q2 q3) (hw.same _)
def yS (u:cF) (most:Int) (I:Nat->Hp->Prop) (r:AV) (H:Hp):Prop:=
 match iM u most.toNat with
 |none=>r= .dQ [i64 0,i64 3]
 |some l=>r= .dQ [i64 l.length,i64 0]/\I l.length H
theorem O9.short {u:cF} {most:Int} {I:Nat->Hp->Prop} {nx:Nat} {H0:Hp} {r:AV} {H:Hp} {n:Nat} (h:O9 u most I nx H0 r H n):yS u most I r H:=by
 obtain⟨_,h⟩:=h
 unfold yS
 revert h
 cases iM u most.toNat with
 |none=>exact fun h=>h.1
 |some l=>exact id
set_option maxHeartbeats 2000000 in
theorem O2 (u:cF) (hu:u.Wf) (most:Int) (e:dC) (he1:e.cW.length * 16<=140737488355328) (he2:e.mem.length * 8<=140737488355328):Pure Tryz.prog 58 [u.av,i64 most,e.av] (fun r=>r=wv u most e):=by
 refine cz ?_ (by unfold wv;split<;>simp[cP,cg,cL])
 refine aM aAX rfl ?_
 have hnil:c8 []= .im 1 .any []:=rfl
 by_cases hr:cj u
 ·by_cases hm:1<=most/\most<=65536
  ·unfold wv
   rw[pn hr hm]
   refine ca ?_
   let l:=(iM u most.toNat).getD []
   let I:Nat->Hp->Prop:=fun k H=>(∃d,cC H 0=some (.row 25 3 d [u.av]))/\(∃d,cC H 6=some (.row 4 1 d [bl (fk u l e k).isSome]))/\(∃d,cC H 1=some (.row 105 3 d [e.av]))/\(∃d,cC H 5=some (.row 31 1 d [.sl 11 (kx l (fk u l e k)).length]))/\(∃d,cC H 11=some (.row 3 1 d ((kx l (fk u l e k)).map i64)))
   refine aJ (R:=fun r H n=>12<=n/\yS u most I r H) (LD (b:=5) 3 1 (by omega) (by omega) (d:=hP false [.slice none 0 0]) (te:=31) ?_ fun H2 q1 q2 q3=> ?_) ?_
   ·exact cE
   ·refine(tG u hu hr most hm _ [.pt 0 1 0 0, .pt 6 1 0 0, .pt 1 1 0 0, .pt 5 1 0 0] H2 12 I ?_ ?_ ?_).mono fun r H n h=>⟨h.1,h.short⟩
    ·exact⟨⟨_,(q3 0 (by omega) (by omega)).trans cE⟩,⟨_,(q3 6 (by omega) (by omega)).trans cE⟩,⟨_,(q3 1 (by omega) (by omega)).trans cE⟩,⟨_,q1⟩,⟨_,q2⟩⟩
    ·rintro k H H' ⟨⟨d0,p0⟩,⟨d1,p1⟩,⟨d2,p2⟩,⟨d3,p3⟩,⟨d4,p4⟩⟩ hk
     exact⟨⟨d0,(hk 0 (by omega)).trans p0⟩,⟨d1,(hk 6 (by omega)).trans p1⟩,⟨d2,(hk 1 (by omega)).trans p2⟩,⟨d3,(hk 5 (by omega)).trans p3⟩,⟨d4,(hk 11 (by omega)).trans p4⟩⟩
    ·intro l' hl' k H n hk hn ⟨p0,p1,p2,p3,p4⟩
     have hll:l=l':=by show(iM u most.toNat).getD []=l';rw[hl'];rfl
     rw[hll] at p1 p3 p4
     obtain⟨hf,hlm,_⟩:=mD hu hr (by omega) hl'
     refine(UN hr hf (by omega) he1 he2 hk (ub:=0) (ib:=6) (eb:=1) (wb:=5) (W:=11) ⟨by omega,by omega,by omega,by omega,by omega⟩ ⟨by omega,by omega,by omega,by omega,by omega,by omega,by omega,by omega,by omega⟩ p0 p1 p2 p3 p4).mono ?_
     rintro _ H' n' ⟨s1,s2,s3,s4,s5⟩
     obtain⟨d0,p0⟩:=p0
     obtain⟨d2,p2⟩:=p2
     refine⟨⟨⟨d0,(s5 0 (by omega) (by omega) (by omega) (by omega)).trans p0⟩, ?_,⟨d2,(s5 1 (by omega) (by omega) (by omega) (by omega)).trans p2⟩, ?_, ?_⟩,s4,fun y y1 y2=>s5 y y2 (by omega) (by omega) (by omega)⟩
     ·rw[hll];exact s1
     ·rw[hll];exact s2
     ·rw[hll];exact s3
   rintro r H' n' ⟨hn,hA⟩
   revert hA
   unfold yS
   cases hs:iM u most.toNat with
   |none=>
    rintro rfl
    refine ca ?_
    exact⟨rfl⟩
   |some l'=>
    rintro⟨rfl,⟨d0,p0⟩,⟨d1,p1⟩,⟨d2,p2⟩,⟨d3,p3⟩,⟨d4,p4⟩⟩
    have hll:l=l':=by show(iM u most.toNat).getD []=l';rw[hs];rfl
    rw[hll] at p1 p3 p4
    refine ca ?_
    refine⟨?_⟩
    dsimp only
    rw[if_pos rfl]
    have hf1:dA.df H' 5 (.sl 11 (kx l' (fk u l' e l'.length)).length)=c8 (kx l' (fk u l' e l'.length)):=by
     rw[dN (k:=4) p4 (by simp),cr _ ((cL _ _).2 fun _ _=>by simp[cP])]
    show AV.dQ [dA.df H' 5 (.sl 11 (kx l' (fk u l' e l'.length)).length),bl (fk u l' e l'.length).isSome,i64 0]=_
    rw[hf1]
  ·unfold wv
   rw[mC hr hm]
   refine ca ?_
   refine aJ (vc u hu hr most hm _ _ _ _) ?_
   rintro r H' n' ⟨rfl,hn,hk⟩
   refine ca ?_
   exact⟨rfl⟩
 ·unfold wv
  rw[pk hr]
  refine ca ?_
  refine aJ (FJ u hu hr most _ _ _ _) ?_
  rintro r H' n' ⟨rfl,hn,hk⟩
  refine ca ?_
  exact⟨rfl⟩
theorem xU {x y z:Int} (h1:fI x y<0) (h2:fI y z<0):fI x z<0:=by
 unfold fI at *
 repeat' split at *
 all_goals omega
theorem aAo (a b c:Int):u0 [a,b,c]<0↔a<0\/a=0/\(b<0\/b=0/\c<0):=by
 simp only[u0]
 repeat' split
 all_goals omega
theorem aAn (a b:Int):u0 [a,b]<0↔a<0\/a=0/\b<0:=by
 simp only[u0]
 repeat' split
 all_goals omega
theorem PS {p q r:de} (h1:kH p q<0) (h2:kH q r<0):kH p r<0:=by
 unfold kH at *
 rw[aAn] at *
 simp only[lT] at *
 rcases h1 with h1|⟨e1,h1⟩<;>rcases h2 with h2|⟨e2,h2⟩
 ·exact .inl (xU h1 h2)
 ·rw[<-e2];exact .inl h1
 ·rw[e1];exact .inl h2
 ·exact .inr ⟨e1.trans e2,xU h1 h2⟩
theorem xW {α:Type} {f:α->α->Int} (hz:∀x y,f x y=0↔x=y) (hf:∀x y z,f x y<0->f y z<0->f x z<0):∀a b c:List α,fK f a b<0->fK f b c<0->fK f a c<0
 |[],[],_,h1,_=>by simp[fK] at h1
 |[],_::_,[],_,h2=>by simp[fK] at h2
 |[],_::_,_::_,_,_=>by simp[fK]
 |_::_,[],_,h1,_=>by simp[fK] at h1
 |_::_,_::_,[],_,h2=>by simp[fK] at h2
 |x::a,y::b,z::c,h1,h2=>by
  rw[fK] at h1 h2 ⊢
  by_cases e1:f x y=0
  ·have:=(hz _ _).1 e1
   subst this
   rw[if_pos e1] at h1
   by_cases e2:f x z=0
   ·rw[if_pos e2] at h2 ⊢
    exact xW hz hf a b c h1 h2
   ·rw[if_neg e2] at h2 ⊢
    exact h2
  ·rw[if_neg e1] at h1
   by_cases e2:f y z=0
   ·have:=(hz _ _).1 e2
    subst this
    rw[if_neg e1]
    exact h1
   ·rw[if_neg e2] at h2
    have h3:=hf _ _ _ h1 h2
    rw[if_neg (by omega)]
    exact h3
theorem PO {a b c:dC} (h1:gk a b<0) (h2:gk b c<0):gk a c<0:=by
 unfold gk at *
 rw[aAo] at *
 simp only[lU (fun x y=>rK),lU (fun x y=>lT)] at *
 have tp:=xW (f:=kH) (fun x y=>rK) (fun x y z=>PS) a.cW b.cW c.cW
 have ti:=xW (f:=fI) (fun x y=>lT) (fun x y z=>xU) a.mem b.mem c.mem
 have tb:xT a.ended b.ended<0->xT b.ended c.ended<0->xT a.ended c.ended<0:=by
  cases a.ended<;>cases b.ended<;>cases c.ended<;>simp[xT]
 rcases h1 with h1|⟨e1,h1⟩<;>rcases h2 with h2|⟨e2,h2⟩
 ·exact .inl (tp h1 h2)
 ·rw[<-e2];exact .inl h1
 ·rw[e1];exact .inl h2
 ·refine .inr ⟨e1.trans e2, ?_⟩
  rcases h1 with h1|⟨e1',h1⟩<;>rcases h2 with h2|⟨e2',h2⟩
  ·exact .inl (ti h1 h2)
  ·rw[<-e2'];exact .inl h1
  ·rw[e1'];exact .inl h2
  ·exact .inr ⟨e1'.trans e2',tb h1 h2⟩
structure lN {α:Type} (f:α->α->Int):Prop where
 neg:∀x y,f y x=-f x y
 zero:∀x y,f x y=0↔x=y
 tr:∀x y z,f x y<0->f y z<0->f x z<0
theorem kU:lN gk:=⟨LJ,fun _ _=>rJ,fun _ _ _=>PO⟩
def wX {α:Type} (f:α->α->Int) (x y:α):Bool:=decide (f x y<=0)
theorem lN.V8 {α:Type} {f:α->α->Int} (h:lN f) {x y z:α} (h1:wX f x y=true) (h2:wX f y z=true):wX f x z=true:=by
 simp only[wX,decide_eq_true_eq] at *
 by_cases e1:f x y=0
 ·rw[(h.zero _ _).1 e1];exact h2
 ·by_cases e2:f y z=0
  ·rw[<-(h.zero _ _).1 e2];exact h1
  ·have:=h.tr x y z (by omega) (by omega);omega
theorem lN.le_total {α:Type} {f:α->α->Int} (h:lN f) (x y:α):(wX f x y||wX f y x)=true:=by
 have:=h.neg x y
 simp only[wX,Bool.or_eq_true,decide_eq_true_eq]
 omega
theorem lN.F8 {α:Type} {f:α->α->Int} (h:lN f) {x y:α} (h1:wX f x y=true) (h2:wX f y x=true):x=y:=by
 have:=h.neg x y
 simp only[wX,decide_eq_true_eq] at *
 exact(h.zero _ _).1 (by omega)
def gP {α:Type} (f:α->α->Int) (l:List α):List α:=l.mergeSort (wX f)
theorem oY {α:Type} (f:α->α->Int) (l:List α):(gP f l).length=l.length:=by simp[gP]
theorem mf {α:Type} (f:α->α->Int) (l:List α):(gP f l).Perm l:=List.mergeSort_perm _ _
theorem lN.sorted {α:Type} {f:α->α->Int} (h:lN f) (l:List α):(gP f l).Pairwise fun x y=>wX f x y=true:=
 List.pairwise_mergeSort (le:=wX f) (fun a b c h1 h2=>h.V8 h1 h2) (fun a b=>h.le_total a b) l
theorem lN.RA {α:Type} {f:α->α->Int} (h:lN f) {l l':List α} (hp:l'.Perm l) (hs:l'.Pairwise fun x y=>wX f x y=true):l'=gP f l:=
 List.Perm.eq_of_pairwise (fun a b _ _ h1 h2=>h.F8 h1 h2) hs (h.sorted l) (hp.trans (mf f l).symm)
end Go.Proofs.YtjopoheligmmoaaGreatDoor
