import Derived.Test.YtmonponfppdgfaaGreatDoorM37
import Derived.Test.YtmonponfppdgfaaGreatDoorM25
namespace Go.Proofs.YtmonponfppdgfaaGreatDoor
open Go Go.dD Go.Proofs
set_option linter.unusedSimpArgs false
set_option linter.unusedVariables false
set_option maxRecDepth 8000
theorem u5 (p:Nat->Prop) (l:List Decl):kA p (l.map Decl.av):=sN.2 fun a ha=>by
 obtain⟨d,_,rfl⟩:=List.mem_map.1 ha
 simp[ly,kA,Decl.cells]
theorem C8 (p:Nat->Prop) (l:List Node):kA p (l.map Node.av):=sN.2 fun a ha=>by
 obtain⟨d,_,rfl⟩:=List.mem_map.1 ha
 simp[ly,kA,Node.cells]
theorem sO {p:Nat->Prop}:∀{ids:List Nat} {gs:List br},(∀x∈ids,p x)->kA p (fQ ids gs)
 |[],_,_=>by simp[fQ,kA]
 |x::ids,[],_=>by simp[fQ,kA]
 |x::ids,g::gs,h=>by
  have:fQ (x::ids) (g::gs)=iM x g::fQ ids gs:=rfl
  rw[this,kA]
  refine⟨?_,sO fun y hy=>h y (List.mem_cons_of_mem _ hy)⟩
  have:=h x (by simp)
  simp[ly,kA,this]
theorem vX {H:Hp} {b:Nat} {e e':TypeId} {sz sz':Nat} {d d':AV} {es es':List AV} (h:bk H b=some (.row e sz d es)) (h':bk H b=some (.row e' sz' d' es')):es=es':=by
 rw[h] at h'
 cases h';rfl
theorem rA.borrow {f:FuncId} {args args2:List AV} {v:bq} {H:Hp} {nx:Nat} (h:cM Tryz.prog f args2 [] nx (rA v [] nx)) (ha:args.map (dD.de H 6)=args2) (hfa:cL 0 args2):cM Tryz.prog f args H nx (rA v H nx):=by
 refine h.borrow ha hfa ?_
 rintro r H' n' ⟨sh,lk,gr,ids,rfl,hU,hin,hn,hk⟩
 refine⟨sh::lk::gr::ids, ?_,hn,fun b hb=>⟨(hin b hb).1,fun e sz d es he=> ?_⟩,fun H2 h1 h2=>⟨sh,lk,gr,ids,rfl,hU.cH h1,hin,hn,h2⟩⟩
 ·have a1:=(hin sh (by simp)).1
  have a2:=(hin lk (by simp)).1
  have a3:=(hin gr (by simp)).1
  simp[ly,kA,a1,a2,a3]
 ·simp only[List.mem_cons] at hb
  rcases hb with rfl|rfl|rfl|hb
  ·obtain⟨d1,h1⟩:=hU.sh
   rw[vX he h1];exact u5 _ _
  ·obtain⟨d1,h1⟩:=hU.lk
   rw[vX he h1];exact u5 _ _
  ·obtain⟨d1,h1⟩:=hU.gr
   rw[vX he h1];exact sO fun x hx=>(hin x (by simp[hx])).1
  ·obtain⟨q,hq,rfl⟩:=List.getElem_of_mem hb
   obtain⟨d1,h1⟩:=hU.LM q (by rw[<-hU.len];exact hq)
   rw[gd hq] at h1
   rw[vX he h1];exact C8 _ _
theorem N3 (u:bq):cL 0 [u.av]:=by rw[cL,cL];exact⟨gA u,trivial⟩
theorem BE (v:bq) (hv:v.Wf) (hr:cX v) {sh lk gr:Nat} {ids:List Nat} {H:Hp} (hU:qe sh lk gr ids v H) (nx:Nat):cM Tryz.prog 9 [nV sh lk gr v] H nx (rA (dA v) H nx):=
 rA.borrow (tS v hv hr [] nx) (by rw[List.map_cons,List.map_nil,hU.de 2]) (N3 v)
theorem M9 {H:Hp} {a b a' b':AV} (h1:dD.de H 6 a=a') (h2:dD.de H 6 b=b'):[a,b].map (dD.de H 6)=[a',b']:=by
 rw[List.map_cons,List.map_cons,List.map_nil,h1,h2]
set_option maxRecDepth 4000 in
set_option maxHeartbeats 4000000 in
theorem yS (u:bq) (hu:u.Wf) (hr:cX u) (H0:Hp) (nx:Nat):cM Tryz.prog 15 [u.av] H0 nx (rA (gF u) H0 nx):=by
 refine aI zB rfl ?_
 refine gG ?_
 refine aJ (tS u hu hr _ _) ?_
 rintro _ H1 n1 ⟨sh,lk,gr,ids,rfl,hU,hin,hn1,hk1⟩
 refine gG ?_
 have hn1':nx+2<=n1:=Nat.le_trans cI hn1
 refine aF (fun σ:bq×Nat×Nat×Nat×List Nat=>[(2, .pt (nx+1) 1 0 0),(4, .pt (n1+3) 1 0 0),(5,i64 0)])
  (fun σ H n=>n1+6<=n/\cX σ.1/\σ.1.Wf/\fO (fW σ.1) σ.1=gF u/\(∃d,bk H (nx+1)=some (.row 25 3 d [gw true [.slice none 0 0, .slice none 0 0, .slice none 0 0]]))/\(∃d,bk H (n1+3)=some (.row 25 3 d [nV σ.2.1 σ.2.2.1 σ.2.2.2.1 σ.1]))/\qe σ.2.1 σ.2.2.1 σ.2.2.2.1 σ.2.2.2.2 σ.1 H/\(∀x∈σ.2.1::σ.2.2.1::σ.2.2.2.1::σ.2.2.2.2,nx+2<=x/\x<n/\x≠n1+3)/\∀y,y<nx->bk H y=bk H0 y) (fun σ=>fW σ.1) (dA u,sh,lk,gr,ids) bu
  ⟨cI,fF hr,jF hu hr,(nA hr).symm,⟨_,Eq.trans bw ((hk1 (nx+1) cI).trans bm)⟩,⟨_,bm⟩,hU.cH fun x hx=> ?_,fun x hx=> ?_,fun y hy=>Eq.trans bw ((hk1 y (Nat.lt_of_lt_of_le hy cI)).trans bw)⟩ ?_
 ·have:=hin x hx
  exact bw
 ·have:=hin x hx
  exact⟨Nat.le_trans cI this.1,Nat.lt_of_lt_of_le this.2 cI,by omega⟩
 clear hk1 hU hin hn1
 rintro⟨v,sh,lk,gr,ids⟩ H n ⟨hn,hvr,hvw,hsw,⟨d1,r1⟩,⟨d3,r3⟩,hU,hin,hkp⟩
 dsimp only at hvr hvw hsw r3 hU hin ⊢
 have hs:=oM (dA v) v (jF hvw hvr) hvw
 refine gG ?_
 refine aJ (BE v hvw hvr (hU.cH fun x hx=> ?_) _) ?_
 ·exact bw
 rintro _ H2 n2 ⟨sh2,lk2,gr2,ids2,rfl,hU2,hin2,hn2,hk2⟩
 have hn2':n<=n2:=Nat.le_trans cI hn2
 have q1:=(hk2 (nx+1) cI).trans r1
 have q3:=(hk2 (n1+3) cI).trans r3
 have hUk:qe sh lk gr ids v H2:=hU.cH fun x hx=>by
  have:=hin x hx
  exact(hk2 x (Nat.lt_of_lt_of_le this.2.1 cI)).trans bw
 refine gG ?_
 refine bA (args2:=[(dA v).av,v.av]) hs (M9 ((hU2.cH fun x hx=> ?_).de 2) ((hUk.cH fun x hx=> ?_).de 2)) (by rw[cL,cL,cL];exact⟨gA _,gA _,trivial⟩) trivial ?_
 ·have:=hin2 x hx;exact bw
 ·have:=hin x hx;exact bw
 by_cases e:dA v=v
 ·rw[decide_eq_true e]
  rw[lZ hvr e] at hsw
  subst hsw
  refine gG ?_
  refine⟨sh,lk,gr,ids,rfl,hUk.cH fun x hx=> ?_,fun x hx=> ?_,cI,fun y hy=>Eq.trans bw ((hk2 y (Nat.lt_of_lt_of_le (show y<n by omega) cI)).trans (Eq.trans bw (hkp y hy)))⟩
  ·have:=hin x hx
   exact bw
  ·have:=hin x hx
   exact⟨by omega,Nat.lt_of_lt_of_le this.2.1 (Nat.le_trans hn2' cI)⟩
 ·rw[decide_eq_false e]
  obtain⟨h1,h2⟩:=sf hvr e
  refine gG ?_
  refine⟨(dA v,sh2,lk2,gr2,ids2),h2,bu,Nat.le_trans hn (Nat.le_trans hn2' cI),fF hvr,jF hvw hvr,h1.symm.trans hsw,⟨_,bm⟩,⟨_,bm⟩,hU2.cH fun x hx=> ?_,fun x hx=> ?_,fun y hy=>Eq.trans bw ((hk2 y (Nat.lt_of_lt_of_le (show y<n by omega) cI)).trans (Eq.trans bw (hkp y hy)))⟩
  ·have:=hin2 x hx
   exact bw
  ·have:=hin2 x hx
   have h3:n<=x:=Nat.le_trans cI this.1
   exact⟨by omega,Nat.lt_of_lt_of_le this.2 cI,by omega⟩
def O3 (T:gx) (H0:Hp) (nx:Nat) (r:AV) (H:Hp) (n:Nat):Prop:=∃b ids,r= .dK [.sl b T.length,i64 0]/\lp b ids T H/\(∀x∈b::ids,nx<=x/\x<n)/\nx<=n/\∀y,y<nx->bk H y=bk H0 y
set_option maxRecDepth 4000 in
set_option maxHeartbeats 4000000 in
theorem BB (u:bq) (hu:u.Wf) (hr:cX u) (k:Nat) (hk:k<u.bo.length) (H0:Hp) (nx:Nat):cM Tryz.prog 17 [u.av,i64 k] H0 nx (O3 (eN (u.gr k)) H0 nx):=by
 have c0:=mF u hu hr k hk
 have hgo:=hr.gr hk
 have hl:(eN (u.gr k)).length=(u.gr k).nodes.length:=(gZ _ _ _ _).len
 refine aI xN rfl ?_
 refine gG ?_
 refine aJ (pW u (u.gr k) (hu.bo _ (cE default hk)) hgo k (ck u) _ _) ?_
 rintro _ H2 n2 ⟨b,rfl,hgr⟩
 obtain⟨ids,h1,h2⟩:=hgr.at_
 have hle:=hgr.le
 have hkp:=hgr.cH
 refine gG ?_
 refine⟨b,ids,by rw[hl],h1.cH fun x hx=>bw,fun x hx=> ?_,cI,fun y hy=>Eq.trans bw ((hkp y (Nat.lt_of_lt_of_le hy cI)).trans bw)⟩
 have:=h2 x hx
 exact⟨Nat.le_trans cI this.1,Nat.lt_of_lt_of_le this.2 cI⟩
theorem I4 {l:List Nat} {i:Nat} (h:i<l.length):l.set i (l.getD i 0)=l:=by
 rw[gd h];exact List.set_getElem_self h
theorem lp.OM {b:Nat} {ids:List Nat} {T:gx} {H H':Hp} (h:lp b ids T H) {i:Nat} (hi:i<T.length) (l:List Bool)
 (h1:∃d,bk H' b=some (.row 26 1 d ((gE ids (fJ T)).set i (.sl (ids.getD i 0) l.length)))) (h2:∃d,bk H' (ids.getD i 0)=some (.row 4 1 d (l.map bl)))
 (h3:∀x∈ids,x≠ids.getD i 0->x≠b->bk H' x=bk H x):lp b ids (T.set i l) H':=by
 obtain⟨d1,h1⟩:=h1
 obtain⟨d2,h2⟩:=h2
 have hi':i<(fJ T).length:=by rw[dC];exact hi
 have:=ui.next h hi' (l.map bl) (.inl rfl) ⟨d1,_,h1,by rw[List.length_map]⟩ ⟨d2,_,h2,rfl⟩ (fun j hj _ n1 n2 _=>h3 _ (dP (by rw[h.lens];exact hj)) n2 n1)
 rw[I4 (by rw[h.lens];exact hi')] at this
 have e:(fJ T).set i (l.map bl)=fJ (T.set i l):=by simp[fJ,List.map_set]
 rw[e] at this
 exact this
theorem DB {b:Nat} {ids:List Nat} {T:gx} {H:Hp} (h:lp b ids T H) {i:Nat} (hi:i<T.length) {n:Nat} (hn:n=(T.getD i []).length):(gE ids (fJ T)).set i (.sl (ids.getD i 0) n)=gE ids (fJ T):=by
 have hi':i<(fJ T).length:=by rw[dC];exact hi
 have h1:i<(gE ids (fJ T)).length:=by rw[h.len];exact hi'
 have h2:=h.get hi' .any
 rw[eZ hi,List.length_map] at h2
 rw[hn,<-h2,gd h1]
 exact List.set_getElem_self h1
instance OU (n:Int):Decidable (jE n):=inferInstanceAs (Decidable (_/\_))
def P0:Node:=⟨1,0,0,0,⟨false,0,1⟩,default,1,0,0⟩
def PN:Node:=⟨1,0,0,0,⟨false,0,2⟩,default,2,0,1⟩
def PO:Node:=⟨7,0,0,0,⟨true,0,0⟩,default,3,0,2⟩
def PQ:Node:=⟨9,0,0,0,default,default,0,0,3⟩
def nG:br:=⟨⟨(List.toArray [97])⟩,0,1,[P0,PN,PO,PQ]⟩
def qa:br:=⟨⟨(List.toArray [97])⟩,0,1,[{ PN with next:=1 },{ PO with next:=2 },PQ]⟩
def sk:bq:=⟨[],[],[nG]⟩
def JH:bq:=⟨[],[],[qa]⟩
theorem lB:cX sk:=⟨by decide+kernel,fun g hg=>by
 simp only[sk,List.mem_cons,List.not_mem_nil,or_false] at hg
 subst hg
 exact kI.1 (by decide+kernel)⟩
theorem uc:cX JH:=⟨by decide+kernel,fun g hg=>by
 simp only[JH,List.mem_cons,List.not_mem_nil,or_false] at hg
 subst hg
 exact kI.1 (by decide+kernel)⟩
theorem u6 {g:br} (h:∀i,i<g.nodes.length->fw g (-1) (i:Int)):cj g (-1)=List.replicate g.nodes.length true:=by
 apply List.ext_getElem (by rw[dW,List.length_replicate])
 intro i h1 h2
 have hi:i<g.nodes.length:=by rw[<-dW g (-1)];exact h1
 have e2:(cj g (-1))[i]=(cj g (-1)).getD i false:=by simp[List.getD,h1]
 rw[e2,(nz g (-1) hi).2 (h i hi)];simp
theorem ky:cj nG (-1)=[true,true,true,true]:=by
 have c0:fw nG (-1) 0:= .zero
 have c1:fw nG (-1) 1:= .step c0 (by decide) (by decide)
 have c2:fw nG (-1) 2:= .step c1 (by decide) (by decide)
 have c3:fw nG (-1) 3:= .step c2 (by decide) (by decide)
 exact u6 (g:=nG) fun i hi=>match i,hi with
  |0,_=>c0
  |1,_=>c1
  |2,_=>c2
  |3,_=>c3
theorem my:cj qa (-1)=[true,true,true]:=by
 have c0:fw qa (-1) 0:= .zero
 have c1:fw qa (-1) 1:= .step c0 (by decide) (by decide)
 have c2:fw qa (-1) 2:= .step c1 (by decide) (by decide)
 exact u6 (g:=qa) fun i hi=>match i,hi with
  |0,_=>c0
  |1,_=>c1
  |2,_=>c2
theorem mQ:eN nG=[[false],[false],[true],[false]]:=by
 have hw:Whole nG:=(lB.bo nG (by simp[sk])).whole
 refine(jR.fin hw (T:=[[false],[false],[true],[false]]) ⟨⟨rfl,by decide+kernel⟩,fun i k h=> ?_⟩ (fun i k hi hk=>(by decide+kernel:∀i,i<nG.nodes.length->∀k,k<nG.cZ.toNat->eY nG eM fN [[false],[false],[true],[false]] i k=true->dj [[false],[false],[true],[false]] i k=true) i hi k hk)).symm
 match i,k,h with
 |2,0,_=>exact .jJ (by decide+kernel)
 |0,0,h=>exact absurd h (by decide)
 |1,0,h=>exact absurd h (by decide)
 |3,0,h=>exact absurd h (by decide)
 |0,k+1,h=>exact absurd h (by simp[dj])
 |1,k+1,h=>exact absurd h (by simp[dj])
 |2,k+1,h=>exact absurd h (by simp[dj])
 |3,k+1,h=>exact absurd h (by simp[dj])
 |i+4,k,h=>exact absurd h (by simp[dj])
theorem sC:eN qa=[[false],[true],[false]]:=by
 have hw:Whole qa:=(uc.bo qa (by simp[JH])).whole
 refine(jR.fin hw (T:=[[false],[true],[false]]) ⟨⟨rfl,by decide+kernel⟩,fun i k h=> ?_⟩ (fun i k hi hk=>(by decide+kernel:∀i,i<qa.nodes.length->∀k,k<qa.cZ.toNat->eY qa eM fN [[false],[true],[false]] i k=true->dj [[false],[true],[false]] i k=true) i hi k hk)).symm
 match i,k,h with
 |1,0,_=>exact .jJ (by decide+kernel)
 |0,0,h=>exact absurd h (by decide)
 |2,0,h=>exact absurd h (by decide)
 |0,k+1,h=>exact absurd h (by simp[dj])
 |1,k+1,h=>exact absurd h (by simp[dj])
 |2,k+1,h=>exact absurd h (by simp[dj])
 |i+3,k,h=>exact absurd h (by simp[dj])
theorem CJ {l:List Bool} {g:br} (h:∀i,tf l i=false):dE l g=List.replicate l.length false:=by
 apply List.ext_getElem (by rw[fY,List.length_replicate])
 intro i h1 h2
 have e:(dE l g)[i]=tf (dE l g) i:=by simp[tf,List.getD,h1]
 rw[e]
 cases hb:tf (dE l g) i with
 |false=>simp
 |true=>have:=(gC.1 hb).1;rw[h i] at this;cases this
theorem JA:kS nG [] 0=[true,false,false,false]:=by
 have e0:dJ nG [] 0 0=true:=by unfold dJ;rw[ky,mQ];rfl
 have e1:dJ nG [] 0 1=false:=by unfold dJ;rw[ky,mQ];rfl
 have e2:dJ nG [] 0 2=false:=by unfold dJ;rw[ky,mQ];rfl
 have e3:dJ nG [] 0 3=false:=by unfold dJ;rw[ky,mQ];rfl
 show[dJ nG [] 0 0,dJ nG [] 0 1,dJ nG [] 0 2,dJ nG [] 0 3]=_
 rw[e0,e1,e2,e3]
theorem wi:eR nG [] 0=[true,false,false,false]:=by
 unfold eR
 rw[JA]
 have hn:¬BH [true,false,false,false] nG 0:=by
  rintro⟨p,h1,h2,h3⟩
  by_cases e:p=1
  ·subst e;exact absurd h2 (by decide)
  ·exact absurd (h3 1 (by omega)) (by decide)
 have key:∀i,tf (dE [true,false,false,false] nG) i=tf [true,false,false,false] i:=fun i=>by
  rw[Bool.eq_iff_iff,gC]
  refine⟨fun h=>h.1,fun h=>⟨h, ?_⟩⟩
  match i,h with
  |0,_=>exact hn
  |1,h=>exact absurd h (by decide)
  |2,h=>exact absurd h (by decide)
  |3,h=>exact absurd h (by decide)
  |i+4,h=>exact absurd h (by simp[tf])
 exact kL false (by rw[fY]) fun j _=>key j
theorem IQ:fj nG [] 0=qa:=by
 have ho:ca nG [true,false,false,false]=[1,2,3]:=by unfold ca;rw[ky];decide+kernel
 unfold fj
 rw[wi,ho]
 decide+kernel
theorem JB:kS qa [] 0=[false,false,false]:=by
 have e0:dJ qa [] 0 0=false:=by unfold dJ;rw[my,sC];rfl
 have e1:dJ qa [] 0 1=false:=by unfold dJ;rw[my,sC];rfl
 have e2:dJ qa [] 0 2=false:=by unfold dJ;rw[my,sC];rfl
 show[dJ qa [] 0 0,dJ qa [] 0 1,dJ qa [] 0 2]=_
 rw[e0,e1,e2]
theorem IS:fj qa [] 0=qa:=by
 have hi:eR qa [] 0=[false,false,false]:=by
  unfold eR
  rw[JB]
  refine CJ fun i=> ?_
  match i with
  |0=>rfl
  |1=>rfl
  |2=>rfl
  |i+3=>simp[tf]
 have ho:ca qa [false,false,false]=[0,1,2]:=by unfold ca;rw[my];decide+kernel
 unfold fj
 rw[hi,ho]
 decide+kernel
theorem IN:dA sk=JH:=by
 show({ sk with bo:=[fj nG [] 0] }:bq)=JH
 rw[IQ];rfl
theorem IP:dA JH=JH:=by
 show({ JH with bo:=[fj qa [] 0] }:bq)=JH
 rw[IS];rfl
theorem JD:gF sk=JH:=by
 rw[nA lB,IN]
 exact lZ uc IP
theorem JI:sk.Wf:=by
 refine⟨fun _ h=>by simp[sk] at h,by simp[sk],fun _ h=>by simp[sk] at h,by simp[sk],fun g hg=> ?_,by simp[sk]⟩
 simp only[sk,List.mem_cons,List.not_mem_nil,or_false] at hg
 subst hg
 refine⟨by decide+kernel,by decide+kernel,by decide+kernel,fun n hn=> ?_,by decide+kernel⟩
 simp only[nG,List.mem_cons,List.not_mem_nil,or_false] at hn
 rcases hn with rfl|rfl|rfl|rfl<;>exact⟨by decide+kernel,by decide+kernel,by decide+kernel,by decide+kernel,⟨by decide+kernel,by decide+kernel⟩,⟨by decide+kernel,by decide+kernel⟩,by decide+kernel,by decide+kernel,by decide+kernel⟩
theorem yY (l m:List Bool) (hl:l.length<=4096) (hm:m.length<=4096):Pure Tryz.prog 11 [fE l,fE m] (fun r=>r=bl (decide (l=m))):=by
 refine aG CP rfl ?_
 unfold fE
 repeat' (first|refine aQ ?_|exact aC|with_reducible refine aB ?_ ?_|(apply aA;(·exact bp))|refine aH ?_|((with_reducible refine aE ?_ ?_)<;>intro hc<;>try(exfalso;omega)))
 ·refine cn (Eq.symm ?_)
  exact decide_eq_false fun e=>hc (by rw[e])
 ·have hlm:l.length=m.length:=by omega
  refine aF (fun i:Nat=>[(0,fE l),(1,fE m),(5,i64 i)])
   (fun i H n=>i<=l.length/\∀j,j<i->l.getD j false=m.getD j false) (fun i=>l.length - i) 0 bu ⟨Nat.zero_le _,fun _ h=>by omega⟩ ?_
  unfold fE
  rintro i H n ⟨hi,hall⟩
  by_cases hil:i<l.length
  ·have e1:=fun d=>gS (l:=l) hil d
   have e2:=fun d=>gS (l:=m) (k:=i) (by omega) d
   repeat' (first|refine aQ ?_|exact aC|with_reducible refine aB ?_ ?_|(apply aA;(·(first|exact e1 _|exact e2 _|exact bp)))|refine aH ?_|((with_reducible refine aE ?_ ?_)<;>intro hc<;>try(exfalso;omega)))
   ·refine cn (Eq.symm ?_)
    refine decide_eq_false fun e=> ?_
    rw[e] at hc
    simp at hc
   ·refine⟨i+1,by omega,bu,by omega,fun j hj=> ?_⟩
    by_cases hji:j=i
    ·subst hji;simpa using hc
    ·exact hall j (by omega)
  ·have:i=l.length:=by omega
   subst this
   repeat' (first|refine aQ ?_|exact aC|with_reducible refine aB ?_ ?_|(apply aA;(·exact bp))|refine aH ?_|((with_reducible refine aE ?_ ?_)<;>intro hc<;>try(exfalso;omega)))
   refine cn (Eq.symm ?_)
   exact decide_eq_true (kL false hlm hall)
theorem AE:Pure Tryz.prog 34 [] (fun r=>r=sk.av):=by
 have h:Pure Tryz.prog 34 [] (fun r=>r= .agg [.sc (.slice none 0 0), .sc (.slice none 0 0),fR [nG]]):=by
  refine cV ?_ (by rw[cJ,cL,cL,cL,cL];exact⟨by simp[cJ],by simp[cJ],by rw[cJ];exact lP _,trivial⟩)
  refine aI F7 rfl ?_
  repeat' (first|refine aQ ?_|exact aC|with_reducible refine aB ?_ ?_|(apply aA;(·exact bp))|refine aH ?_|((with_reducible refine aE ?_ ?_)<;>intro hc<;>try(exfalso;omega)))
  exact⟨by kernel_rfl⟩
 refine mw (u:= .agg [.sc (.slice none 0 0), .sc (.slice none 0 0),fR [nG]]) (h.mono fun r hr=> .inl hr) (gA _) fun c=> ?_
 refine dD.dk.agg (.cons ?_ (.cons ?_ (.cons (fun _ h=>h) .nil)))
 ·exact dD.dk.mV c c 3 .any
 ·exact dD.dk.mV c c 3 .any
theorem yX (l m:List Bool) (hl:l.length<=4096) (hm:m.length<=4096) {b:Nat} {H:Hp} {nx:Nat} {e:TypeId} {d:AV} (hb:bk H b=some (.row e 1 d (m.map bl))):kW Tryz.prog 11 [fE l, .sl b m.length] H nx (bl (decide (l=m))):=by
 refine Pure.view (args2:=[fE l,fE m]) (yY l m hl hm) ?_ (by simp[cL,cJ,fE,cK]) trivial ⟨rfl,fun _ _=>rfl⟩
 rw[List.map_cons,List.map_cons,List.map_nil,dB 6 (by simp[cJ,fE,cK]),dM hb (by simp),cf _ (jd _ _)]
 rfl
theorem vy {b:Nat} {H:Hp} {nx:Nat} {e:TypeId} {d:AV} (hb:bk H b=some (.row e 1 d [bl true,bl false,bl false,bl false])):kW Tryz.prog 11 [fE [true,false,false,false], .sl b 4] H nx (bl true):=
 yX [true,false,false,false] [true,false,false,false] (by decide) (by decide) hb
set_option maxRecDepth 4000 in
set_option maxHeartbeats 4000000 in
theorem vv:Pure Tryz.prog 13 [] (fun r=>r=bl true):=by
 have hcl:ck sk=[]:=rfl
 have h1:Pure Tryz.prog 7 [sk.av,i64 0] (fun r=>r= .dK [fE [true,false,false,false],i64 0]):=by
  have:=BA sk JI 0
  unfold zE at this
  rw[if_pos (cR.2 lB),if_neg (by decide),hcl,show sk.gr (0:Int).toNat=nG from rfl,show(0:Int).toNat=0 from rfl,wi] at this
  exact this
 have h2:Pure Tryz.prog 15 [sk.av] (fun r=>r= .dK [JH.av,i64 0]):=by
  have:=pk sk JI lB
  rw[JD] at this
  exact this
 have h3:Pure Tryz.prog 17 [sk.av,i64 0] (fun r=>r= .dK [.im 1 .any ([[false],[false],[true],[false]].map fE),i64 0]):=by
  have:=tR sk JI 0
  unfold qU at this
  rw[if_pos (cR.2 lB),if_neg (by decide),show sk.gr (0:Int).toNat=nG from rfl,mQ] at this
  exact this
 have h0:=AE
 refine aG FU rfl ?_
 repeat' (first|refine aQ ?_|exact cP|with_reducible refine aB ?_ ?_|((with_reducible refine Ask.mk ?_);first|exact bx|exact bt|(intro h;simp_all[bq.cells,br.cells,Node.cells]<;>fail)|(simp_all[bq.cells,br.cells,Node.cells]<;>fail))|(apply aA;(·(first|exact rfl|exact bp)))|refine aK (h0) ?_|refine aK (h1) ?_|refine aK (h2) ?_|refine aK (h3) ?_|((refine aS (vy (by exact bm)) ?_ ?_);(·exact True.intro))|((refine aR (fun _=>vy (by exact bm)) ?_ ?_);(·exact True.intro))|refine aH ?_|((with_reducible refine aE ?_ ?_)<;>intro hc<;>try(exfalso;omega)))
 all_goals first|exact⟨⟨by decide+kernel,by decide+kernel⟩⟩|exact rfl
def zN:Node:=⟨0,0,0,0,⟨false,0,0⟩,⟨false,0,0⟩,0,0,0⟩
structure BF (S G i:Nat) (v:bq):Prop where
 sl:v.shared.length=S
 gl:v.bo.length=G
 wI:∀q,i<=q->q<G->(v.gr q).nodes.length<=4096
theorem BF.put {S G i:Nat} {v:bq} (h:BF S G i v) {t j:Nat} (ht:t<G) (ns:List Node) (hij:i<=j) (hj:t<j\/ns.length<=4096):BF S G j (v.put t ns):=by
 refine⟨h.sl,(A3 v t ns).trans h.gl,fun q h1 h2=> ?_⟩
 rw[zZ (by rw[h.gl];exact ht)]
 by_cases e:t=q
 ·rw[if_pos e]
  rcases hj with hj|hj
  ·omega
  ·exact hj
 ·rw[if_neg e];exact h.wI q (by omega) h2
theorem map_set {α:Type} (f:α->AV) (l:List α) (k:Nat) (a:α):(l.map f).set k (f a)=(l.set k a).map f:=by rw[List.map_set]
theorem IT (u:bq) (hr:cX u):BF (gF u).shared.length (gF u).bo.length 0 (gF u):=by
 have h:=(nB (P:=fun _=>True) hr trivial fun _ _ _=>trivial).1
 exact⟨rfl,rfl,fun q _ hq=>(h.gr hq).len.2⟩
set_option maxHeartbeats 8000000 in
theorem vB (u:bq) (hu:u.Wf) (t:Int) (ht:jE t) (s1:Pure Tryz.prog 16 [u.av] (fun r=>r=jX u (gF u))) (s2:Pure Tryz.prog 18 [u.av,i64 t] (fun r=>r=qU u t (eN (u.gr t.toNat))))
 (s3:∀T:gx,T.length<=5000->(∀i,(T.getD i []).length<=5000)->Pure Tryz.prog 19 [.im 1 .any (T.map fE), .im 1 .any (T.map fE)] (fun r=>r=bl true)) (s4:∀v:bq,v.Wf->Pure Tryz.prog 12 [v.av,v.av] (fun r=>r=bl true)):Pure Tryz.prog 5 [u.av,i64 t] (fun r=>r=bl true):=by
 have c0:=vv
 refine cV ?_ (by simp[cJ])
 refine aI OC rfl ?_
 refine gG ?_
 have s0:=yT u hu
 have s5:=tR u hu t
 by_cases hr:cX u
 ·have s6:=s4 (gF u) (nB (P:=bq.Wf) hr hu fun v h1 h2=>jF h2 h1).2
  unfold jX at s0 s1
  rw[if_pos (cR.2 hr)] at s0 s1
  unfold qU at s2 s5
  rw[if_pos (cR.2 hr)] at s2 s5
  refine aJ (yS u hu hr _ _) ?_
  rintro _ H1 n1 ⟨sh,lk,gr,ids,rfl,hU,hin,hn1,hk1⟩
  have hn1':1<=n1:=Nat.le_trans cI hn1
  have hO:=IT u hr
  have hG:(gF u).bo.length<=8:=((nB (P:=fun _=>True) hr trivial fun _ _ _=>trivial).1).wI.2.2
  have hS:(gF u).shared.length<=64:=((nB (P:=fun _=>True) hr trivial fun _ _ _=>trivial).1).wI.1
  generalize gF u=v0 at *
  have q0:bk H1 0=some (.row 25 3 .any [u.av]):=(hk1 0 cI).trans bm
  have hin:∀x∈sh::lk::gr::ids,1<=x/\x<n1:=fun x hx=>⟨Nat.le_trans cI (hin x hx).1,(hin x hx).2⟩
  refine gG ?_
  refine aF (fun i:Nat=>[(1,i64 t),(2, .pt 0 1 0 0),(5, .pt (n1+3) 1 0 0),(6,i64 0),(7,i64 i)])
   (fun i H n=>i<=v0.bo.length/\n1+4<=n/\(∃d,bk H 0=some (.row 25 3 d [u.av]))/\(∃d,bk H (n1+3)=some (.row 25 3 d [nV sh lk gr v0]))/\∃v,BF v0.shared.length v0.bo.length i v/\qe sh lk gr ids v H) (fun i=>v0.bo.length - i) 0 bu
   ⟨Nat.zero_le _,cI,⟨_,Eq.trans bw q0⟩,⟨_,bm⟩,v0,hO,hU.cH fun x hx=> ?_⟩ ?_
  ·have:=hin x hx;exact bw
  clear hU hk1 q0 hO
  rintro i H n ⟨hi,hn,⟨d0,q0⟩,⟨d3,q3⟩,v,hO,hU⟩
  have hgl:=hO.gl
  have a0:(fQ ids v.bo).length=v0.bo.length:=by rw[gV hU.len,hgl]
  obtain⟨dg,qg⟩:=hU.gr
  have hgr:=hin gr (by simp)
  by_cases hil:i<v0.bo.length
  ·have hiv:i<v.bo.length:=by rw[hgl];exact hil
   have hx:=hin (ids.getD i 0) (by simp only[List.mem_cons];exact .inr (.inr (.inr (dP (by rw[hU.len];exact hiv)))))
   have hfew:=hO.wI i (Nat.le_refl _) hil
   have e0:∀d,(fQ ids v.bo).getD ((i:Int)).toNat d=iM (ids.getD i 0) (v.gr i):=fun d=>by rw[Int.toNat_natCast];exact kj hU.len hiv d
   obtain⟨dx,qx⟩:=hU.LM i hiv
   obtain⟨m1,m2,m3,m4,m5,m6⟩:=hU.ne hiv
   refine gG ?_
   generalize hM:(v.gr i).nodes.length=M at *
   refine aF (fun k:Nat=>[(1,i64 t),(2, .pt 0 1 0 0),(5, .pt (n1+3) 1 0 0),(6,i64 0),(7,i64 i),(8,i64 k)])
    (fun k H n=>k<=M/\n1+4<=n/\(∃d,bk H 0=some (.row 25 3 d [u.av]))/\(∃d,bk H (n1+3)=some (.row 25 3 d [nV sh lk gr v0]))/\∃v,BF v0.shared.length v0.bo.length i v/\qe sh lk gr ids v H/\(v.gr i).nodes.length=M) (fun k=>M - k) 0 bu
    ⟨Nat.zero_le _,cI,⟨_,bm⟩,⟨_,bm⟩,v,hO,hU.cH fun x hx=> ?_,hM⟩ ?_
   ·have:=hin x hx;exact bw
   clear qx dx e0 m1 m2 m3 m4 m5 m6 qg dg a0 q0 q3 d0 d3 hU hO hM hgl hiv hn
   clear v
   rintro k H n ⟨hk,hn,⟨d0,q0⟩,⟨d3,q3⟩,v,hO,hU,hM⟩
   have hgl:=hO.gl
   have hiv:i<v.bo.length:=by rw[hgl];exact hil
   have a0:(fQ ids v.bo).length=v0.bo.length:=by rw[gV hU.len,hgl]
   obtain⟨dg,qg⟩:=hU.gr
   obtain⟨dx,qx⟩:=hU.LM i hiv
   obtain⟨m1,m2,m3,m4,m5,m6⟩:=hU.ne hiv
   have e0:∀d,(fQ ids v.bo).getD ((i:Int)).toNat d=iM (ids.getD i 0) (v.gr i):=fun d=>by rw[Int.toNat_natCast];exact kj hU.len hiv d
   by_cases hkM:k<M
   ·have a1:((v.gr i).nodes.map Node.av).length=M:=by rw[List.length_map,hM]
    have hsame:=B2 hU.len hiv ((v.gr i).nodes.set k zN) (by rw[List.length_set])
    have hset:=map_set Node.av (v.gr i).nodes k zN
    refine gG ?_
    refine⟨k+1,by omega,bu,by omega,cI,⟨_,bm⟩,⟨_,bm⟩,v.put i ((v.gr i).nodes.set k zN),hO.put hil _ (Nat.le_refl _) (.inr (by rw[List.length_set,hM];exact hfew)),hU.put hiv _ (fun x hx h1 h2=>bw) ⟨_,by rw[<-hset];exact bm⟩ ⟨_,by rw[show(fQ ids v.bo).set i (iM (ids.getD i 0) { v.gr i with nodes:=(v.gr i).nodes.set k zN })=fQ ids v.bo from hsame];exact bm⟩, ?_⟩
    rw[zZ hiv,if_pos rfl]
    show((v.gr i).nodes.set k zN).length=M
    rw[List.length_set,hM]
   ·obtain rfl:k=M:=by omega
    have a1:((v.gr i).nodes.map Node.av).length=k:=by rw[List.length_map,hM]
    have a2:((v.gr i).nodes.length+2) * 96<=jB:=by unfold jB;omega
    have hcell:iM (ids.getD i 0) { v.gr i with nodes:=(v.gr i).nodes++[zN,zN] }= .agg [st (v.gr i).name,i64 (v.gr i).locals,i64 (v.gr i).cZ, .sl (ids.getD i 0) ((v.gr i).nodes.length+2)]:=by simp
    refine gG ?_
    refine⟨i+1,by omega,bu,by omega,cI,⟨_,bm⟩,⟨_,bm⟩,v.put i ((v.gr i).nodes++[zN,zN]),hO.put hil _ (Nat.le_succ _) (.inl (Nat.lt_succ_self _)),hU.put hiv _ (fun x hx h1 h2=> ?_) ⟨_,by rw[List.map_append];exact bm⟩ ⟨_,by rw[hcell];exact bm⟩⟩
    have:=hin x hx
    exact bw
  ·obtain rfl:i=v0.bo.length:=by omega
   have hsl:=hO.sl
   refine gG ?_
   refine aF (fun i:Nat=>[(1,i64 t),(2, .pt 0 1 0 0),(5, .pt (n1+3) 1 0 0),(6,i64 0),(9,i64 i)])
    (fun i H n=>i<=v0.shared.length/\n1+4<=n/\(∃d,bk H 0=some (.row 25 3 d [u.av]))/\(∃d,bk H (n1+3)=some (.row 25 3 d [nV sh lk gr v0]))/\∃ds:List Decl,ds.length=v0.shared.length/\∃d,bk H sh=some (.row 48 3 d (ds.map Decl.av))) (fun i=>v0.shared.length - i) 0 bu
    ⟨Nat.zero_le _,cI,⟨_,bm⟩,⟨_,bm⟩,v.shared,hsl, ?_⟩ ?_
   ·obtain⟨d,h⟩:=hU.sh
    have:=hin sh (by simp)
    exact⟨d,Eq.trans bw h⟩
   have hsh:=hin sh (by simp)
   clear qg dg a0 q0 q3 d0 d3 hU hO hgl hsl hn hi
   clear v
   rintro i H n ⟨hi,hn,⟨d0,q0⟩,⟨d3,q3⟩,ds,hds,dd,qd⟩
   have a0:(ds.map Decl.av).length=v0.shared.length:=by rw[List.length_map,hds]
   by_cases hil:i<v0.shared.length
   ·have e0:∀d,(ds.map Decl.av).getD ((i:Int)).toNat d=(ds.getD i default).av:=fun d=>by rw[Int.toNat_natCast];exact dG Decl.av ds i d (by omega)
    have hset:=map_set Decl.av ds i { ds.getD i default with name:=⟨(List.toArray [103,111,110,101])⟩ }
    refine gG ?_
    refine⟨i+1,by omega,bu,by omega,cI,⟨_,bm⟩,⟨_,bm⟩,ds.set i { ds.getD i default with name:=⟨(List.toArray [103,111,110,101])⟩ },by rw[List.length_set];exact hds,_,by rw[<-hset];exact bm⟩
   ·obtain rfl:i=v0.shared.length:=by omega
    clear c0
    by_cases htr:t<0\/(u.bo.length:Int)<=t
    ·rw[if_pos htr] at s2 s5
     have c0:=s5
     refine gG ?_
     refine aV ?_
     clear c0
     have c0:=s0
     have c1:=s1
     have c2:=s2
     have c3:=s5
     have c4:=s6
     have c5:=s3 [] (by simp) (by simp)
     simp only[List.map_nil] at c5
     refine gG ?_
     first|exact⟨rfl⟩|trivial
    ·rw[if_neg htr] at s2 s5
     obtain⟨k,rfl⟩:∃k:Nat,t=k:=⟨t.toNat,by omega⟩
     have hk:k<u.bo.length:=by omega
     rw[Int.toNat_natCast] at s2 s5
     refine gG ?_
     refine aJ (BB u hu hr k hk _ _) ?_
     rintro _ H1 n2 ⟨b,jds,rfl,hT,hjn,hn2,hk2⟩
     have q0':∃d,bk H1 0=some (.row 25 3 d [u.av]):=⟨_,(hk2 0 cI).trans (Eq.trans bw q0)⟩
     have hjn:∀x∈b::jds,1<=x/\x<n2:=fun x hx=>⟨Nat.le_trans cI (hjn x hx).1,(hjn x hx).2⟩
     clear q0 d0 q3 d3 qd dd a0 hk2
     have hsh4:=gZ (u.gr k) eM fN (u.gr k).cZ.toNat
     have hTl:(eN (u.gr k)).length<=4096:=by
      have:=(hr.gr hk).len.2
      rw[show(eN (u.gr k)).length=(u.gr k).nodes.length from hsh4.len];exact this
     have hTw:∀q,((eN (u.gr k)).getD q []).length<=4160:=fun q=>by
      by_cases hq:q<(u.gr k).nodes.length
      ·have e:=hsh4.row q hq
       have:=(hr.gr hk).cZ.2
       rw[show((eN (u.gr k)).getD q []).length=(u.gr k).cZ.toNat from e];omega
      ·rw[List.getD,List.getElem?_eq_none (by rw[show(eN (u.gr k)).length=(u.gr k).nodes.length from hsh4.len];omega)];simp
     have c5:=s3 (eN (u.gr k)) (by omega) (fun i=>by have:=hTw i;omega)
     clear hsh4
     generalize eN (u.gr k)=T0 at *
     refine gG ?_
     refine aF (fun i:Nat=>[(1,i64 k),(2, .pt 0 1 0 0),(6,i64 0),(10, .sl b T0.length),(12,i64 i)])
      (fun i H n=>i<=T0.length/\n2<=n/\(∃d,bk H 0=some (.row 25 3 d [u.av]))/\∃T:gx,T.length=T0.length/\(∀q,i<=q->(T.getD q []).length<=4160)/\lp b jds T H) (fun i=>T0.length - i) 0 bu
      ⟨Nat.zero_le _,cI,⟨_,Eq.trans bw q0'.choose_spec⟩,T0,rfl,fun q _=>hTw q,hT.cH fun x hx=>bw⟩ ?_
     clear hT q0'
     rintro i H n ⟨hi,hn,⟨d0,q0⟩,T,hTl2,hTw2,hT⟩
     have a0:(gE jds (fJ T)).length=T0.length:=by rw[hT.len,dC,hTl2]
     obtain⟨db,qb⟩:=hT.row
     have hb:=hjn b (by simp)
     by_cases hil:i<T0.length
     ·have hiT:i<T.length:=by omega
      have hiS:i<(fJ T).length:=by rw[dC];exact hiT
      have hx:=hjn (jds.getD i 0) (List.mem_cons_of_mem _ (dP (by rw[hT.lens];exact hiS)))
      have hfew:=hTw2 i (Nat.le_refl _)
      have e0:∀d,(gE jds (fJ T)).getD ((i:Int)).toNat d= .sl (jds.getD i 0) (T.getD i []).length:=fun d=>by
       rw[Int.toNat_natCast,hT.get hiS d,eZ hiT,List.length_map]
      refine gG ?_
      generalize hM:(T.getD i []).length=M at *
      refine aF (fun j:Nat=>[(1,i64 k),(2, .pt 0 1 0 0),(6,i64 0),(10, .sl b T0.length),(12,i64 i),(13,i64 j)])
       (fun j H n=>j<=M/\n2<=n/\(∃d,bk H 0=some (.row 25 3 d [u.av]))/\∃T:gx,T.length=T0.length/\(∀q,i<=q->(T.getD q []).length<=4160)/\lp b jds T H/\(T.getD i []).length=M) (fun j=>M - j) 0 bu
       ⟨Nat.zero_le _,cI,⟨_,bm⟩,T,hTl2,hTw2,hT.cH fun x hx=>bw,hM⟩ ?_
      clear e0 hT hTw2 hTl2 a0 qb db q0 d0 hM hiT hiS hn
      clear T
      rintro j H n ⟨hj,hn,⟨d0,q0⟩,T,hTl2,hTw2,hT,hM⟩
      have a0:(gE jds (fJ T)).length=T0.length:=by rw[hT.len,dC,hTl2]
      have hiT:i<T.length:=by omega
      have hiS:i<(fJ T).length:=by rw[dC];exact hiT
      obtain⟨db,qb⟩:=hT.row
      obtain⟨dx,qx⟩:=hT.qs i hiS
      rw[eZ hiT] at qx
      have m1:=hT.ne hiS
      have a1:((T.getD i []).map bl).length=M:=by rw[List.length_map,hM]
      have e0:∀d,(gE jds (fJ T)).getD ((i:Int)).toNat d= .sl (jds.getD i 0) (T.getD i []).length:=fun d=>by
       rw[Int.toNat_natCast,hT.get hiS d,eZ hiT,List.length_map]
      by_cases hjM:j<M
      ·have e1:∀d,((T.getD i []).map bl).getD ((j:Int)).toNat d=bl ((T.getD i []).getD j false):=fun d=>gS (by rw[hM];exact hjM) d
       have hset:=iK (l:=T.getD i []) (k:=j) (!(T.getD i []).getD j false)
       have hsame:=DB hT hiT (n:=((T.getD i []).set j (!(T.getD i []).getD j false)).length) (by rw[List.length_set])
       refine gG ?_
       refine⟨j+1,by omega,bu,by omega,cI,⟨_,bm⟩,T.set i ((T.getD i []).set j (!(T.getD i []).getD j false)),by rw[List.length_set];exact hTl2,fun q hq=> ?_,hT.OM hiT _ ⟨_,by rw[hsame];exact bm⟩ ⟨_,by rw[<-hset];exact bm⟩ (fun x hx h1 h2=>bw), ?_⟩
       ·rw[cw]
        split
        ·rw[List.length_set];omega
        ·exact hTw2 q hq
       ·rw[cw,if_pos ⟨rfl,hiT⟩,List.length_set,hM]
      ·obtain rfl:j=M:=by omega
       have a2:((T.getD i []).length+2) * 1<=jB:=by unfold jB;omega
       have hlen:(T.getD i []++[true,true]).length=(T.getD i []).length+2:=by simp
       refine gG ?_
       refine⟨i+1,by omega,bu,by omega,cI,⟨_,bm⟩,T.set i (T.getD i []++[true,true]),by rw[List.length_set];exact hTl2,fun q hq=> ?_,hT.OM hiT _ ⟨_,by rw[hlen];exact bm⟩ ⟨_,by rw[List.map_append];exact bm⟩ (fun x hx h1 h2=> ?_)⟩
       ·rw[cw,if_neg (fun e=>by omega)]
        exact hTw2 q (by omega)
       ·have:=hjn x (List.mem_cons_of_mem _ hx)
        exact bw
     ·obtain rfl:i=T0.length:=by omega
      clear c5
      have c0:=s0
      have c1:=s1
      have c2:=s2
      have c3:=s5
      have c4:=s6
      have s7:=s3 T0 (by omega) (fun i=>by have:=hTw i;omega)
      refine gG ?_
      refine aM s7 (by simp only[cL,cJ];exact⟨oQ _,oQ _,trivial⟩) ?_
      refine gG ?_
      first|exact⟨rfl⟩|trivial
 ·unfold jX at s0 s1
  rw[if_neg (mt cR.1 hr)] at s0 s1
  unfold qU at s2 s5
  rw[if_neg (mt cR.1 hr)] at s2 s5
  have s6:=s4 ⟨[],[],[]⟩ ⟨by simp,by simp,by simp,by simp,by simp,by simp⟩
  have s7:=s3 [] (by simp) (by simp)
  simp only[List.map_nil] at s7
  clear c0
  have c0:=s0
  have c1:=s1
  have c2:=s2
  have c3:=s5
  have c4:=s6
  have c5:=s7
  refine gG ?_
  refine aV ?_
  refine gG ?_
  refine aV ?_
  refine gG ?_
  refine aV ?_
  refine gG ?_
  first|exact⟨rfl⟩|trivial
theorem l7.NY {a b:l7} (h1:a.eA=b.eA) (h2:a.slot=b.slot) (h3:a.word=b.word):a=b:=by
 obtain⟨a1,a2,a3⟩:=a
 obtain⟨b1,b2,b3⟩:=b
 simp only at h1 h2 h3
 subst h1;subst h2;subst h3;rfl
theorem eJ (c:Int):Pure Tryz.prog 107 [u8 c] (fun r=>r=bl (fM c)):=by
 refine aG xE rfl ?_
 repeat' (first|refine aQ ?_|exact aC|with_reducible refine aB ?_ ?_|(apply aA;(·exact bp))|refine aH ?_|((with_reducible refine aE ?_ ?_)<;>intro hc<;>try(exfalso;omega)))
 refine cn ?_
 unfold fM
 by_cases h1:48<=c<;>by_cases h2:c<=57<;>simp[h1,h2]
theorem da (c:Int):Pure Tryz.prog 109 [u8 c] (fun r=>r=bl (iN c)):=by
 refine aG xG rfl ?_
 repeat' (first|refine aQ ?_|exact aC|with_reducible refine aB ?_ ?_|(apply aA;(·exact bp))|refine aH ?_|((with_reducible refine aE ?_ ?_)<;>intro hc<;>try(exfalso;omega)))
 refine cn ?_
 unfold iN
 by_cases h1:97<=c<;>by_cases h2:c<=122<;>by_cases h3:65<=c<;>by_cases h4:c<=90<;>by_cases h5:c=95<;>simp[h1,h2,h3,h4,h5]
theorem gY (s:ByteArray):Pure Tryz.prog 108 [st s] (fun r=>r=bl (ll s)):=by
 refine aG xF rfl ?_
 repeat' (first|refine aQ ?_|exact aC|with_reducible refine aB ?_ ?_|(apply aA;(·exact bp))|refine aH ?_|((with_reducible refine aE ?_ ?_)<;>intro hc<;>try(exfalso;omega)))
 all_goals refine cn ?_
 all_goals simp_all[ll,AH]
theorem zn (s:ByteArray) (hs:s.size<=140737488351232):Pure Tryz.prog 92 [st s] (fun r=>r=bl (fg s)):=by
 refine aG HV rfl ?_
 by_cases hz:(s.size:Int)<1
 ·have hb:fg s=false:=by unfold fg;rw[decide_eq_false (by omega)];simp
  rw[hb]
  repeat' (first|refine aQ ?_|exact aC|with_reducible refine aB ?_ ?_|(apply aA;(·exact bp))|((with_reducible refine aM (eJ _) ?_ ?_);(·exact cS))|((with_reducible refine aL (fun _=>eJ _) ?_ ?_);(·exact cS))|((with_reducible refine aN (eJ _) ?_ ?_);(·exact cS))|((with_reducible refine aO (fun _=>eJ _) ?_ ?_);(·exact cS))|((with_reducible refine aM (gY _) ?_ ?_);(·exact cS))|((with_reducible refine aL (fun _=>gY _) ?_ ?_);(·exact cS))|((with_reducible refine aN (gY _) ?_ ?_);(·exact cS))|((with_reducible refine aO (fun _=>gY _) ?_ ?_);(·exact cS))|((with_reducible refine aM (da _) ?_ ?_);(·exact cS))|((with_reducible refine aL (fun _=>da _) ?_ ?_);(·exact cS))|((with_reducible refine aN (da _) ?_ ?_);(·exact cS))|((with_reducible refine aO (fun _=>da _) ?_ ?_);(·exact cS))|(simp only[hz,decide_true])|refine aH ?_|((with_reducible refine aE ?_ ?_)<;>intro hc<;>try(exfalso;omega)))
 ·repeat' (first|refine aQ ?_|exact cP|with_reducible refine aB ?_ ?_|((with_reducible refine Ask.mk ?_);first|exact bx|((refine Ask.mk ?_);intro h;exact⟨by omega,by omega⟩)|exact bt)|(apply aA;(·exact bp))|((with_reducible refine aM (eJ _) ?_ ?_);(·exact cS))|((with_reducible refine aL (fun _=>eJ _) ?_ ?_);(·exact cS))|((with_reducible refine aN (eJ _) ?_ ?_);(·exact cS))|((with_reducible refine aO (fun _=>eJ _) ?_ ?_);(·exact cS))|((with_reducible refine aM (gY _) ?_ ?_);(·exact cS))|((with_reducible refine aL (fun _=>gY _) ?_ ?_);(·exact cS))|((with_reducible refine aN (gY _) ?_ ?_);(·exact cS))|((with_reducible refine aO (fun _=>gY _) ?_ ?_);(·exact cS))|((with_reducible refine aM (da _) ?_ ?_);(·exact cS))|((with_reducible refine aL (fun _=>da _) ?_ ?_);(·exact cS))|((with_reducible refine aN (da _) ?_ ?_);(·exact cS))|((with_reducible refine aO (fun _=>da _) ?_ ?_);(·exact cS))|(simp only[hz,decide_false])|refine aH ?_|((with_reducible refine aE ?_ ?_)<;>intro hc<;>try(exfalso;omega)))
  ·refine cn (Eq.symm ?_)
   unfold fg
   have hp:(decide (1<=s.size)&&decide (s.size<=32)&& !fM (eu s 0)&& !ll s)=false:=by
    rcases hc with((h|h)|h)|h
    ·exact absurd h (by decide)
    ·simp[show ¬s.size<=32 by omega]
    ·have h:fM (eu s 0)=true:=h
     simp[h]
    ·simp[h]
   rw[hp,Bool.false_and]
  ·have hp:(decide (1<=s.size)&&decide (s.size<=32)&& !fM (eu s 0)&& !ll s)=true:=by
    have h1:s.size<=32:=by
     have:¬(32:Int)<s.size:=fun h=>hc.1 (.inl (.inr h))
     omega
    have h2:fM (eu s 0)=false:=by
     cases hd:fM (eu s 0) with
     |false=>rfl
     |true=>exact absurd (.inr hd) hc.1
    have h3:ll s=false:=hc.2
    rw[decide_eq_true (by omega:1<=s.size),decide_eq_true h1,h2,h3];rfl
   have hb:∀R,(decide (1<=s.size)&&decide (s.size<=32)&& !fM (eu s 0)&& !ll s&&R)=R:=fun R=>by rw[hp,Bool.true_and]
   unfold fg
   rw[hb]
   clear hc hp hb
   refine aF (fun i:Nat=>[(0,st s),(3,i64 i)]) (fun i H n=>i<=s.size/\∀j,j<i->(iN (eu s j)||fM (eu s j))=true) (fun i=>s.size - i) 0 bu ⟨Nat.zero_le _,fun _ h=>by omega⟩ ?_
   rintro i H n ⟨hi,hall⟩
   by_cases his:i<s.size
   ·repeat' (first|refine aQ ?_|exact cP|with_reducible refine aB ?_ ?_|((with_reducible refine Ask.mk ?_);first|exact bx|((refine Ask.mk ?_);intro h;exact⟨by omega,by omega⟩)|exact bt)|(apply aA;(·exact bp))|((with_reducible refine aM (eJ _) ?_ ?_);(·exact cS))|((with_reducible refine aL (fun _=>eJ _) ?_ ?_);(·exact cS))|((with_reducible refine aN (eJ _) ?_ ?_);(·exact cS))|((with_reducible refine aO (fun _=>eJ _) ?_ ?_);(·exact cS))|((with_reducible refine aM (da _) ?_ ?_);(·exact cS))|((with_reducible refine aL (fun _=>da _) ?_ ?_);(·exact cS))|((with_reducible refine aN (da _) ?_ ?_);(·exact cS))|((with_reducible refine aO (fun _=>da _) ?_ ?_);(·exact cS))|refine aH ?_|((with_reducible refine aE ?_ ?_)<;>intro hc<;>try(exfalso;omega)))
    ·refine cn (Eq.symm ?_)
     rw[Bool.eq_false_iff,ne_eq,List.all_eq_true]
     intro hA
     have h1:=hA i (List.mem_range.2 his)
     have hc:iN (eu s i)=false/\fM (eu s i)=false:=hc
     rw[hc.1,hc.2] at h1
     cases h1
    ·refine⟨i+1,by omega,bu,by omega,fun j hj=> ?_⟩
     by_cases hji:j=i
     ·have hc:¬iN (eu s i)=false\/fM (eu s i)=true:=hc
      rw[hji]
      rcases hc with h|h
      ·rw[Bool.not_eq_false] at h
       rw[h,Bool.true_or]
      ·rw[h,Bool.or_true]
     ·exact hall j (by omega)
   ·have:i=s.size:=by omega
    subst this
    repeat' (first|refine aQ ?_|exact aC|with_reducible refine aB ?_ ?_|(apply aA;(·exact bp))|refine aH ?_|((with_reducible refine aE ?_ ?_)<;>intro hc<;>try(exfalso;omega)))
    refine cn (Eq.symm ?_)
    rw[List.all_eq_true]
    intro j hj
    exact hall j (List.mem_range.1 hj)
theorem gX (k:Int):Pure Tryz.prog 93 [u8 k] (fun r=>r= .dK [bl (gb k),bl (fp k),bl (lj k),bl (eQ k)]):=by
 refine aG HW rfl ?_
 repeat' (first|refine aQ ?_|exact aC|with_reducible refine aB ?_ ?_|(apply aA;(·exact bp))|refine aH ?_|((with_reducible refine aE ?_ ?_)<;>intro hc<;>try(exfalso;omega)))
 all_goals first
  |(subst hc;exact rfl)
  |(have h1:gb k=false:=decide_eq_false (by omega)
    have h2:fp k=false:=decide_eq_false (by omega)
    have h3:lj k=false:=decide_eq_false (by omega)
    have h4:eQ k=false:=decide_eq_false (by omega)
    rw[h1,h2,h3,h4])
theorem fV (n most:Int) (b:Bool):Pure Tryz.prog 95 [i64 n,bl b,i64 most] (fun r=>r=bl (nq n b most)):=by
 refine aG HY rfl ?_
 cases b with
 |false=>
  repeat' (first|refine aQ ?_|exact aC|with_reducible refine aB ?_ ?_|(apply aA;(·exact bp))|refine aH ?_|((with_reducible refine aE ?_ ?_)<;>intro hc<;>try(exfalso;omega)))
  exact rfl
 |true=>
  repeat' (first|refine aQ ?_|exact aC|with_reducible refine aB ?_ ?_|(apply aA;(·exact bp))|refine aH ?_|((with_reducible refine aE ?_ ?_)<;>intro hc<;>try(exfalso;omega)))
  refine cn ?_
  unfold nq
  by_cases h1:0<=n<;>by_cases h2:n<most<;>simp[h1,h2]
theorem qP (v:l7) (b:Bool) (cZ:Int):Pure Tryz.prog 96 [v.av,bl b,i64 cZ] (fun r=>r=bl (pf v b cZ)):=by
 refine aG HZ rfl ?_
 cases b with
 |false=>
  repeat' (first|refine aQ ?_|exact cP|with_reducible refine aB ?_ ?_|((with_reducible refine Ask.mk ?_);first|exact bx|exact bt|(intro h;simp_all[l7.cells]<;>fail)|(simp_all[l7.cells]<;>fail))|(apply aA;(·exact bp))|refine aH ?_|((with_reducible refine aE ?_ ?_)<;>intro hc<;>try(exfalso;omega)))
  refine cn ?_
  unfold pf
  rw[if_neg (by decide),Bool.eq_iff_iff,decide_eq_true_eq]
  constructor
  ·intro h
   simp at h
   exact l7.NY h.1 h.2.1 h.2.2
  ·intro h
   rw[h];rfl
 |true=>
  repeat' (first|refine aQ ?_|exact cP|with_reducible refine aB ?_ ?_|((with_reducible refine Ask.mk ?_);first|exact bx|exact bt|(intro h;simp_all[l7.cells]<;>fail)|(simp_all[l7.cells]<;>fail))|(apply aA;(·exact bp))|refine aH ?_|((with_reducible refine aE ?_ ?_)<;>intro hc<;>try(exfalso;omega)))
  all_goals refine cn ?_
  all_goals unfold pf
  ·rw[if_pos rfl,if_pos hc]
   by_cases h1:0<=v.slot<;>by_cases h2:v.slot<cZ<;>by_cases h3:v.word=0<;>simp[h1,h2,h3]
  ·rw[if_pos rfl,if_neg (by rw[hc];decide)]
set_option maxRecDepth 4000 in
set_option maxHeartbeats 4000000 in
theorem zo (u:bq) (g:br) (n:Node) (hn:n.Wf):Pure Tryz.prog 56 [u.av,g.av,n.av] (fun r=>r=bl (iW u g n)):=by
 have h0:=hn.kind
 have ho:=hn.op
 refine aG GV rfl ?_
 have hva:Pure Tryz.prog 96 [.agg (List.take 3 (List.drop (0+4) n.cells)),bl (lj n.kind),i64 g.cZ] (fun r=>r=bl (pf n.a (lj n.kind) g.cZ)):=qP n.a _ _
 have hvb:∀b,Pure Tryz.prog 96 [.agg (List.take 3 (List.drop (0+7) n.cells)),bl b,i64 g.cZ] (fun r=>r=bl (pf n.b b g.cZ)):=fun b=>qP n.b b _
 have hfa:cL 0 [.agg (List.take 3 (List.drop (0+4) n.cells)),bl (lj n.kind),i64 g.cZ]:=by simp[cL,cJ,Node.cells]
 have hfb:∀b,cL 0 [.agg (List.take 3 (List.drop (0+7) n.cells)),bl b,i64 g.cZ]:=fun b=>by simp[cL,cJ,Node.cells]
 have hif:∀a b:Bool,(if a=true then b else false)=(a&&b):=fun a b=>by cases a<;>rfl
 by_cases hk:1<=n.kind/\n.kind<10/\0<=n.origin/\n.origin<4096
 ·repeat' (first|refine aQ ?_|exact cP|with_reducible refine aB ?_ ?_|((with_reducible refine Ask.mk ?_);first|exact bx|exact bt|(intro h;simp_all[bq.cells,br.cells,Node.cells]<;>fail)|(simp_all[bq.cells,br.cells,Node.cells]<;>fail))|(apply aA;(·exact bp))|((with_reducible refine aM (gX _) ?_ ?_);(·exact cS))|((with_reducible refine aL (fun _=>gX _) ?_ ?_);(·exact cS))|((with_reducible refine aN (gX _) ?_ ?_);(·exact cS))|((with_reducible refine aO (fun _=>gX _) ?_ ?_);(·exact cS))|((with_reducible refine aM (fV _ _ _) ?_ ?_);(·exact cS))|((with_reducible refine aL (fun _=>fV _ _ _) ?_ ?_);(·exact cS))|((with_reducible refine aN (fV _ _ _) ?_ ?_);(·exact cS))|((with_reducible refine aO (fun _=>fV _ _ _) ?_ ?_);(·exact cS))|((with_reducible refine aM (fP _) ?_ ?_);(·exact cS))|((with_reducible refine aL (fun _=>fP _) ?_ ?_);(·exact cS))|((with_reducible refine aN (fP _) ?_ ?_);(·exact cS))|((with_reducible refine aO (fun _=>fP _) ?_ ?_);(·exact cS))|(refine aL (fun _=>hva) hfa ?_)|(refine aL (fun _=>hvb _) (hfb _) ?_)|refine aH ?_|((with_reducible refine aE ?_ ?_)<;>intro hc<;>try(exfalso;omega)))
  all_goals rename_i h56
  all_goals refine cn (Eq.symm ?_)
  all_goals unfold iW
  all_goals rw[decide_eq_true hk,Bool.true_and]
  ·have hop:(if n.kind=1 then decide (n.op<19) else decide (n.op=0))=false:=by split<;>exact decide_eq_false (by omega)
   rw[hop];simp
  ·have hop:(if n.kind=1 then decide (n.op<19) else decide (n.op=0))=true:=by split<;>exact decide_eq_true (by omega)
   rw[hop,Bool.true_and,if_pos h56]
   simp only[hif,List.length_map]
  ·have hop:(if n.kind=1 then decide (n.op<19) else decide (n.op=0))=false:=by split<;>exact decide_eq_false (by omega)
   rw[hop];simp
  ·have hop:(if n.kind=1 then decide (n.op<19) else decide (n.op=0))=true:=by split<;>exact decide_eq_true (by omega)
   rw[hop,Bool.true_and,if_neg (by omega)]
   simp only[hif,List.length_map]
 ·have hb:iW u g n=false:=by unfold iW;rw[decide_eq_false hk];simp
  rw[hb]
  repeat' (first|refine aQ ?_|exact cP|with_reducible refine aB ?_ ?_|((with_reducible refine Ask.mk ?_);first|exact bx|exact bt|(intro h;simp_all[bq.cells,br.cells,Node.cells]<;>fail)|(simp_all[bq.cells,br.cells,Node.cells]<;>fail))|(apply aA;(·exact bp))|((with_reducible refine aM (gX _) ?_ ?_);(·exact cS))|((with_reducible refine aL (fun _=>gX _) ?_ ?_);(·exact cS))|((with_reducible refine aN (gX _) ?_ ?_);(·exact cS))|((with_reducible refine aO (fun _=>gX _) ?_ ?_);(·exact cS))|((with_reducible refine aM (fV _ _ _) ?_ ?_);(·exact cS))|((with_reducible refine aL (fun _=>fV _ _ _) ?_ ?_);(·exact cS))|((with_reducible refine aN (fV _ _ _) ?_ ?_);(·exact cS))|((with_reducible refine aO (fun _=>fV _ _ _) ?_ ?_);(·exact cS))|((with_reducible refine aM (fP _) ?_ ?_);(·exact cS))|((with_reducible refine aL (fun _=>fP _) ?_ ?_);(·exact cS))|((with_reducible refine aN (fP _) ?_ ?_);(·exact cS))|((with_reducible refine aO (fun _=>fP _) ?_ ?_);(·exact cS))|(refine aL (fun _=>hva) hfa ?_)|(refine aL (fun _=>hvb _) (hfb _) ?_)|refine aH ?_|((with_reducible refine aE ?_ ?_)<;>intro hc<;>try(exfalso;omega)))
  all_goals first|exact rfl|(exfalso;omega)
end Go.Proofs.YtmonponfppdgfaaGreatDoor
