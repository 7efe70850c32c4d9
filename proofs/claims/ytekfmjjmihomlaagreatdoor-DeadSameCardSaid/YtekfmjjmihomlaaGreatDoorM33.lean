import Derived.Test.YtekfmjjmihomlaaGreatDoorM32
namespace Go.Proofs.YtekfmjjmihomlaaGreatDoor
open Go Go.cw Go.Proofs
set_option linter.unusedSimpArgs false
set_option linter.unusedVariables false
section
theorem l8 {g:bu} (hw:Whole g) {i:Int} (h:e8 g (-1) i):0<=i/\i.toNat<g.nodes.length:=by
 induction h with
 |zero=>exact⟨by omega,by have:=hw.1;simp;omega⟩
 |@step i k _ _ hk ih=>exact(hw.2.2 i.toNat ih.2).2.2 k hk
theorem lC {g:bu} {i:Nat} (hi:i<g.nodes.length):ji (dW g (-1)) (i:Int)=true↔e8 g (-1) (i:Int):=by
 unfold ji;rw[Int.toNat_natCast];exact pC g (-1) hi
structure mU (u:bq) (g:bu) (out:List Bool):Prop where
 ok:eJ u g
 len:out.length=g.nodes.length
 ends:Ends out g
 v8:∀i,tf out i=true->i<g.nodes.length/\e8 g (-1) (i:Int)/\((g.nd i).kind=1\/(g.nd i).kind=2\/(g.nd i).kind=3\/((g.nd i).kind=8/\(g.nd i).next=(g.nd i).iu))
theorem ll {u:bq} {g:bu} (h:eJ u g) (cls:List cY) (t:Nat):mU u g (fG g cls t):=by
 refine⟨h,qq _ _ _,vy _ _,fun i hi=> ?_⟩
 have h1:=(fT.1 hi).1
 have hl:i<g.nodes.length:=by have:=uy h1;rw[oB] at this;exact this
 have hs:eF g cls t i=true:=by simpa[tf,lS,fI,List.getD,hl] using h1
 unfold eF at hs
 dsimp only at hs
 rw[Bool.and_eq_true] at hs
 refine⟨hl,(lC hl).1 hs.1, ?_⟩
 have hs:=hs.2
 split at hs
 ·exact .inl (by assumption)
 ·split at hs
  ·exact .inr (.inl (by assumption))
  ·split at hs
   ·exact .inr (.inr (.inl (by assumption)))
   ·split at hs
    ·exact .inr (.inr (.inr ⟨by assumption,of_decide_eq_true hs⟩))
    ·cases hs
section
variable {u:bq} {g:bu} {out:List Bool}
theorem mU.iA (h:mU u g out) {i:Nat} (hi:tf out i=true):(g.nd i).next∈(g.nd i).iA/\∀k∈(g.nd i).iA,k=(g.nd i).next:=by
 obtain⟨_,_,hk⟩:=h.v8 i hi
 unfold Node.iA
 rw[if_neg (by omega)]
 split
 ·have:(g.nd i).next=(g.nd i).iu:=by omega
  rw[<-this]
  exact⟨by simp,fun k hk=>by simpa using hk⟩
 ·exact⟨by simp,fun k hk=>by simpa using hk⟩
theorem mU.next (h:mU u g out) {i:Nat} (hi:tf out i=true):0<=(g.nd i).next/\iD g i<g.nodes.length:=by
 obtain⟨hl,_,_⟩:=h.v8 i hi
 have:=MG (h.ok.node hl) (h.iA hi).1
 exact⟨this.1,by show(g.nd i).next.toNat<_;omega⟩
theorem mU.PJ (h:mU u g out) {i:Nat} (hi:tf out i=true):e8 g (-1) (iD g i:Int):=by
 have h1:=h.next hi
 have:(iD g i:Int)=(g.nd i).next:=by show((g.nd i).next.toNat:Int)=_;omega
 rw[this]
 exact e8.step (h.v8 i hi).2.1 (by omega) (by rw[Int.toNat_natCast];exact(h.iA hi).1)
theorem mU.zW (h:mU u g out) {i:Nat} (hi:e8 g (-1) (i:Int)):e8 g (-1) (eR out g i:Int):=
 uD h.ends (P:=fun(i:Nat)=>e8 g (-1) (i:Int)) (fun _ hj _=>h.PJ hj) hi
theorem mU.mem (h:mU u g out) {i:Nat}:i∈cS g out↔e8 g (-1) (i:Int)/\tf out i=false:=by
 have h0:e8 g (-1) (eR out g 0:Int):=h.zW (i:=0) .zero
 unfold cS
 rw[List.mem_cons,List.mem_filter,List.mem_range]
 constructor
 ·rintro(rfl|⟨h1,h2⟩)
  ·exact⟨h0,zY h.ends 0⟩
  ·simp only[Bool.and_eq_true,Bool.not_eq_true',decide_eq_true_eq] at h2
   exact⟨(lC h1).1 h2.1.1,h2.1.2⟩
 ·rintro⟨h1,h2⟩
  by_cases e:i=eR out g 0
  ·exact .inl e
  ·have hl:=(l8 h.ok.whole h1).2
   rw[Int.toNat_natCast] at hl
   refine .inr ⟨hl, ?_⟩
   simp only[Bool.and_eq_true,Bool.not_eq_true',decide_eq_true_eq]
   exact⟨⟨(lC hl).2 h1,h2⟩,e⟩
theorem mU.R9 (h:mU u g out) {i:Nat} (hi:e8 g (-1) (i:Int)):eR out g i∈cS g out:=h.mem.2 ⟨h.zW hi,zY h.ends i⟩
theorem tj:∀(o:List Nat) (i:Nat),i∈o->∃k,o.findIdx? (fun j=>decide (j=i))=some k/\k<o.length/\o.getD k 0=i
 |[],_,h=>by simp at h
 |a::o,i,h=>by
  rw[List.findIdx?_cons]
  by_cases e:a=i
  ·exact⟨0,by simp[e],by simp,by simp[e]⟩
  ·obtain⟨k,h1,h2,h3⟩:=tj o i ((List.mem_cons.1 h).resolve_left fun x=>e x.symm)
   exact⟨k+1,by simp[e,h1],by simpa using h2,by simpa using h3⟩
theorem nG {o:List Nat} {i:Nat} (h:i∈o):eS o i<o.length/\o.getD (eS o i) 0=i:=by
 obtain⟨k,h1,h2,h3⟩:=tj o i h
 have:eS o i=k:=by unfold eS;rw[h1];rfl
 rw[this];exact⟨h2,h3⟩
theorem wg {l:List Nat} (hn:l.Nodup) {a b:Nat} (ha:a<l.length) (hb:b<l.length) (h:l.getD a 0=l.getD b 0):a=b:=by
 rw[gd ha,gd hb] at h
 have hp:=List.pairwise_iff_getElem.1 hn
 rcases Nat.lt_trichotomy a b with hab|hab|hab
 ·exact absurd h (hp a b ha hb hab)
 ·exact hab
 ·exact absurd h.symm (hp b a hb ha hab)
theorem nq {o:List Nat} (hn:o.Nodup) {k:Nat} (hk:k<o.length):eS o (o.getD k 0)=k:=by
 have hm:o.getD k 0∈o:=by rw[gd hk];exact List.getElem_mem hk
 obtain⟨h1,h2⟩:=nG hm
 exact wg hn h1 hk h2
noncomputable def mC (g:bu) (out:List Bool):bu:={ g with nodes:=(cS g out).map fun i=>dQ g out (cS g out) (g.nd i) }
theorem iS:(mC g out).nodes.length=(cS g out).length:=by simp[mC]
theorem nn {k:Nat} (hk:k<(cS g out).length):(mC g out).nd k=dQ g out (cS g out) (g.nd ((cS g out).getD k 0)):=by
 show((cS g out).map fun i=>dQ g out (cS g out) (g.nd i)).getD k default=_
 rw[gd hk]
 simp[List.getD,hk]
theorem ue (n:Node):(dQ g out (cS g out) n).iA=n.iA.map fun x=>(eS (cS g out) (eR out g x.toNat):Int):=by
 unfold dQ Node.iA
 dsimp only
 by_cases h9:n.kind=9
 ·rw[if_pos h9,if_pos h9];rfl
 ·rw[if_neg h9,if_neg h9,if_pos h9]
  by_cases h8:n.kind=8
  ·rw[if_pos h8,if_pos h8,if_pos h8];rfl
  ·rw[if_neg h8,if_neg h8];rfl
theorem gL (g:bu) (out:List Bool):(cS g out).Nodup:=k7 g out g.nodes.length
theorem mU.lt (h:mU u g out) {i:Nat} (hi:i∈cS g out):i<g.nodes.length:=by
 have:=(l8 h.ok.whole (h.mem.1 hi).1).2
 rwa[Int.toNat_natCast] at this
theorem mU.PO (h:mU u g out):1<=(cS g out).length/\(cS g out).length<=g.nodes.length:=by
 refine⟨by simp[cS], ?_⟩
 have:=jC (m:=List.range g.nodes.length) (gL g out) fun x hx=>List.mem_range.2 (h.lt hx)
 simpa using this
theorem mU.to (h:mU u g out) {i:Nat} (hi:e8 g (-1) (i:Int)) {x:Int} (hx:x∈(g.nd i).iA):eS (cS g out) (eR out g x.toNat)<(cS g out).length/\(cS g out).getD (eS (cS g out) (eR out g x.toNat)) 0=eR out g x.toNat/\e8 g (-1) (x.toNat:Int):=by
 have hc:e8 g (-1) x:=e8.step hi (by omega) (by rw[Int.toNat_natCast];exact hx)
 have h0:=(l8 h.ok.whole hc).1
 have hc2:e8 g (-1) (x.toNat:Int):=by rw[Int.toNat_of_nonneg h0];exact hc
 have:=nG (h.R9 hc2)
 exact⟨this.1,this.2,hc2⟩
theorem mU.node (h:mU u g out) {u2:bq} (h1:u2.shared.length=u.shared.length) (h2:u2.cE.length=u.cE.length):∀n∈(mC g out).nodes,mW u2 (mC g out) n:=by
 intro n hn
 obtain⟨i,hi,rfl⟩:=List.mem_map.1 hn
 have hc:=(h.mem.1 hi).1
 have ho:=h.ok.node (h.lt hi)
 have hfol:∀x∈(g.nd i).iA,(0:Int)<=(eS (cS g out) (eR out g x.toNat):Int)/\(eS (cS g out) (eR out g x.toNat):Int)<((mC g out).nodes.length:Int):=fun x hx=>by
  have:=(h.to hc hx).1
  rw[iS];omega
 refine⟨ho.kind,ho.origin,ho.op,ho.slot, ?_,ho.a,ho.b, ?_, ?_⟩
 ·have:=ho.cB
  rw[<-h1,<-h2] at this
  exact this
 ·refine⟨fun hu=> ?_,fun hu=> ?_⟩
  ·have h9:(g.nd i).kind≠9:=by
    have:fK (g.nd i).kind=true:=hu
    unfold fK at this
    have:=of_decide_eq_true this
    omega
   have:(dQ g out (cS g out) (g.nd i)).next=(eS (cS g out) (eR out g (g.nd i).next.toNat):Int):=by unfold dQ;dsimp only;rw[if_pos h9]
   rw[this]
   refine hfol _ ?_
   unfold Node.iA;rw[if_neg h9];split<;>simp
  ·have hk:=ho.kind
   have h9:(g.nd i).kind=9:=by
    have:fK (g.nd i).kind=false:=hu
    unfold fK at this
    have:=of_decide_eq_false this
    omega
   have:(dQ g out (cS g out) (g.nd i)).next=(g.nd i).next:=by unfold dQ;dsimp only;rw[if_neg (fun x=>x h9)]
   rw[this]
   exact ho.next.2 hu
 ·refine⟨fun hu=> ?_,fun hu=> ?_⟩
  ·have h8:(g.nd i).kind=8:=hu
   have:(dQ g out (cS g out) (g.nd i)).iu=(eS (cS g out) (eR out g (g.nd i).iu.toNat):Int):=by unfold dQ;dsimp only;rw[if_pos h8]
   rw[this]
   refine hfol _ ?_
   unfold Node.iA;rw[if_neg (by omega),if_pos h8];simp
  ·have h8:(g.nd i).kind≠8:=hu
   have:(dQ g out (cS g out) (g.nd i)).iu=(g.nd i).iu:=by unfold dQ;dsimp only;rw[if_neg h8]
   rw[this]
   exact ho.iu.2 h8
theorem mU.whole (h:mU u g out):Whole (mC g out):=vE (u:=u) (by rw[iS];have:=h.PO;have:=h.ok.len;omega) (h.node rfl rfl)
theorem J0 (h:mU u g out):∀i:Int,e8 g (-1) i->e8 (mC g out) (-1) (eS (cS g out) (eR out g i.toNat):Int):=by
 intro i hi
 induction hi with
 |zero=>
  have:eS (cS g out) (eR out g (0:Int).toNat)=0:=by
   have:=nq (gL g out) (k:=0) (by have:=h.PO.1;omega)
   exact this
  rw[this];exact .zero
 |@step i k hi hc hk ih=>
  have h0:=(l8 h.ok.whole hi).1
  have e0:(i.toNat:Int)=i:=Int.toNat_of_nonneg h0
  cases ht:tf out i.toNat with
  |true=>
   have:=(h.iA ht).2 k hk
   rw[xi h.ends ht] at ih
   rw[this];exact ih
  |false=>
   have hs:eR out g i.toNat=i.toNat:=jA ht
   rw[hs] at ih
   have hm:i.toNat∈cS g out:=h.mem.2 ⟨by rw[e0];exact hi,ht⟩
   have hp:=nG hm
   refine e8.step ih (by omega) ?_
   rw[Int.toNat_natCast,nn hp.1,hp.2,ue]
   exact List.mem_map.2 ⟨k,hk,rfl⟩
theorem PY (h:mU u g out) {k:Nat} (hk:k<(cS g out).length):e8 (mC g out) (-1) (k:Int):=by
 have hm:(cS g out).getD k 0∈cS g out:=by rw[gd hk];exact List.getElem_mem hk
 have h1:=h.mem.1 hm
 have:=J0 h _ h1.1
 rw[Int.toNat_natCast,jA h1.2,nq (gL g out) hk] at this
 exact this
theorem mU.held (h:mU u g out) {lk:Nat->List Int} (hlk:q9 g lk):q9 (mC g out) fun k=>lk ((cS g out).getD k 0):=by
 have hone:∀i:Nat,tf out i=true->lk (iD g i)=lk i:=fun i hi=>by
  obtain⟨_,hc,hk⟩:=h.v8 i hi
  obtain⟨now,h1,h2⟩:=hlk.on i hc
  rw[Int.toNat_natCast] at h1 h2
  have:now=lk i:=by
   unfold eK at h1
   rw[if_neg (by omega),if_neg (by omega),if_neg (by omega)] at h1
   cases h1;rfl
  rw[<-this]
  exact h2 _ (h.iA hi).1
 have hheir:∀i:Nat,lk (eR out g i)=lk i:=fun i=>
  uD h.ends (P:=fun j=>lk j=lk i) (fun j hj hp=>(hone j hj).trans hp) rfl
 refine⟨?_,fun k hk=> ?_⟩
 ·show lk (eR out g 0)=[]
  rw[hheir,hlk.zero]
 ·obtain⟨h0,hkl⟩:=l8 h.whole hk
  rw[iS] at hkl
  have hm:(cS g out).getD k.toNat 0∈cS g out:=by rw[gd hkl];exact List.getElem_mem hkl
  have hc:=(h.mem.1 hm).1
  obtain⟨now,h1,h2⟩:=hlk.on _ hc
  rw[Int.toNat_natCast] at h1 h2
  refine⟨now, ?_,fun x hx=> ?_⟩
  ·rw[nn hkl];exact h1
  ·rw[nn hkl,ue] at hx
   obtain⟨y,hy,rfl⟩:=List.mem_map.1 hx
   rw[Int.toNat_natCast,(h.to hc hy).2.1,hheir]
   exact h2 y hy
theorem mU.graph (h:mU u g out) {u2:bq} (h1:u2.shared.length=u.shared.length) (h2:u2.cE.length=u.cE.length):eJ u2 (mC g out):=by
 obtain⟨_,_,hlk,_⟩:=lI h.ok.whole h.ok.held
 refine⟨h.ok.locals,h.ok.bw, ?_,h.node h1 h2, ?_⟩
 ·rw[iS];have:=h.PO;have:=h.ok.len;omega
 ·rw[NA h.whole (h.held hlk)];omega
theorem mU.full (h:mU u g out) (hl:(cS g out).length=g.nodes.length):∀i,i<g.nodes.length->i∈cS g out:=by
 intro i hi
 apply Classical.byContradiction
 intro hn
 have:=jC (l:=i::cS g out) (m:=List.range g.nodes.length) (List.nodup_cons.2 ⟨hn,gL g out⟩) fun x hx=>by
  rcases List.mem_cons.1 hx with rfl|hx
  ·exact List.mem_range.2 hi
  ·exact List.mem_range.2 (h.lt hx)
 simp at this
 omega
theorem mU.range (h:mU u g out) (hl:(cS g out).length=g.nodes.length):cS g out=List.range g.nodes.length:=by
 have hf:=h.full hl
 have hw:=h.ok.len
 have h0:eR out g 0=0:=jA (h.mem.1 (hf 0 (by omega))).2
 unfold cS
 rw[h0,show(List.range g.nodes.length).filter (fun(i:Nat)=>ji (dW g (-1)) (i:Int)&& !tf out i&&decide (i≠0))=(List.range g.nodes.length).filter (fun(i:Nat)=>decide (i≠0)) from List.filter_congr fun i hi=>by
  have hi:=List.mem_range.1 hi
  have:=h.mem.1 (hf i hi)
  rw[(lC hi).2 this.1,this.2];rfl]
 obtain⟨m,hm⟩:∃m,g.nodes.length=m+1:=⟨g.nodes.length - 1,by omega⟩
 rw[hm,List.range_succ_eq_map,List.filter_cons_of_neg (by simp)]
 congr 1
 rw[List.filter_eq_self]
 intro a ha
 obtain⟨b,_,rfl⟩:=List.mem_map.1 ha
 simp
theorem mU.same (h:mU u g out) (hl:(cS g out).length=g.nodes.length):mC g out=g:=by
 have hr:=h.range hl
 have hf:=h.full hl
 have hp:∀j,j<g.nodes.length->eS (cS g out) (eR out g j)=j:=fun j hj=>by
  rw[jA (h.mem.1 (hf j hj)).2]
  have:=nq (gL g out) (k:=j) (by omega)
  rw[hr] at this ⊢
  rw[gd (by simpa using hj)] at this
  simpa using this
 have hn:(mC g out).nodes=g.nodes:=by
  apply List.ext_getElem (by rw[iS,hl])
  intro i h1 h2
  have hi:i<(cS g out).length:=by omega
  have e1:(mC g out).nodes[i]=(mC g out).nd i:=by simp[bu.nd,List.getD,h1]
  have e2:g.nodes[i]=g.nd i:=by simp[bu.nd,List.getD,h2]
  rw[e1,e2,nn hi]
  have:(cS g out).getD i 0=i:=by rw[hr,gd (by simpa using h2)];simp
  rw[this]
  have ho:=h.ok.node h2
  have hk:=ho.kind
  unfold dQ
  have a1:(if(g.nd i).kind≠9 then(eS (cS g out) (eR out g (g.nd i).next.toNat):Int) else(g.nd i).next)=(g.nd i).next:=by
   split
   ·have:=ho.next.1 (by unfold fK;exact decide_eq_true (by omega))
    rw[hp _ (by omega)];omega
   ·rfl
  have a2:(if(g.nd i).kind=8 then(eS (cS g out) (eR out g (g.nd i).iu.toNat):Int) else(g.nd i).iu)=(g.nd i).iu:=by
   split
   ·rename_i h8
    have:=ho.iu.1 h8
    rw[hp _ (by omega)];omega
   ·rfl
  rw[a1,a2]
 show({ g with nodes:=(mC g out).nodes }:bu)=g
 rw[hn]
end
end
theorem u0 (g:bu) (cls:List cY) (t:Nat):iE g cls t=mC g (fG g cls t):=rfl
theorem eA (u:bq):(dH u).br.length=u.br.length:=by simp[dH]
theorem gk {u:bq} {t:Nat} (ht:t<u.br.length):(dH u).gr t=iE (u.gr t) (cP u) t:=by
 show((List.range u.br.length).map fun t=>iE (u.gr t) (cP u) t).getD t default=_
 simp[List.getD,ht]
theorem M8 {u:bq} {g:bu} (h:g∈u.br):∃t,t<u.br.length/\u.gr t=g:=by
 obtain⟨t,ht,rfl⟩:=List.getElem_of_mem h
 exact⟨t,ht,by simp[bq.gr,List.getD,ht]⟩
theorem EH (u:bq):ch (dH u)=ch u:=by
 unfold ch
 have:(dH u).br.map bu.name=u.br.map bu.name:=by
  apply List.ext_getElem (by simp[dH])
  intro i h1 h2
  have hi:i<u.br.length:=by simpa using h2
  simp[dH,iE,bq.gr,List.getD,hi]
 rw[this];rfl
theorem fx {u:bq} (h:cN u):cN (dH u):=by
 refine⟨?_,fun g hg=> ?_⟩
 ·have:=h.named
  unfold fw at this ⊢
  rw[EH,eA]
  exact this
 ·obtain⟨t,ht,rfl⟩:=M8 hg
  rw[eA] at ht
  rw[gk ht]
  exact(ll (h.gr ht) (cP u) t).graph rfl rfl
theorem nk {u:bq} (hu:u.Wf) (hr:cN u):(dH u).Wf:=by
 refine⟨hu.shared,hu.jb,hu.cE,hu.lL,fun g hg=> ?_,by rw[eA];exact hu.nf⟩
 obtain⟨t,ht,rfl⟩:=M8 hg
 rw[eA] at ht
 have hgw:=hu.br _ (cR default ht)
 have hi:=ll (hr.gr ht) (cP u) t
 have hg2:eJ u ((dH u).gr t):=by rw[gk ht];exact hi.graph rfl rfl
 have hl:=hg2.len
 have hsame:((dH u).gr t).name=(u.gr t).name/\((dH u).gr t).locals=(u.gr t).locals/\((dH u).gr t).bw=(u.gr t).bw:=by rw[gk ht];exact⟨rfl,rfl,rfl⟩
 refine⟨by rw[hsame.1];exact hgw.name,by rw[hsame.2.1];exact hgw.locals,by rw[hsame.2.2];exact hgw.bw,fun n hn=> ?_,by omega⟩
 have ho:=hg2.nodes n hn
 rw[gk ht] at hn
 obtain⟨i,hi2,rfl⟩:=List.mem_map.1 hn
 have hnw:=hgw.nodes _ (cR default (hi.lt hi2))
 have hin:∀x:Int,0<=x/\x<((dH u).gr t).nodes.length->eW x:=fun x hx=>by unfold eW;omega
 refine⟨hnw.kind,hnw.op,hnw.slot,hnw.cB,hnw.a,hnw.b, ?_, ?_,hnw.origin⟩
 ·cases hun:fK (dQ (u.gr t) (fG (u.gr t) (cP u) t) (cS (u.gr t) (fG (u.gr t) (cP u) t)) ((u.gr t).nd i)).kind with
  |true=>exact hin _ (ho.next.1 hun)
  |false=>rw[ho.next.2 hun];unfold eW;omega
 ·by_cases h8:(dQ (u.gr t) (fG (u.gr t) (cP u) t) (cS (u.gr t) (fG (u.gr t) (cP u) t)) ((u.gr t).nd i)).kind=8
  ·exact hin _ (ho.iu.1 h8)
  ·rw[ho.iu.2 h8];unfold eW;omega
theorem QI {α:Type} (f h:α->Nat):∀(l:List α),(∀a∈l,f a<=h a)->(l.map f).sum<=(l.map h).sum/\((l.map f).sum=(l.map h).sum->∀a∈l,f a=h a)
 |[],_=>by simp
 |a::l,hl=>by
  obtain⟨h1,h2⟩:=QI f h l fun x hx=>hl x (List.mem_cons_of_mem _ hx)
  have h3:=hl a (by simp)
  simp only[List.map_cons,List.sum_cons]
  refine⟨by omega,fun e x hx=> ?_⟩
  rcases List.mem_cons.1 hx with rfl|hx
  ·omega
  ·exact h2 (by omega) x hx
theorem size_range (u:bq):gB u=((List.range u.br.length).map fun t=>(u.gr t).nodes.length).sum:=by
 unfold gB
 congr 1
 apply List.ext_getElem (by simp)
 intro i h1 h2
 have hi:i<u.br.length:=by simpa using h1
 simp[bq.gr,List.getD,hi]
theorem JY {u:bq} (h:cN u):∀t,t<u.br.length->((dH u).gr t).nodes.length<=(u.gr t).nodes.length:=fun t ht=>by
 rw[gk ht,u0,iS];exact(ll (h.gr ht) (cP u) t).PO.2
theorem KM {u v:bq} (h1:u.shared=v.shared) (h2:u.cE=v.cE) (h3:u.br.length=v.br.length) (h4:∀t,t<u.br.length->u.gr t=v.gr t):u=v:=by
 obtain⟨a,b,c⟩:=u
 obtain⟨a',b',c'⟩:=v
 simp only at h1 h2 h3
 subst h1;subst h2
 have:c=c':=by
  apply List.ext_getElem h3
  intro i hi1 hi2
  have:=h4 i hi1
  simpa[bq.gr,List.getD,hi1,hi2] using this
 rw[this]
theorem lO {u:bq} (h:cN u):gB (dH u)<=gB u/\(gB (dH u)=gB u->dH u=u):=by
 rw[size_range,size_range u,eA]
 obtain⟨h1,h2⟩:=QI (fun t=>((dH u).gr t).nodes.length) (fun t=>(u.gr t).nodes.length) (List.range u.br.length) fun t ht=>JY h t (List.mem_range.1 ht)
 refine⟨h1,fun e=>KM rfl rfl (eA u) fun t ht=> ?_⟩
 rw[eA] at ht
 have:=h2 e t (List.mem_range.2 ht)
 rw[gk ht,u0] at this ⊢
 rw[iS] at this
 exact(ll (h.gr ht) (cP u) t).same this
theorem uw {v:bq} (h:cN v) (hs:gB v=0):dH v=v:=(lO h).2 (by have:=(lO h).1;omega)
theorem nO:∀(f f2:Nat) (v:bq),cN v->gB v<=f->gB v<=f2->fc f v=fc f2 v
 |0,0,v,_,_,_=>rfl
 |0,f2+1,v,h,h1,_=>by rw[fc,fc,if_pos (uw h (by omega))]
 |f+1,0,v,h,_,h2=>by rw[fc,fc,if_pos (uw h (by omega))]
 |f+1,f2+1,v,h,h1,h2=>by
  rw[fc,fc]
  by_cases e:dH v=v
  ·rw[if_pos e,if_pos e]
  ·rw[if_neg e,if_neg e]
   have h3:=lO h
   have:gB (dH v)<gB v:=Nat.lt_of_le_of_ne h3.1 fun x=>e (h3.2 x)
   exact nO f f2 _ (fx h) (by omega) (by omega)
theorem ux {v:bq} (h:cN v) (e:dH v=v):fc (gB v) v=v:=by
 cases hf:gB v with
 |zero=>rfl
 |succ f=>rw[fc,if_pos e]
theorem QJ {v:bq} (h:cN v) (e:dH v≠v):fc (gB v) v=fc (gB (dH v)) (dH v)/\gB (dH v)<gB v:=by
 have h3:=lO h
 have hlt:gB (dH v)<gB v:=Nat.lt_of_le_of_ne h3.1 fun x=>e (h3.2 x)
 refine⟨?_,hlt⟩
 obtain⟨f,hf⟩:∃f,gB v=f+1:=⟨gB v - 1,by omega⟩
 rw[hf,fc,if_neg e]
 exact nO _ _ _ (fx h) (by omega) (Nat.le_refl _)
theorem uu {P:bq->Prop} (hs:∀v,cN v->P v->P (dH v)):∀(f:Nat) (v:bq),cN v->P v->cN (fc f v)/\P (fc f v)
 |0,v,h,hp=>⟨h,hp⟩
 |f+1,v,h,hp=>by
  rw[fc]
  split
  ·exact⟨h,hp⟩
  ·exact uu hs f _ (fx h) (hs v h hp)
theorem rG {P:bq->Prop} {u:bq} (h:cN u) (h0:P u) (hs:∀v,cN v->P v->P (dH v)):cN (fJ u)/\P (fJ u):=uu hs _ _ (fx h) (hs u h h0)
theorem wz {u:bq} (h:cN u):fJ u=fc (gB (dH u)) (dH u):=nO _ _ _ (fx h) (lO h).1 (Nat.le_refl _)
def QZ (cls:List cY) (n:Node):Bool:=decide (n.kind=5\/n.kind=6\/n.kind=7)||(decide (n.kind=2\/n.kind=3\/n.kind=4)&&decide (0<=n.cB)&&decide (n.cB<cls.length)&&decide ((cls.getD n.cB.toNat default).kind=3))
theorem G9 {g:bu} {cls:List cY} {t k:Nat} (hl:k<g.nodes.length) (h:tf (lS g cls t) k=true):eF g cls t k=true:=by simpa[tf,lS,fI,List.getD,hl] using h
structure Kept (w v:bq) (t:Nat) (idx:List Nat):Prop where
 len:(v.gr t).nodes.length=idx.length
 name:(v.gr t).name=(w.gr t).name/\(v.gr t).locals=(w.gr t).locals/\(v.gr t).bw=(w.gr t).bw
 inr:∀k,k<idx.length->idx.getD k 0<(w.gr t).nodes.length
 node:∀k,k<idx.length->∃nx el,(v.gr t).nd k={ (w.gr t).nd (idx.getD k 0) with next:=nx,iu:=el }
 inj:∀a b,a<idx.length->b<idx.length->idx.getD a 0=idx.getD b 0->a=b
 ZL:∀a b,1<=a->a<b->b<idx.length->idx.getD a 0<idx.getD b 0
 cE:∀lk,q9 (w.gr t) lk->q9 (v.gr t) fun k=>lk (idx.getD k 0)
 ZW:∀i:Nat,e8 (w.gr t) (-1) (i:Int)->QZ (cP w) ((w.gr t).nd i)=true->∃k,k<idx.length/\idx.getD k 0=i/\e8 (v.gr t) (-1) (k:Int)
structure lW (w v:bq):Prop where
 shared:v.shared=w.shared
 cE:v.cE=w.cE
 len:v.br.length=w.br.length
 kept:∀t,t<w.br.length->∃idx,Kept w v t idx
theorem iF {n k:Nat} (h:k<n):(List.range n).getD k 0=k:=by rw[gd (by simpa using h)];simp
theorem wb {g:bu} (hw:Whole g) {a b:Nat->List Int} (h:q9 g a) (he:∀i,i<g.nodes.length->b i=a i):q9 g b:=by
 refine⟨by rw[he 0 (by have:=hw.1;omega)];exact h.zero,fun i hi=> ?_⟩
 obtain⟨now,h1,h2⟩:=h.on i hi
 have hin:=l8 hw hi
 refine⟨now,by rw[he _ hin.2];exact h1,fun k hk=> ?_⟩
 have:=(hw.2.2 _ hin.2).2.2 k hk
 rw[he _ this.2];exact h2 k hk
theorem lW.start {w:bq} (h:cN w):lW w w:=by
 refine⟨rfl,rfl,rfl,fun t ht=>⟨List.range (w.gr t).nodes.length,by simp,⟨rfl,rfl,rfl⟩,fun k hk=> ?_,fun k hk=> ?_,fun a b ha hb e=> ?_,fun a b _ hab hb=> ?_,fun lk hlk=> ?_,fun i hi _=> ?_⟩⟩
 ·rw[List.length_range] at hk;rw[iF hk];exact hk
 ·rw[List.length_range] at hk;rw[iF hk];exact⟨_,_,rfl⟩
 ·rw[List.length_range] at ha hb;rw[iF ha,iF hb] at e;exact e
 ·rw[List.length_range] at hb;rw[iF hb,iF (by omega)];exact hab
 ·exact wb (h.gr ht).whole hlk fun i hi=>by show lk ((List.range (w.gr t).nodes.length).getD i 0)=lk i;rw[iF hi]
 ·have:=(l8 (h.gr ht).whole hi).2
  rw[Int.toNat_natCast] at this
  exact⟨i,by simpa using this,iF this,hi⟩
theorem BU {m:Nat} {tl:List (Nat×List Int)}:(gv m tl).kind=3↔(∃a∈tl,∃b∈tl,a.1≠b.1)/\∀k,k<m->∃a∈tl,((k:Nat):Int)∉a.2:=by
 match tl with
 |[]=>simp[gv]
 |(t,l)::r=>
  unfold gv
  dsimp only
  by_cases hs:(r.all fun x=>decide (x.1=t))=true
  ·rw[if_pos hs]
   refine⟨fun h=>absurd (show(1:Int)=3 from h) (by decide),fun⟨⟨a,ha,b,hb,hab⟩,_⟩=> ?_⟩
   rw[List.all_eq_true] at hs
   have key:∀x∈(t,l)::r,x.1=t:=fun x hx=>by
    rcases List.mem_cons.1 hx with rfl|hx
    ·rfl
    ·exact of_decide_eq_true (hs x hx)
   exact absurd ((key a ha).trans (key b hb).symm) hab
  ·rw[if_neg hs]
   have hex:∃a∈(t,l)::r,∃b∈(t,l)::r,a.1≠b.1:=by
    rw[List.all_eq_true] at hs
    have⟨x,hx⟩:=Classical.not_forall.1 hs
    obtain⟨h1,h2⟩:=Classical.not_imp.1 hx
    exact⟨x,List.mem_cons_of_mem _ h1,(t,l),by simp,fun e=>h2 (decide_eq_true e)⟩
   have hnot:∀k:Nat,xh ((t,l)::r) k=false↔∃a∈(t,l)::r,((k:Nat):Int)∉a.2:=fun k=>by
    unfold xh
    rw[<-Bool.not_eq_true,List.all_eq_true]
    constructor
    ·intro h
     obtain⟨x,hx⟩:=Classical.not_forall.1 h
     obtain⟨h1,h2⟩:=Classical.not_imp.1 hx
     refine⟨x,h1,fun hm=>h2 ?_⟩
     rw[List.any_eq_true]
     exact⟨_,hm,decide_eq_true rfl⟩
    ·rintro⟨a,ha,hn⟩ h
     have:=h a ha
     rw[List.any_eq_true] at this
     obtain⟨y,hy,e⟩:=this
     rw[of_decide_eq_true e] at hy
     exact hn hy
   cases hf:(List.range m).find? (xh ((t,l)::r)) with
   |none=>
    refine⟨fun _=>⟨hex,fun k hk=> ?_⟩,fun _=>rfl⟩
    have:=List.find?_eq_none.1 hf k (List.mem_range.2 hk)
    exact(hnot k).1 (by simpa using this)
   |some k=>
    refine⟨fun h=>absurd (show(2:Int)=3 from h) (by decide),fun⟨_,h⟩=> ?_⟩
    have h1:=List.find?_some hf
    have h2:=List.mem_range.1 (List.mem_of_find?_eq_some hf)
    rw[(hnot k).2 (h k h2)] at h1;cases h1
theorem J5 {m:Nat} {a b:List (Nat×List Int)} (h:∀x∈a,x∈b) (ha:(gv m a).kind=3):(gv m b).kind=3:=by
 obtain⟨⟨x,hx,y,hy,hxy⟩,h2⟩:=BU.1 ha
 refine BU.2 ⟨⟨x,h x hx,y,h y hy,hxy⟩,fun k hk=> ?_⟩
 obtain⟨z,hz,hn⟩:=h2 k hk
 exact⟨z,h z hz,hn⟩
theorem rK {u:bq} {v:Int} {t:Nat} {l:List Int}:(t,l)∈gP (gu u u.br.length) v↔t<u.br.length/\∃i,i<(u.gr t).nodes.length/\e8 (u.gr t) (-1) (i:Int)/\HB ((u.gr t).nd i)=true/\((u.gr t).nd i).cB=v/\l=(eP (u.gr t)).1.getD i []:=by
 unfold gP gu
 rw[List.mem_map]
 constructor
 ·rintro⟨x,hx,he⟩
  obtain⟨hx,hb⟩:=List.mem_filter.1 hx
  rw[List.mem_flatMap] at hx
  obtain⟨t',ht',hx⟩:=hx
  unfold oY at hx
  rw[List.mem_filterMap] at hx
  obtain⟨i,hi,hx⟩:=hx
  unfold sx at hx
  split at hx
  ·rename_i hf
   cases hx
   simp only[Prod.mk.injEq] at he
   obtain⟨rfl,rfl⟩:=he
   have hi:=List.mem_range.1 hi
   rw[Bool.and_eq_true,decide_eq_true_eq] at hb
   exact⟨List.mem_range.1 ht',i,hi,(lC hi).1 hf,hb.1,hb.2,rfl⟩
  ·cases hx
 ·rintro⟨ht,i,hi,hc,h1,h2,rfl⟩
  refine⟨(t,(u.gr t).nd i,(eP (u.gr t)).1.getD i []),List.mem_filter.2 ⟨?_,by dsimp only;rw[h1,decide_eq_true h2];rfl⟩,rfl⟩
  rw[List.mem_flatMap]
  refine⟨t,List.mem_range.2 ht, ?_⟩
  unfold oY
  rw[List.mem_filterMap]
  refine⟨i,List.mem_range.2 hi, ?_⟩
  unfold sx
  rw[if_pos ((lC hi).2 hc)]
theorem qf {u:bq} {v:Nat} (h:v<u.shared.length):(cP u).getD v default=gv u.cE.length (gP (gu u u.br.length) v):=by
 simp[cP,List.getD,h]
theorem vr {u:bq} {v:Nat} (h:¬v<u.shared.length):(cP u).getD v default=default:=by
 have:(cP u).length<=v:=by simp[cP];omega
 rw[List.getD,List.getElem?_eq_none this];rfl
theorem lW.ZK {w v:bq} (hw:cN w) (hv:cN v) (h:lW w v) {x:Nat} (hx:((cP w).getD x default).kind=3):((cP v).getD x default).kind=3:=by
 by_cases hl:x<w.shared.length
 ·have hx2:=hx
  rw[qf hl] at hx
  rw[qf (by rw[h.shared];exact hl),h.cE]
  refine J5 (fun y hy=> ?_) hx
  obtain⟨t,l⟩:=y
  obtain⟨ht,i,hi,hc,h1,h2,rfl⟩:=rK.1 hy
  obtain⟨idx,hk⟩:=h.kept t ht
  have hvis:QZ (cP w) ((w.gr t).nd i)=true:=by
   unfold QZ
   unfold HB at h1
   have a1:decide (0<=(x:Int))=true:=decide_eq_true (by omega)
   have a2:decide ((x:Int)<((cP w).length:Int))=true:=decide_eq_true (by simp[cP];exact hl)
   have a3:decide (((cP w).getD x default).kind=3)=true:=decide_eq_true hx2
   rw[h1,h2,a1,a2,Int.toNat_natCast,a3];simp
  obtain⟨k,k1,k2,k3⟩:=hk.ZW i hc hvis
  obtain⟨nx,el,hn⟩:=hk.node k k1
  rw[k2] at hn
  have ht2:t<v.br.length:=by rw[h.len];exact ht
  refine rK.2 ⟨ht2,k,by rw[hk.len];exact k1,k3,by rw[hn];exact h1,by rw[hn];exact h2, ?_⟩
  have hgw:=hw.gr ht
  have hgv:=hv.gr ht2
  obtain⟨_,_,a1,_⟩:=lI hgw.whole hgw.held
  obtain⟨_,_,b1,_⟩:=lI hgv.whole hgv.held
  have:=A5 (hk.cE _ a1) b1 k k3
  simp only[Int.toNat_natCast,k2] at this
  exact this
 ·rw[vr hl] at hx;exact absurd hx (by decide)
theorem EL {u:bq} {g:bu} {out:List Bool} (h:mU u g out) {a b:Nat} (ha:1<=a) (hab:a<b) (hb:b<(cS g out).length):1<=(cS g out).getD a 0/\(cS g out).getD a 0<(cS g out).getD b 0:=by
 obtain⟨a,rfl⟩:∃a',a=a'+1:=⟨a - 1,by omega⟩
 obtain⟨b,rfl⟩:∃b',b=b'+1:=⟨b - 1,by omega⟩
 unfold cS at hb ⊢
 rw[List.getD_cons_succ,List.getD_cons_succ]
 rw[List.length_cons] at hb
 generalize hL:(List.range g.nodes.length).filter (fun(i:Nat)=>ji (dW g (-1)) (i:Int)&& !tf out i&&decide (i≠eR out g 0))=L at *
 have hp:L.Pairwise (·<·):=by rw[<-hL];exact List.pairwise_lt_range.filter _
 have hm:∀x∈L,1<=x:=fun x hx=>by
  rw[<-hL] at hx
  have:=(List.mem_filter.1 hx).2
  simp only[Bool.and_eq_true,Bool.not_eq_true',decide_eq_true_eq] at this
  rcases Nat.eq_zero_or_pos x with rfl|h0
  ·exact absurd (jA this.1.2).symm this.2
  ·exact h0
 have h1:a<L.length:=by omega
 have h2:b<L.length:=by omega
 rw[gd h1,gd h2]
 exact⟨hm _ (List.getElem_mem h1),List.pairwise_iff_getElem.1 hp a b h1 h2 (by omega)⟩
theorem lW.once {w v:bq} (hw:cN w) (hv:cN v) (h:lW w v):lW w (dH v):=by
 refine⟨h.shared,h.cE,(eA v).trans h.len,fun t ht=> ?_⟩
 have ht2:t<v.br.length:=by rw[h.len];exact ht
 obtain⟨idx,hk⟩:=h.kept t ht
 have hi:=ll (hv.gr ht2) (cP v) t
 have hgr:(dH v).gr t=mC (v.gr t) (fG (v.gr t) (cP v) t):=gk ht2
 have hnot:∀k,k<idx.length->QZ (cP w) ((w.gr t).nd (idx.getD k 0))=true->tf (fG (v.gr t) (cP v) t) k=false:=fun k hkl hvs=>by
  cases hb:tf (fG (v.gr t) (cP v) t) k with
  |false=>rfl
  |true=>
   exfalso
   have h1:=(fT.1 hb).1
   have hl:k<(v.gr t).nodes.length:=by rw[hk.len];exact hkl
   have hs:=G9 hl h1
   obtain⟨nx,el,hn⟩:=hk.node k hkl
   have e1:((v.gr t).nd k).kind=((w.gr t).nd (idx.getD k 0)).kind:=by rw[hn]
   have e2:((v.gr t).nd k).cB=((w.gr t).nd (idx.getD k 0)).cB:=by rw[hn]
   unfold QZ at hvs
   rw[<-e1,<-e2] at hvs
   unfold eF at hs
   dsimp only at hs
   generalize (v.gr t).nd k=n at *
   simp only[Bool.or_eq_true,Bool.and_eq_true,decide_eq_true_eq] at hvs
   rw[Bool.and_eq_true] at hs
   rcases hvs with hvs|⟨⟨⟨hvs,h0⟩,_⟩,h3⟩
   ·have hs:=hs.2
    rw[if_neg (by omega),if_neg (by omega),if_neg (by omega),if_neg (by omega)] at hs
    cases hs
   ·have hr:=h.ZK hw hv h3
    have hs:=hs.2
    rw[if_neg (by omega)] at hs
    by_cases k2:n.kind=2
    ·rw[if_pos k2,decide_eq_false (by rw[hr];simp)] at hs
     cases hs
    ·rw[if_neg k2] at hs
     by_cases k3:n.kind=3
     ·rw[if_pos k3] at hs
      unfold jr at hs
      rw[hr] at hs
      cases hs
     ·rw[if_neg k3,if_neg (by omega)] at hs
      cases hs
 generalize fG (v.gr t) (cP v) t=out at *
 have hol:((cS (v.gr t) out).map fun p=>idx.getD p 0).length=(cS (v.gr t) out).length:=by simp
 have hget:∀k,k<(cS (v.gr t) out).length->((cS (v.gr t) out).map fun p=>idx.getD p 0).getD k 0=idx.getD ((cS (v.gr t) out).getD k 0) 0:=fun k hkl=>by
  rw[gd hkl,gd (by simpa using hkl)];simp
 have hlt:∀k,k<(cS (v.gr t) out).length->(cS (v.gr t) out).getD k 0<idx.length:=fun k hkl=>by
  rw[<-hk.len]
  refine hi.lt ?_
  rw[gd hkl];exact List.getElem_mem hkl
 refine⟨(cS (v.gr t) out).map fun p=>idx.getD p 0, ?_, ?_,fun k hkl=> ?_,fun k hkl=> ?_,fun a b ha hb e=> ?_,fun a b h1 hab hb=> ?_,fun lk hlk=> ?_,fun i hc hvs=> ?_⟩
 ·rw[hgr,iS,hol]
 ·rw[hgr];exact hk.name
 ·rw[hol] at hkl
  rw[hget k hkl];exact hk.inr _ (hlt k hkl)
 ·rw[hol] at hkl
  rw[hget k hkl,hgr,nn hkl]
  obtain⟨nx,el,hn⟩:=hk.node _ (hlt k hkl)
  unfold dQ
  rw[hn]
  exact⟨_,_,rfl⟩
 ·rw[hol] at ha hb
  rw[hget a ha,hget b hb] at e
  exact wg (gL _ _) ha hb (hk.inj _ _ (hlt a ha) (hlt b hb) e)
 ·rw[hol] at hb
  rw[hget a (by omega),hget b hb]
  obtain⟨q1,q2⟩:=EL hi h1 hab hb
  exact hk.ZL _ _ q1 q2 (hlt b hb)
 ·rw[hgr]
  refine wb hi.whole (hi.held (hk.cE lk hlk)) fun i hil=> ?_
  rw[iS] at hil
  show lk (((cS (v.gr t) out).map fun p=>idx.getD p 0).getD i 0)=lk (idx.getD ((cS (v.gr t) out).getD i 0) 0)
  rw[hget i hil]
 ·obtain⟨k,k1,k2,k3⟩:=hk.ZW i hc hvs
  have hm:k∈cS (v.gr t) out:=hi.mem.2 ⟨k3,hnot k k1 (by rw[k2];exact hvs)⟩
  obtain⟨p1,p2⟩:=nG hm
  refine⟨eS (cS (v.gr t) out) k,by rw[hol];exact p1,by rw[hget _ p1,p2];exact k2, ?_⟩
  rw[hgr];exact PY hi p1
end Go.Proofs.YtekfmjjmihomlaaGreatDoor
