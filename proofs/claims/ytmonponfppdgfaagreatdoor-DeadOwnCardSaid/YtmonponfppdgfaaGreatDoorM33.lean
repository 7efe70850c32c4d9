import Derived.Test.YtmonponfppdgfaaGreatDoorM32
namespace Go.Proofs.YtmonponfppdgfaaGreatDoor
open Go Go.dD Go.Proofs
set_option linter.unusedSimpArgs false
set_option linter.unusedVariables false
section
theorem qj {g:br} (hw:Whole g) {i:Int} (h:fw g (-1) i):0<=i/\i.toNat<g.nodes.length:=by
 induction h with
 |zero=>exact⟨by omega,by have:=hw.1;simp;omega⟩
 |@step i k _ _ hk ih=>exact(hw.2.2 i.toNat ih.2).2.2 k hk
theorem oR {g:br} {i:Nat} (hi:i<g.nodes.length):iF (cj g (-1)) (i:Int)=true↔fw g (-1) (i:Int):=by
 unfold iF;rw[Int.toNat_natCast];exact nz g (-1) hi
structure nC (u:bq) (g:br) (out:List Bool):Prop where
 ok:dR u g
 len:out.length=g.nodes.length
 ends:Ends out g
 v8:∀i,tf out i=true->i<g.nodes.length/\fw g (-1) (i:Int)/\((g.nd i).kind=1\/(g.nd i).kind=2\/(g.nd i).kind=3\/((g.nd i).kind=8/\(g.nd i).next=(g.nd i).jc))
theorem vJ {u:bq} {g:br} (h:dR u g) (cls:List cF) (t:Nat):nC u g (eR g cls t):=by
 refine⟨h,mn _ _ _,pL _ _,fun i hi=> ?_⟩
 have h1:=(gC.1 hi).1
 have hl:i<g.nodes.length:=by have:=sg h1;rw[kz] at this;exact this
 have hs:dJ g cls t i=true:=by simpa[tf,kS,df,List.getD,hl] using h1
 unfold dJ at hs
 dsimp only at hs
 rw[Bool.and_eq_true] at hs
 refine⟨hl,(oR hl).1 hs.1, ?_⟩
 have hs:=hs.2
 split at hs
 ·exact .inl (by assumption)
 ·split at hs
  ·exact .inr (.inl (by assumption))
  ·split at hs
   ·exact .inr (.inr (.inl (by assumption)))
   ·split at hs
    ·exact .inr (.inr (.inr ⟨by assumption,of_decide_eq_true hs⟩))
    ·cases hs
section
variable {u:bq} {g:br} {out:List Bool}
theorem nC.dQ (h:nC u g out) {i:Nat} (hi:tf out i=true):(g.nd i).next∈(g.nd i).dQ/\∀k∈(g.nd i).dQ,k=(g.nd i).next:=by
 obtain⟨_,_,hk⟩:=h.v8 i hi
 unfold Node.dQ
 rw[if_neg (by omega)]
 split
 ·have:(g.nd i).next=(g.nd i).jc:=by omega
  rw[<-this]
  exact⟨by simp,fun k hk=>by simpa using hk⟩
 ·exact⟨by simp,fun k hk=>by simpa using hk⟩
theorem nC.next (h:nC u g out) {i:Nat} (hi:tf out i=true):0<=(g.nd i).next/\hD g i<g.nodes.length:=by
 obtain⟨hl,_,_⟩:=h.v8 i hi
 have:=EN (h.ok.node hl) (h.dQ hi).1
 exact⟨this.1,by show(g.nd i).next.toNat<_;omega⟩
theorem nC.II (h:nC u g out) {i:Nat} (hi:tf out i=true):fw g (-1) (hD g i:Int):=by
 have h1:=h.next hi
 have:(hD g i:Int)=(g.nd i).next:=by show((g.nd i).next.toNat:Int)=_;omega
 rw[this]
 exact fw.step (h.v8 i hi).2.1 (by omega) (by rw[Int.toNat_natCast];exact(h.dQ hi).1)
theorem nC.w9 (h:nC u g out) {i:Nat} (hi:fw g (-1) (i:Int)):fw g (-1) (dX out g i:Int):=
 oY h.ends (P:=fun(i:Nat)=>fw g (-1) (i:Int)) (fun _ hj _=>h.II hj) hi
theorem nC.mem (h:nC u g out) {i:Nat}:i∈ca g out↔fw g (-1) (i:Int)/\tf out i=false:=by
 have h0:fw g (-1) (dX out g 0:Int):=h.w9 (i:=0) .zero
 unfold ca
 rw[List.mem_cons,List.mem_filter,List.mem_range]
 constructor
 ·rintro(rfl|⟨h1,h2⟩)
  ·exact⟨h0,wb h.ends 0⟩
  ·simp only[Bool.and_eq_true,Bool.not_eq_true',decide_eq_true_eq] at h2
   exact⟨(oR h1).1 h2.1.1,h2.1.2⟩
 ·rintro⟨h1,h2⟩
  by_cases e:i=dX out g 0
  ·exact .inl e
  ·have hl:=(qj h.ok.whole h1).2
   rw[Int.toNat_natCast] at hl
   refine .inr ⟨hl, ?_⟩
   simp only[Bool.and_eq_true,Bool.not_eq_true',decide_eq_true_eq]
   exact⟨⟨(oR hl).2 h1,h2⟩,e⟩
theorem nC.KA (h:nC u g out) {i:Nat} (hi:fw g (-1) (i:Int)):dX out g i∈ca g out:=h.mem.2 ⟨h.w9 hi,wb h.ends i⟩
theorem rS:∀(o:List Nat) (i:Nat),i∈o->∃k,o.findIdx? (fun j=>decide (j=i))=some k/\k<o.length/\o.getD k 0=i
 |[],_,h=>by simp at h
 |a::o,i,h=>by
  rw[List.findIdx?_cons]
  by_cases e:a=i
  ·exact⟨0,by simp[e],by simp,by simp[e]⟩
  ·obtain⟨k,h1,h2,h3⟩:=rS o i ((List.mem_cons.1 h).resolve_left fun x=>e x.symm)
   exact⟨k+1,by simp[e,h1],by simpa using h2,by simpa using h3⟩
theorem sR {o:List Nat} {i:Nat} (h:i∈o):eC o i<o.length/\o.getD (eC o i) 0=i:=by
 obtain⟨k,h1,h2,h3⟩:=rS o i h
 have:eC o i=k:=by unfold eC;rw[h1];rfl
 rw[this];exact⟨h2,h3⟩
theorem p8 {l:List Nat} (hn:l.Nodup) {a b:Nat} (ha:a<l.length) (hb:b<l.length) (h:l.getD a 0=l.getD b 0):a=b:=by
 rw[gd ha,gd hb] at h
 have hp:=List.pairwise_iff_getElem.1 hn
 rcases Nat.lt_trichotomy a b with hab|hab|hab
 ·exact absurd h (hp a b ha hb hab)
 ·exact hab
 ·exact absurd h.symm (hp b a hb ha hab)
theorem C9 {o:List Nat} (hn:o.Nodup) {k:Nat} (hk:k<o.length):eC o (o.getD k 0)=k:=by
 have hm:o.getD k 0∈o:=by rw[gd hk];exact List.getElem_mem hk
 obtain⟨h1,h2⟩:=sR hm
 exact p8 hn h1 hk h2
noncomputable def nt (g:br) (out:List Bool):br:={ g with nodes:=(ca g out).map fun i=>dH g out (ca g out) (g.nd i) }
theorem jt:(nt g out).nodes.length=(ca g out).length:=by simp[nt]
theorem vS {k:Nat} (hk:k<(ca g out).length):(nt g out).nd k=dH g out (ca g out) (g.nd ((ca g out).getD k 0)):=by
 show((ca g out).map fun i=>dH g out (ca g out) (g.nd i)).getD k default=_
 rw[gd hk]
 simp[List.getD,hk]
theorem za (n:Node):(dH g out (ca g out) n).dQ=n.dQ.map fun x=>(eC (ca g out) (dX out g x.toNat):Int):=by
 unfold dH Node.dQ
 dsimp only
 by_cases h9:n.kind=9
 ·rw[if_pos h9,if_pos h9];rfl
 ·rw[if_neg h9,if_neg h9,if_pos h9]
  by_cases h8:n.kind=8
  ·rw[if_pos h8,if_pos h8,if_pos h8];rfl
  ·rw[if_neg h8,if_neg h8];rfl
theorem mZ (g:br) (out:List Bool):(ca g out).Nodup:=jG g out g.nodes.length
theorem nC.lt (h:nC u g out) {i:Nat} (hi:i∈ca g out):i<g.nodes.length:=by
 have:=(qj h.ok.whole (h.mem.1 hi).1).2
 rwa[Int.toNat_natCast] at this
theorem nC.MT (h:nC u g out):1<=(ca g out).length/\(ca g out).length<=g.nodes.length:=by
 refine⟨by simp[ca], ?_⟩
 have:=jD (m:=List.range g.nodes.length) (mZ g out) fun x hx=>List.mem_range.2 (h.lt hx)
 simpa using this
theorem nC.to (h:nC u g out) {i:Nat} (hi:fw g (-1) (i:Int)) {x:Int} (hx:x∈(g.nd i).dQ):eC (ca g out) (dX out g x.toNat)<(ca g out).length/\(ca g out).getD (eC (ca g out) (dX out g x.toNat)) 0=dX out g x.toNat/\fw g (-1) (x.toNat:Int):=by
 have hc:fw g (-1) x:=fw.step hi (by omega) (by rw[Int.toNat_natCast];exact hx)
 have h0:=(qj h.ok.whole hc).1
 have hc2:fw g (-1) (x.toNat:Int):=by rw[Int.toNat_of_nonneg h0];exact hc
 have:=sR (h.KA hc2)
 exact⟨this.1,this.2,hc2⟩
theorem nC.node (h:nC u g out) {u2:bq} (h1:u2.shared.length=u.shared.length) (h2:u2.bz.length=u.bz.length):∀n∈(nt g out).nodes,nX u2 (nt g out) n:=by
 intro n hn
 obtain⟨i,hi,rfl⟩:=List.mem_map.1 hn
 have hc:=(h.mem.1 hi).1
 have ho:=h.ok.node (h.lt hi)
 have hfol:∀x∈(g.nd i).dQ,(0:Int)<=(eC (ca g out) (dX out g x.toNat):Int)/\(eC (ca g out) (dX out g x.toNat):Int)<((nt g out).nodes.length:Int):=fun x hx=>by
  have:=(h.to hc hx).1
  rw[jt];omega
 refine⟨ho.kind,ho.origin,ho.op,ho.slot, ?_,ho.a,ho.b, ?_, ?_⟩
 ·have:=ho.cT
  rw[<-h1,<-h2] at this
  exact this
 ·refine⟨fun hu=> ?_,fun hu=> ?_⟩
  ·have h9:(g.nd i).kind≠9:=by
    have:eQ (g.nd i).kind=true:=hu
    unfold eQ at this
    have:=of_decide_eq_true this
    omega
   have:(dH g out (ca g out) (g.nd i)).next=(eC (ca g out) (dX out g (g.nd i).next.toNat):Int):=by unfold dH;dsimp only;rw[if_pos h9]
   rw[this]
   refine hfol _ ?_
   unfold Node.dQ;rw[if_neg h9];split<;>simp
  ·have hk:=ho.kind
   have h9:(g.nd i).kind=9:=by
    have:eQ (g.nd i).kind=false:=hu
    unfold eQ at this
    have:=of_decide_eq_false this
    omega
   have:(dH g out (ca g out) (g.nd i)).next=(g.nd i).next:=by unfold dH;dsimp only;rw[if_neg (fun x=>x h9)]
   rw[this]
   exact ho.next.2 hu
 ·refine⟨fun hu=> ?_,fun hu=> ?_⟩
  ·have h8:(g.nd i).kind=8:=hu
   have:(dH g out (ca g out) (g.nd i)).jc=(eC (ca g out) (dX out g (g.nd i).jc.toNat):Int):=by unfold dH;dsimp only;rw[if_pos h8]
   rw[this]
   refine hfol _ ?_
   unfold Node.dQ;rw[if_neg (by omega),if_pos h8];simp
  ·have h8:(g.nd i).kind≠8:=hu
   have:(dH g out (ca g out) (g.nd i)).jc=(g.nd i).jc:=by unfold dH;dsimp only;rw[if_neg h8]
   rw[this]
   exact ho.jc.2 h8
theorem nC.whole (h:nC u g out):Whole (nt g out):=oz (u:=u) (by rw[jt];have:=h.MT;have:=h.ok.len;omega) (h.node rfl rfl)
theorem nC.held (h:nC u g out) {lk:Nat->List Int} (hlk:yQ g lk):yQ (nt g out) fun k=>lk ((ca g out).getD k 0):=by
 have hone:∀i:Nat,tf out i=true->lk (hD g i)=lk i:=fun i hi=>by
  obtain⟨_,hc,hk⟩:=h.v8 i hi
  obtain⟨now,h1,h2⟩:=hlk.on i hc
  rw[Int.toNat_natCast] at h1 h2
  have:now=lk i:=by
   unfold ct at h1
   rw[if_neg (by omega),if_neg (by omega),if_neg (by omega)] at h1
   cases h1;rfl
  rw[<-this]
  exact h2 _ (h.dQ hi).1
 have hheir:∀i:Nat,lk (dX out g i)=lk i:=fun i=>
  oY h.ends (P:=fun j=>lk j=lk i) (fun j hj hp=>(hone j hj).trans hp) rfl
 refine⟨?_,fun k hk=> ?_⟩
 ·show lk (dX out g 0)=[]
  rw[hheir,hlk.zero]
 ·obtain⟨h0,hkl⟩:=qj h.whole hk
  rw[jt] at hkl
  have hm:(ca g out).getD k.toNat 0∈ca g out:=by rw[gd hkl];exact List.getElem_mem hkl
  have hc:=(h.mem.1 hm).1
  obtain⟨now,h1,h2⟩:=hlk.on _ hc
  rw[Int.toNat_natCast] at h1 h2
  refine⟨now, ?_,fun x hx=> ?_⟩
  ·rw[vS hkl];exact h1
  ·rw[vS hkl,za] at hx
   obtain⟨y,hy,rfl⟩:=List.mem_map.1 hx
   rw[Int.toNat_natCast,(h.to hc hy).2.1,hheir]
   exact h2 y hy
theorem nC.graph (h:nC u g out) {u2:bq} (h1:u2.shared.length=u.shared.length) (h2:u2.bz.length=u.bz.length):dR u2 (nt g out):=by
 obtain⟨_,_,hlk,_⟩:=ko h.ok.whole h.ok.held
 refine⟨h.ok.locals,h.ok.cZ, ?_,h.node h1 h2, ?_⟩
 ·rw[jt];have:=h.MT;have:=h.ok.len;omega
 ·rw[FF h.whole (h.held hlk)];omega
theorem nC.full (h:nC u g out) (hl:(ca g out).length=g.nodes.length):∀i,i<g.nodes.length->i∈ca g out:=by
 intro i hi
 apply Classical.byContradiction
 intro hn
 have:=jD (l:=i::ca g out) (m:=List.range g.nodes.length) (List.nodup_cons.2 ⟨hn,mZ g out⟩) fun x hx=>by
  rcases List.mem_cons.1 hx with rfl|hx
  ·exact List.mem_range.2 hi
  ·exact List.mem_range.2 (h.lt hx)
 simp at this
 omega
theorem nC.range (h:nC u g out) (hl:(ca g out).length=g.nodes.length):ca g out=List.range g.nodes.length:=by
 have hf:=h.full hl
 have hw:=h.ok.len
 have h0:dX out g 0=0:=pS (h.mem.1 (hf 0 (by omega))).2
 unfold ca
 rw[h0,show(List.range g.nodes.length).filter (fun(i:Nat)=>iF (cj g (-1)) (i:Int)&& !tf out i&&decide (i≠0))=(List.range g.nodes.length).filter (fun(i:Nat)=>decide (i≠0)) from List.filter_congr fun i hi=>by
  have hi:=List.mem_range.1 hi
  have:=h.mem.1 (hf i hi)
  rw[(oR hi).2 this.1,this.2];rfl]
 obtain⟨m,hm⟩:∃m,g.nodes.length=m+1:=⟨g.nodes.length - 1,by omega⟩
 rw[hm,List.range_succ_eq_map,List.filter_cons_of_neg (by simp)]
 congr 1
 rw[List.filter_eq_self]
 intro a ha
 obtain⟨b,_,rfl⟩:=List.mem_map.1 ha
 simp
theorem nC.same (h:nC u g out) (hl:(ca g out).length=g.nodes.length):nt g out=g:=by
 have hr:=h.range hl
 have hf:=h.full hl
 have hp:∀j,j<g.nodes.length->eC (ca g out) (dX out g j)=j:=fun j hj=>by
  rw[pS (h.mem.1 (hf j hj)).2]
  have:=C9 (mZ g out) (k:=j) (by omega)
  rw[hr] at this ⊢
  rw[gd (by simpa using hj)] at this
  simpa using this
 have hn:(nt g out).nodes=g.nodes:=by
  apply List.ext_getElem (by rw[jt,hl])
  intro i h1 h2
  have hi:i<(ca g out).length:=by omega
  have e1:(nt g out).nodes[i]=(nt g out).nd i:=by simp[br.nd,List.getD,h1]
  have e2:g.nodes[i]=g.nd i:=by simp[br.nd,List.getD,h2]
  rw[e1,e2,vS hi]
  have:(ca g out).getD i 0=i:=by rw[hr,gd (by simpa using h2)];simp
  rw[this]
  have ho:=h.ok.node h2
  have hk:=ho.kind
  unfold dH
  have a1:(if(g.nd i).kind≠9 then(eC (ca g out) (dX out g (g.nd i).next.toNat):Int) else(g.nd i).next)=(g.nd i).next:=by
   split
   ·have:=ho.next.1 (by unfold eQ;exact decide_eq_true (by omega))
    rw[hp _ (by omega)];omega
   ·rfl
  have a2:(if(g.nd i).kind=8 then(eC (ca g out) (dX out g (g.nd i).jc.toNat):Int) else(g.nd i).jc)=(g.nd i).jc:=by
   split
   ·rename_i h8
    have:=ho.jc.1 h8
    rw[hp _ (by omega)];omega
   ·rfl
  rw[a1,a2]
 show({ g with nodes:=(nt g out).nodes }:br)=g
 rw[hn]
end
end
theorem xb (g:br) (cls:List cF) (t:Nat):fj g cls t=nt g (eR g cls t):=rfl
theorem fm (u:bq):(dA u).bo.length=u.bo.length:=by simp[dA]
theorem jq {u:bq} {t:Nat} (ht:t<u.bo.length):(dA u).gr t=fj (u.gr t) (ck u) t:=by
 show((List.range u.bo.length).map fun t=>fj (u.gr t) (ck u) t).getD t default=_
 simp[List.getD,ht]
theorem FC {u:bq} {g:br} (h:g∈u.bo):∃t,t<u.bo.length/\u.gr t=g:=by
 obtain⟨t,ht,rfl⟩:=List.getElem_of_mem h
 exact⟨t,ht,by simp[bq.gr,List.getD,ht]⟩
theorem zQ (u:bq):cY (dA u)=cY u:=by
 unfold cY
 have:(dA u).bo.map br.name=u.bo.map br.name:=by
  apply List.ext_getElem (by simp[dA])
  intro i h1 h2
  have hi:i<u.bo.length:=by simpa using h2
  simp[dA,fj,bq.gr,List.getD,hi]
 rw[this];rfl
theorem fF {u:bq} (h:cX u):cX (dA u):=by
 refine⟨?_,fun g hg=> ?_⟩
 ·have:=h.named
  unfold eV at this ⊢
  rw[zQ,fm]
  exact this
 ·obtain⟨t,ht,rfl⟩:=FC hg
  rw[fm] at ht
  rw[jq ht]
  exact(vJ (h.gr ht) (ck u) t).graph rfl rfl
theorem jF {u:bq} (hu:u.Wf) (hr:cX u):(dA u).Wf:=by
 refine⟨hu.shared,hu.gJ,hu.bz,hu.gz,fun g hg=> ?_,by rw[fm];exact hu.gp⟩
 obtain⟨t,ht,rfl⟩:=FC hg
 rw[fm] at ht
 have hgw:=hu.bo _ (cE default ht)
 have hi:=vJ (hr.gr ht) (ck u) t
 have hg2:dR u ((dA u).gr t):=by rw[jq ht];exact hi.graph rfl rfl
 have hl:=hg2.len
 have hsame:((dA u).gr t).name=(u.gr t).name/\((dA u).gr t).locals=(u.gr t).locals/\((dA u).gr t).cZ=(u.gr t).cZ:=by rw[jq ht];exact⟨rfl,rfl,rfl⟩
 refine⟨by rw[hsame.1];exact hgw.name,by rw[hsame.2.1];exact hgw.locals,by rw[hsame.2.2];exact hgw.cZ,fun n hn=> ?_,by omega⟩
 have ho:=hg2.nodes n hn
 rw[jq ht] at hn
 obtain⟨i,hi2,rfl⟩:=List.mem_map.1 hn
 have hnw:=hgw.nodes _ (cE default (hi.lt hi2))
 have hin:∀x:Int,0<=x/\x<((dA u).gr t).nodes.length->jE x:=fun x hx=>by unfold jE;omega
 refine⟨hnw.kind,hnw.op,hnw.slot,hnw.cT,hnw.a,hnw.b, ?_, ?_,hnw.origin⟩
 ·cases hun:eQ (dH (u.gr t) (eR (u.gr t) (ck u) t) (ca (u.gr t) (eR (u.gr t) (ck u) t)) ((u.gr t).nd i)).kind with
  |true=>exact hin _ (ho.next.1 hun)
  |false=>rw[ho.next.2 hun];unfold jE;omega
 ·by_cases h8:(dH (u.gr t) (eR (u.gr t) (ck u) t) (ca (u.gr t) (eR (u.gr t) (ck u) t)) ((u.gr t).nd i)).kind=8
  ·exact hin _ (ho.jc.1 h8)
  ·rw[ho.jc.2 h8];unfold jE;omega
theorem JC {α:Type} (f h:α->Nat):∀(l:List α),(∀a∈l,f a<=h a)->(l.map f).sum<=(l.map h).sum/\((l.map f).sum=(l.map h).sum->∀a∈l,f a=h a)
 |[],_=>by simp
 |a::l,hl=>by
  obtain⟨h1,h2⟩:=JC f h l fun x hx=>hl x (List.mem_cons_of_mem _ hx)
  have h3:=hl a (by simp)
  simp only[List.map_cons,List.sum_cons]
  refine⟨by omega,fun e x hx=> ?_⟩
  rcases List.mem_cons.1 hx with rfl|hx
  ·omega
  ·exact h2 (by omega) x hx
theorem size_range (u:bq):fW u=((List.range u.bo.length).map fun t=>(u.gr t).nodes.length).sum:=by
 unfold fW
 congr 1
 apply List.ext_getElem (by simp)
 intro i h1 h2
 have hi:i<u.bo.length:=by simpa using h1
 simp[bq.gr,List.getD,hi]
theorem C6 {u:bq} (h:cX u):∀t,t<u.bo.length->((dA u).gr t).nodes.length<=(u.gr t).nodes.length:=fun t ht=>by
 rw[jq ht,xb,jt];exact(vJ (h.gr ht) (ck u) t).MT.2
theorem DQ {u v:bq} (h1:u.shared=v.shared) (h2:u.bz=v.bz) (h3:u.bo.length=v.bo.length) (h4:∀t,t<u.bo.length->u.gr t=v.gr t):u=v:=by
 obtain⟨a,b,c⟩:=u
 obtain⟨a',b',c'⟩:=v
 simp only at h1 h2 h3
 subst h1;subst h2
 have:c=c':=by
  apply List.ext_getElem h3
  intro i hi1 hi2
  have:=h4 i hi1
  simpa[bq.gr,List.getD,hi1,hi2] using this
 rw[this]
theorem kx {u:bq} (h:cX u):fW (dA u)<=fW u/\(fW (dA u)=fW u->dA u=u):=by
 rw[size_range,size_range u,fm]
 obtain⟨h1,h2⟩:=JC (fun t=>((dA u).gr t).nodes.length) (fun t=>(u.gr t).nodes.length) (List.range u.bo.length) fun t ht=>C6 h t (List.mem_range.1 ht)
 refine⟨h1,fun e=>DQ rfl rfl (fm u) fun t ht=> ?_⟩
 rw[fm] at ht
 have:=h2 e t (List.mem_range.2 ht)
 rw[jq ht,xb] at this ⊢
 rw[jt] at this
 exact(vJ (h.gr ht) (ck u) t).same this
theorem se {v:bq} (h:cX v) (hs:fW v=0):dA v=v:=(kx h).2 (by have:=(kx h).1;omega)
theorem me:∀(f f2:Nat) (v:bq),cX v->fW v<=f->fW v<=f2->fO f v=fO f2 v
 |0,0,v,_,_,_=>rfl
 |0,f2+1,v,h,h1,_=>by rw[fO,fO,if_pos (se h (by omega))]
 |f+1,0,v,h,_,h2=>by rw[fO,fO,if_pos (se h (by omega))]
 |f+1,f2+1,v,h,h1,h2=>by
  rw[fO,fO]
  by_cases e:dA v=v
  ·rw[if_pos e,if_pos e]
  ·rw[if_neg e,if_neg e]
   have h3:=kx h
   have:fW (dA v)<fW v:=Nat.lt_of_le_of_ne h3.1 fun x=>e (h3.2 x)
   exact me f f2 _ (fF h) (by omega) (by omega)
theorem lZ {v:bq} (h:cX v) (e:dA v=v):fO (fW v) v=v:=by
 cases hf:fW v with
 |zero=>rfl
 |succ f=>rw[fO,if_pos e]
theorem sf {v:bq} (h:cX v) (e:dA v≠v):fO (fW v) v=fO (fW (dA v)) (dA v)/\fW (dA v)<fW v:=by
 have h3:=kx h
 have hlt:fW (dA v)<fW v:=Nat.lt_of_le_of_ne h3.1 fun x=>e (h3.2 x)
 refine⟨?_,hlt⟩
 obtain⟨f,hf⟩:∃f,fW v=f+1:=⟨fW v - 1,by omega⟩
 rw[hf,fO,if_neg e]
 exact me _ _ _ (fF h) (by omega) (Nat.le_refl _)
theorem sd {P:bq->Prop} (hs:∀v,cX v->P v->P (dA v)):∀(f:Nat) (v:bq),cX v->P v->cX (fO f v)/\P (fO f v)
 |0,v,h,hp=>⟨h,hp⟩
 |f+1,v,h,hp=>by
  rw[fO]
  split
  ·exact⟨h,hp⟩
  ·exact sd hs f _ (fF h) (hs v h hp)
theorem nB {P:bq->Prop} {u:bq} (h:cX u) (h0:P u) (hs:∀v,cX v->P v->P (dA v)):cX (gF u)/\P (gF u):=sd hs _ _ (fF h) (hs u h h0)
theorem nA {u:bq} (h:cX u):gF u=fO (fW (dA u)) (dA u):=me _ _ _ (fF h) (kx h).1 (Nat.le_refl _)
end Go.Proofs.YtmonponfppdgfaaGreatDoor
