import Derived.Test.YtekfmjjmihomlaaGreatDoorM33
import Derived.Test.YtekfmjjmihomlaaGreatDoorM44
import Derived.Test.YtekfmjjmihomlaaGreatDoorM35
namespace Go.Proofs.YtekfmjjmihomlaaGreatDoor
open Go Go.cw Go.Proofs
set_option linter.unusedSimpArgs false
set_option linter.unusedVariables false
section
noncomputable abbrev ff (u:bq) (t:Nat):List Bool:=fG (u.gr t) (cP u) t
noncomputable abbrev nC (u:bq) (t:Nat) (i:Nat):Nat:=eS (cS (u.gr t) (ff u t)) (eR (ff u t) (u.gr t) i)
abbrev kT (g:bu) (s i:Nat):Prop:=Q7 g hP kZ s i
abbrev gq (u:bq) (t v i:Nat):Prop:=Q7 (u.gr t) (qX (cP u) t) (rp (cP u) t) v i
abbrev MS.here (m:MS) (t:Nat):Nat:=(m.at_.getD t 0).toNat
structure eG (u:bq) (m m':MS):Prop where
 ok:ep u m
 BL:ep (dH u) m'
 pZ:∀t,t<u.br.length->e8 (u.gr t) (-1) (m.here t:Int)
 at_:∀t,t<u.br.length->m'.at_.getD t 0=(nC u t (m.here t):Int)
 slot:∀t,t<u.br.length->∀s,kT (u.gr t) s (m.here t)->(m'.bw.getD t []).getD s 0=(m.bw.getD t []).getD s 0
 mem:∀v,(∀t,t<u.br.length->jr (cP u) t v=true->gq u t v (m.here t))->m'.mem.getD v 0=m.mem.getD v 0
 hold:m'.hold=m.hold
 cC:m'.cC=m.cC
theorem HZ {m:Nat} {tl:List (Nat×List Int)} (h:(gv m tl).kind=1):∀x∈tl,(x.1:Int)=(gv m tl).cn:=by
 match tl with
 |[]=>intro x hx;cases hx
 |(t,l)::r=>
  unfold gv at h ⊢
  dsimp only at h ⊢
  by_cases hs:(r.all fun x=>decide (x.1=t))=true
  ·rw[if_pos hs]
   rw[List.all_eq_true] at hs
   intro x hx
   rcases List.mem_cons.1 hx with rfl|hx
   ·rfl
   ·have:=of_decide_eq_true (hs x hx)
    show(x.1:Int)=(t:Int)
    omega
  ·rw[if_neg hs] at h
   cases hf:(List.range m).find? (xh ((t,l)::r)) with
   |none=>rw[hf] at h;exact absurd (show(3:Int)=1 from h) (by decide)
   |some k=>rw[hf] at h;exact absurd (show(2:Int)=1 from h) (by decide)
theorem J2 {u:bq} {t t' i:Nat} (ht:t<u.br.length) (hi:i<(u.gr t).nodes.length) (hc:e8 (u.gr t) (-1) (i:Int)) (hk:((u.gr t).nd i).kind=2\/((u.gr t).nd i).kind=3\/((u.gr t).nd i).kind=4) (h0:0<=((u.gr t).nd i).cB) (ho:jr (cP u) t' ((u.gr t).nd i).cB.toNat=true):t'=t:=by
 unfold jr at ho
 simp only[Bool.and_eq_true,decide_eq_true_eq] at ho
 by_cases hl:((u.gr t).nd i).cB.toNat<u.shared.length
 ·rw[qf hl] at ho
  have hm:(t,(eP (u.gr t)).1.getD i [])∈gP (gu u u.br.length) (((u.gr t).nd i).cB.toNat:Int):=
   rK.2 ⟨ht,i,hi,hc,by unfold HB;exact decide_eq_true hk,by omega,rfl⟩
  have:=HZ ho.1 _ hm
  have h2:=ho.2
  dsimp only at this
  omega
 ·rw[vr hl] at ho
  exact absurd ho.1 (by decide)
theorem w9 {g:bu} {i s:Nat} {k:Int} (hk:k∈(g.nd i).iA) (hn:¬(kO (g.nd i)=true/\(g.nd i).slot=(s:Int))) (h:kT g s k.toNat):kT g s i:=by
 refine .on ?_ hk h
 unfold kZ
 cases hs:kO (g.nd i) with
 |false=>rfl
 |true=>
  have:(g.nd i).slot≠(s:Int):=fun e=>hn ⟨hs,e⟩
  rw[decide_eq_true this];rfl
theorem xC {u:bq} {t i v:Nat} {k:Int} (hk:k∈((u.gr t).nd i).iA) (ho:jr (cP u) t v=true) (hn:¬(((u.gr t).nd i).kind=3/\((u.gr t).nd i).cB=(v:Int))) (h:gq u t v k.toNat):gq u t v i:=by
 refine .on ?_ hk h
 unfold rp
 rw[ho]
 by_cases h1:((u.gr t).nd i).kind=3
 ·have h2:((u.gr t).nd i).cB≠(v:Int):=fun e=>hn ⟨h1,e⟩
  rw[decide_eq_true h1,decide_eq_false h2];rfl
 ·rw[decide_eq_false h1];rfl
section
variable {u:bq} {m m':MS} {t:Nat}
theorem SA (h:ep u m) (ht:t<u.br.length):m.here t<(u.gr t).nodes.length:=by
 have:=h.iL t ht
 show(m.at_.getD t 0).toNat<_
 omega
theorem eG.move (h:eG u m m') (ht:t<u.br.length) {m1 m1':MS} {k:Int} (o:ep u m1) (o':ep (dH u) m1') (hk:k∈((u.gr t).nd (m.here t)).iA)
 (ha:m1.at_=m.at_.set t k) (ha':m1'.at_.getD t 0=(nC u t k.toNat:Int)) (hb':∀t',t'≠t->m1'.at_.getD t' 0=m'.at_.getD t' 0)
 (hs:∀t',t'≠t->m1.bw.getD t' []=m.bw.getD t' []) (hs':∀t',t'≠t->m1'.bw.getD t' []=m'.bw.getD t' [])
 (hsl:∀s,kT (u.gr t) s k.toNat->(m1'.bw.getD t []).getD s 0=(m1.bw.getD t []).getD s 0)
 (hme:∀v,((∀t',t'<u.br.length->t'≠t->jr (cP u) t' v=true->gq u t' v (m.here t'))/\(jr (cP u) t v=true->gq u t v k.toNat))->m1'.mem.getD v 0=m1.mem.getD v 0)
 (hh:m1'.hold=m1.hold) (hp:m1'.cC=m1.cC):eG u m1 m1':=by
 have hat:∀t',m1.at_.getD t' 0=if t=t'/\t<m.at_.length then k else m.at_.getD t' 0:=fun t'=>by rw[ha,ct]
 have htl:t<m.at_.length:=by rw[h.ok.mK];exact ht
 have hat1:m1.at_.getD t 0=k:=by rw[hat,if_pos ⟨rfl,htl⟩]
 have hat2:∀t',t'≠t->m1.at_.getD t' 0=m.at_.getD t' 0:=fun t' hne=>by rw[hat,if_neg (fun e=>hne e.1.symm)]
 have hk0:0<=k:=by have:=o.iL t ht;rw[hat1] at this;exact this.1
 refine⟨o,o',fun t' ht'=> ?_,fun t' ht'=> ?_,fun t' ht' s hl=> ?_,fun v hv=>hme v ⟨fun t' ht' hne ho=> ?_,fun ho=> ?_⟩,hh,hp⟩
 ·by_cases e:t'=t
  ·subst e
   show e8 _ _ (((m1.at_.getD t' 0).toNat:Nat):Int)
   rw[hat1,Int.toNat_of_nonneg hk0]
   exact e8.step (h.pZ t' ht') (by omega) (by rw[Int.toNat_natCast];exact hk)
  ·have:=h.pZ t' ht'
   show e8 _ _ (((m1.at_.getD t' 0).toNat:Nat):Int)
   rw[hat2 t' e];exact this
 ·by_cases e:t'=t
  ·subst e
   show _=((nC u t' (m1.at_.getD t' 0).toNat:Nat):Int)
   rw[hat1];exact ha'
  ·show _=((nC u t' (m1.at_.getD t' 0).toNat:Nat):Int)
   rw[hat2 t' e,hb' t' e];exact h.at_ t' ht'
 ·by_cases e:t'=t
  ·subst e
   refine hsl s ?_
   have hl:kT (u.gr t') s (m1.at_.getD t' 0).toNat:=hl
   rwa[hat1] at hl
  ·rw[hs t' e,hs' t' e]
   refine h.slot t' ht' s ?_
   have hl:kT (u.gr t') s (m1.at_.getD t' 0).toNat:=hl
   rwa[hat2 t' e] at hl
 ·have:=hv t' ht' ho
  have this:gq u t' v (m1.at_.getD t' 0).toNat:=this
  rwa[hat2 t' hne] at this
 ·have this:gq u t v (m1.at_.getD t 0).toNat:=hv t ht ho
  rwa[hat1] at this
theorem gN (m:MS) (t:Nat) (k w:Int) {t':Nat} (h:t'≠t):(m.fS t k w).bw.getD t' []=m.bw.getD t' []:=by
 show(m.bw.set t _).getD t' []=_
 rw[ct,if_neg (fun e=>h e.1.symm)]
theorem ny (m:MS) {t:Nat} (ht:t<m.bw.length) (k w:Int):(m.fS t k w).bw.getD t []=(m.bw.getD t []).set k.toNat w:=by
 show(m.bw.set t _).getD t []=_
 rw[ct,if_pos ⟨rfl,ht⟩]
theorem eG.idle (hu:u.Wf) (hr:cN u) (h:eG u m m') (ht:t<u.br.length) (hi:tf (ff u t) (m.here t)=true):m.l3 u t=0/\eG u (m.step u t).1 m'/\(m.step u t).1.at_=m.at_.set t ((u.gr t).nd (m.here t)).next:=by
 have hg:=hr.gr ht
 have hI:=ll hg (cP u) t
 obtain⟨hl,hc,hk⟩:=hI.v8 _ hi
 have kg:=G9 hl (fT.1 hi).1
 have hno:=hg.node hl
 have hbar:m.l3 u t=0:=by
  unfold MS.l3
  rw[if_neg (by have:=h.ok.mK;omega),Int.toNat_natCast]
  have e:m.node u t=(u.gr t).nd (m.here t):=rfl
  rw[e,if_neg (by omega),if_neg (by omega)]
 have o1:=nz hu hr h.ok ht (jH h.ok ht hbar).1
 have hfol:=(hI.iA hi).1
 have hnx:(nC u t ((u.gr t).nd (m.here t)).next.toNat:Int)=m'.at_.getD t 0:=by
  rw[h.at_ t ht]
  show((eS _ (eR _ _ (iD (u.gr t) (m.here t))):Nat):Int)=_
  rw[<-xi hI.ends hi]
 have hsl:t<m.bw.length:=by rw[h.ok.sl];exact ht
 have e2:(m.step u t).1={ (m.act t ((u.gr t).nd (m.here t))).1 with at_:=m.at_.set t (m.act t ((u.gr t).nd (m.here t))).2.1 }:=rfl
 rw[e2] at o1 ⊢
 have hcl:(cP u).length=u.shared.length:=jY u
 unfold eF at kg
 dsimp only at kg
 rw[Bool.and_eq_true] at kg
 have kg:=kg.2
 have hslot:=h.slot t ht
 have hmem:=h.mem
 have hbl:=fun(s:Nat) (hs:s<(u.gr t).bw.toNat)=>vo (beg:=hP) (keep:=kZ) hg.whole hl hs
 have hbw:=fun(v:Nat) (hv:v<(cP u).length)=>vo (beg:=qX (cP u) t) (keep:=rp (cP u) t) hg.whole hl hv
 have hmv:=fun k (hk:k∈((u.gr t).nd (m.here t)).iA) m1=>h.move (m1:=m1) (m1':=m') ht (k:=k) (hk:=hk)
 have hlb:=fun s k (hk:k∈((u.gr t).nd (m.here t)).iA)=>w9 (g:=u.gr t) (i:=m.here t) (s:=s) (k:=k) hk
 have hwb:=fun v k (hk:k∈((u.gr t).nd (m.here t)).iA)=>xC (u:=u) (t:=t) (i:=m.here t) (v:=v) (k:=k) hk
 have hsw:∀s,hP ((u.gr t).nd (m.here t)) s=true->kT (u.gr t) s (m.here t):=fun s hs=> .beg hs
 have hlive:∀s:Nat,s<(u.gr t).bw.toNat->mb (iO (u.gr t)) ((u.gr t).nd (m.here t)) s=false->¬kT (u.gr t) s ((u.gr t).nd (m.here t)).next.toNat:=fun s hs hb ha=>by
  have:=(hbl s hs).2 ⟨_,hfol,ha⟩
  unfold iO at hb
  rw[hb] at this;cases this
 have hwait:∀v:Nat,v<(cP u).length->mb (oU (u.gr t) (cP u) t) ((u.gr t).nd (m.here t)) v=false->¬gq u t v ((u.gr t).nd (m.here t)).next.toNat:=fun v hv hb ha=>by
  have:=(hbw v hv).2 ⟨_,hfol,ha⟩
  unfold oU at hb
  rw[hb] at this;cases this
 have hgl:=h.ok.yS t ht
 clear hbl hbw e2
 generalize hn:(u.gr t).nd (m.here t)=n at *
 have hmemW:∀v:Nat,¬(n.kind=3/\n.cB=(v:Int))->((∀t',t'<u.br.length->t'≠t->jr (cP u) t' v=true->gq u t' v (m.here t'))/\(jr (cP u) t v=true->gq u t v n.next.toNat))->m'.mem.getD v 0=m.mem.getD v 0:=fun v hv ⟨q1,q2⟩=>hmem v fun t' ht' ho=>by
  by_cases e:t'=t
  ·subst e;exact hwb v _ hfol ho hv (q2 ho)
  ·exact q1 t' ht' e ho
 refine⟨hbar, ?_⟩
 rcases hk with h1|h2|h3|⟨h8,hne⟩
 ·have ea:m.act t n=(m.fS t n.slot (m.mS t n),n.next,0,m.mS t n,0):=by unfold MS.act;rw[if_pos h1]
  rw[ea] at o1 ⊢
  refine⟨hmv _ hfol _ o1 h.BL rfl hnx.symm (fun _ _=>rfl) (fun t' hne=>gN _ _ _ _ hne) (fun _ _=>rfl) (fun s hl2=> ?_) (fun v hv=> ?_) h.hold h.cC,rfl⟩
  ·have hsr:=hno.slot.1 (by unfold gQ;exact decide_eq_true (by omega))
   show _=((m.fS t n.slot (m.mS t n)).bw.getD t []).getD s 0
   rw[ny m hsl,ct,hgl]
   rw[if_pos h1] at kg
   by_cases e:n.slot.toNat=s
   ·rw[if_pos ⟨e,by omega⟩]
    rw[Bool.or_eq_true] at kg
    rcases kg with kg|kg
    ·rw[Bool.not_eq_true'] at kg
     exact absurd (e▸hl2) (hlive _ (by omega) kg)
    ·simp only[Bool.and_eq_true,decide_eq_true_eq] at kg
     obtain⟨⟨h0,hA⟩,hS⟩:=kg
     have hrd:hP n s=true:=by
      unfold hP
      have:n.a.slot=(s:Int):=by omega
      rw[decide_eq_true (show n.kind=1\/n.kind=3\/n.kind=4\/n.kind=7\/n.kind=8 from .inl h1),hA,decide_eq_true this];rfl
     rw[hslot s (hsw s hrd)]
     unfold MS.mS
     rw[h0,if_neg (by decide),if_neg (by decide)]
     unfold MS.val
     rw[if_pos hA,hS,e]
   ·rw[if_neg (fun q=>e q.1)]
    exact hslot s (hlb s _ hfol (fun q=>e (by omega)) hl2)
  ·exact hmemW v (by omega) hv
 ·have ea:m.act t n=(m.fS t n.slot (m.mem.getD n.cB.toNat 0),n.next,n.cB,m.mem.getD n.cB.toNat 0,0):=by unfold MS.act;rw[if_neg (by omega),if_pos h2]
  rw[ea] at o1 ⊢
  refine⟨hmv _ hfol _ o1 h.BL rfl hnx.symm (fun _ _=>rfl) (fun t' hne=>gN _ _ _ _ hne) (fun _ _=>rfl) (fun s hl2=> ?_) (fun v hv=> ?_) h.hold h.cC,rfl⟩
  ·have hsr:=hno.slot.1 (by unfold gQ;exact decide_eq_true (by omega))
   show _=((m.fS t n.slot (m.mem.getD n.cB.toNat 0)).bw.getD t []).getD s 0
   rw[ny m hsl,ct,hgl]
   rw[if_neg (by omega),if_pos h2] at kg
   by_cases e:n.slot.toNat=s
   ·rw[Bool.and_eq_true,Bool.not_eq_true'] at kg
    exact absurd (e▸hl2) (hlive _ (by omega) kg.2)
   ·rw[if_neg (fun q=>e q.1)]
    exact hslot s (hlb s _ hfol (fun q=>e (by omega)) hl2)
  ·exact hmemW v (by omega) hv
 ·have ea:m.act t n=({ m with mem:=m.mem.set n.cB.toNat (m.val t n.a) },n.next,n.cB,m.val t n.a,0):=by unfold MS.act;rw[if_neg (by omega),if_neg (by omega),if_pos h3]
  rw[ea] at o1 ⊢
  refine⟨hmv _ hfol _ o1 h.BL rfl hnx.symm (fun _ _=>rfl) (fun _ _=>rfl) (fun _ _=>rfl) (fun s hl2=> ?_) (fun v hv=> ?_) h.hold h.cC,rfl⟩
  ·exact hslot s (hlb s _ hfol (fun q=>by have q:=q.1;unfold kO at q;have:=of_decide_eq_true q;omega) hl2)
  ·have htr:=hno.cB.1 (by unfold fD;exact decide_eq_true (by omega))
   rw[if_neg (by omega)] at htr
   show _=(m.mem.set n.cB.toNat (m.val t n.a)).getD v 0
   rw[ct]
   rw[if_neg (by omega),if_neg (by omega),if_pos h3,Bool.and_eq_true,Bool.not_eq_true'] at kg
   by_cases e:n.cB.toNat=v
   ·subst e
    exact absurd (hv.2 kg.1) (hwait _ (by omega) kg.2)
   ·rw[if_neg (fun q=>e q.1)]
    exact hmemW v (fun q=>e (by omega)) hv
 ·have ea:m.act t n=(m,if m.val t n.a=0 then n.iu else n.next,0,m.val t n.a,0):=by
   unfold MS.act
   rw[if_neg (by omega),if_neg (by omega),if_neg (by omega),if_neg (by omega),if_neg (by omega),if_neg (by omega),if_neg (by omega)]
  have ea:m.act t n=(m,n.next,0,m.val t n.a,0):=by rw[ea,<-hne,ite_self]
  rw[ea] at o1 ⊢
  refine⟨hmv _ hfol _ o1 h.BL rfl hnx.symm (fun _ _=>rfl) (fun _ _=>rfl) (fun _ _=>rfl) (fun s hl2=> ?_) (fun v hv=> ?_) h.hold h.cC,rfl⟩
  ·exact hslot s (hlb s _ hfol (fun q=>by have q:=q.1;unfold kO at q;have:=of_decide_eq_true q;omega) hl2)
  ·exact hmemW v (by omega) hv
end
end
section
section
variable {u:bq} {m m':MS} {t:Nat}
theorem eG.node (hr:cN u) (h:eG u m m') (ht:t<u.br.length) (hi:tf (ff u t) (m.here t)=false):m'.node (dH u) t=dQ (u.gr t) (ff u t) (cS (u.gr t) (ff u t)) (m.node u t):=by
 have hI:=ll (hr.gr ht) (cP u) t
 have hm:m.here t∈cS (u.gr t) (ff u t):=hI.mem.2 ⟨h.pZ t ht,hi⟩
 obtain⟨p1,p2⟩:=nG hm
 show((dH u).gr t).nd (m'.at_.getD t 0).toNat=_
 rw[gk ht,h.at_ t ht,Int.toNat_natCast,u0]
 show(mC (u.gr t) (ff u t)).nd (eS (cS (u.gr t) (ff u t)) (eR (ff u t) (u.gr t) (m.here t)))=_
 rw[jA hi,nn p1,p2]
theorem eG.l3 (hr:cN u) (h:eG u m m') (ht:t<u.br.length) (hi:tf (ff u t) (m.here t)=false):m'.l3 (dH u) t=m.l3 u t:=by
 have hn:=h.node hr ht hi
 have a1:=h.ok.mK
 have a2:=h.BL.mK
 have a3:=eA u
 unfold MS.l3
 rw[if_neg (show ¬((t:Int)<0\/(m'.at_.length:Int)<=t) by omega),if_neg (show ¬((t:Int)<0\/(m.at_.length:Int)<=t) by omega),Int.toNat_natCast,hn,h.hold]
 rfl
theorem eG.both (hu:u.Wf) (hr:cN u) (h:eG u m m') (ht:t<u.br.length) (hi:tf (ff u t) (m.here t)=false) (hb:m.l3 u t=0):eG u (m.step u t).1 (m'.step (dH u) t).1:=by
 have hg:=hr.gr ht
 have hl:=SA h.ok ht
 have hno:=hg.node hl
 have o1:=nz hu hr h.ok ht (jH h.ok ht hb).1
 have o1':=nz (nk hu hr) (fx hr) h.BL (t:=t) (by rw[eA];exact ht) (by rw[h.node hr ht hi];exact(jH h.ok ht hb).1)
 have e1:(m.step u t).1={ (m.act t ((u.gr t).nd (m.here t))).1 with at_:=m.at_.set t (m.act t ((u.gr t).nd (m.here t))).2.1 }:=rfl
 have e2:(m'.step (dH u) t).1={ (m'.act t (m'.node (dH u) t)).1 with at_:=m'.at_.set t (m'.act t (m'.node (dH u) t)).2.1 }:=rfl
 have k9:((u.gr t).nd (m.here t)).kind≠9:=(jH h.ok ht hb).1
 rw[h.node hr ht hi] at e2
 have e3:m.node u t=(u.gr t).nd (m.here t):=rfl
 rw[e3] at e2
 rw[e1] at o1 ⊢
 rw[e2] at o1' ⊢
 clear e1 e2
 have htl:t<m'.at_.length:=by rw[h.BL.mK,eA];exact ht
 have hself:∀k:Int,(m'.at_.set t k).getD t 0=k:=fun k=>by rw[ct,if_pos ⟨rfl,htl⟩]
 have hoth:∀(k:Int) t',t'≠t->(m'.at_.set t k).getD t' 0=m'.at_.getD t' 0:=fun k t' hne=>by rw[ct,if_neg (fun e=>hne e.1.symm)]
 have hmv:=fun k (hk:k∈((u.gr t).nd (m.here t)).iA) m1 m1'=>h.move (m1:=m1) (m1':=m1') ht (k:=k) (hk:=hk)
 have hlb:=fun s k (hk:k∈((u.gr t).nd (m.here t)).iA)=>w9 (g:=u.gr t) (i:=m.here t) (s:=s) (k:=k) hk
 have hwb:=fun v k (hk:k∈((u.gr t).nd (m.here t)).iA)=>xC (u:=u) (t:=t) (i:=m.here t) (v:=v) (k:=k) hk
 have hsw:∀s,hP ((u.gr t).nd (m.here t)) s=true->(m'.bw.getD t []).getD s 0=(m.bw.getD t []).getD s 0:=fun s hs=>h.slot t ht s (.beg hs)
 have hslot:=h.slot t ht
 have hmem:=h.mem
 have hot:=fun t'=>J2 (t':=t') ht hl (h.pZ t ht)
 have hwl:∀v:Nat,jr (cP u) t v=true->(((u.gr t).nd (m.here t)).kind=2\/((u.gr t).nd (m.here t)).kind=4)->((u.gr t).nd (m.here t)).cB=(v:Int)->gq u t v (m.here t):=fun v ho hk he=> .beg (by
  unfold qX
  rw[ho,decide_eq_true hk,decide_eq_true he];simp)
 have hgl:=h.ok.yS t ht
 have hgl':(m'.bw.getD t []).length=(u.gr t).bw.toNat:=by
  have:=h.BL.yS t (by rw[eA];exact ht)
  rw[this,gk ht];rfl
 have hsl:t<m.bw.length:=by rw[h.ok.sl];exact ht
 have hsl':t<m'.bw.length:=by rw[h.BL.sl,eA];exact ht
 have hml:=h.ok.ml
 have hml':m'.mem.length=u.shared.length:=h.BL.ml
 have hre:∀n:Node,(dQ (u.gr t) (ff u t) (cS (u.gr t) (ff u t)) n).kind=n.kind/\(dQ (u.gr t) (ff u t) (cS (u.gr t) (ff u t)) n).op=n.op/\(dQ (u.gr t) (ff u t) (cS (u.gr t) (ff u t)) n).slot=n.slot/\(dQ (u.gr t) (ff u t) (cS (u.gr t) (ff u t)) n).cB=n.cB/\(dQ (u.gr t) (ff u t) (cS (u.gr t) (ff u t)) n).a=n.a/\(dQ (u.gr t) (ff u t) (cS (u.gr t) (ff u t)) n).b=n.b:=fun n=>⟨rfl,rfl,rfl,rfl,rfl,rfl⟩
 have hrn:∀n:Node,n.kind≠9->(dQ (u.gr t) (ff u t) (cS (u.gr t) (ff u t)) n).next=(nC u t n.next.toNat:Int):=fun n hn=>by unfold dQ;dsimp only;rw[if_pos hn]
 have hrl:∀n:Node,n.kind=8->(dQ (u.gr t) (ff u t) (cS (u.gr t) (ff u t)) n).iu=(nC u t n.iu.toNat:Int):=fun n hn=>by unfold dQ;dsimp only;rw[if_pos hn]
 generalize hn:(u.gr t).nd (m.here t)=n at *
 obtain⟨r1,r2,r3,r4,r5,r6⟩:=hre n
 have r7:=hrn n k9
 have r8:=hrl n
 generalize dQ (u.gr t) (ff u t) (cS (u.gr t) (ff u t)) n=n' at *
 have hkd:=hno.kind
 have hfn:n.next∈n.iA:=by unfold Node.iA;rw[if_neg k9];split<;>simp
 have hva:(n.kind=1\/n.kind=3\/n.kind=4\/n.kind=7\/n.kind=8)->m'.val t n.a=m.val t n.a:=fun hk=>by
  unfold MS.val
  cases hA:n.a.ee with
  |false=>rfl
  |true=>
   rw[if_pos rfl,if_pos rfl]
   have h1:=hno.a
   unfold sU oT at h1
   rw[if_pos (decide_eq_true hk),if_pos hA] at h1
   simp only[Bool.and_eq_true,decide_eq_true_eq] at h1
   refine hsw _ ?_
   unfold hP
   have:n.a.slot=(n.a.slot.toNat:Int):=by omega
   rw[decide_eq_true hk,hA,decide_eq_true this];rfl
 have hvb:n.kind=1->dY n.op=true->m'.val t n.b=m.val t n.b:=fun hk ho=>by
  unfold MS.val
  cases hA:n.b.ee with
  |false=>rfl
  |true=>
   rw[if_pos rfl,if_pos rfl]
   have h1:=hno.b
   unfold sU at h1
   rw[decide_eq_true hk,ho,if_pos (by rfl),if_pos hA] at h1
   simp only[Bool.and_eq_true,decide_eq_true_eq] at h1
   refine hsw _ ?_
   unfold hP
   have:n.b.slot=(n.b.slot.toNat:Int):=by omega
   rw[decide_eq_true hk,ho,hA,decide_eq_true this];simp
 have hld:(n.kind=2\/n.kind=4)->m'.mem.getD n.cB.toNat 0=m.mem.getD n.cB.toNat 0:=fun hk=>by
  have htr:=hno.cB.1 (by unfold fD;exact decide_eq_true (by omega))
  refine hmem _ fun t' ht' ho=> ?_
  have e:=hot t' (by omega) htr.1 ho
  subst e
  exact hwl _ ho hk (by omega)
 have hmemW:∀k∈n.iA,∀v:Nat,¬(n.kind=3/\n.cB=(v:Int))->((∀t',t'<u.br.length->t'≠t->jr (cP u) t' v=true->gq u t' v (m.here t'))/\(jr (cP u) t v=true->gq u t v k.toNat))->m'.mem.getD v 0=m.mem.getD v 0:=fun k hk v hv ⟨q1,q2⟩=>hmem v fun t' ht' ho=>by
  by_cases e:t'=t
  ·subst e;exact hwb v _ hk ho hv (q2 ho)
  ·exact q1 t' ht' e ho
 have hslotW:∀k∈n.iA,kO n=false->∀s,kT (u.gr t) s k.toNat->(m'.bw.getD t []).getD s 0=(m.bw.getD t []).getD s 0:=fun k hk hs s hl2=>hslot s (hlb s k hk (fun q=>by rw[hs] at q;cases q.1) hl2)
 have hgets:∀w:Int,n.kind=1\/n.kind=2\/n.kind=4->∀s,kT (u.gr t) s n.next.toNat->((m'.fS t n.slot w).bw.getD t []).getD s 0=((m.fS t n.slot w).bw.getD t []).getD s 0:=fun w hk s hl2=>by
  have hsr:=hno.slot.1 (by unfold gQ;exact decide_eq_true hk)
  rw[ny m hsl,ny m' hsl',ct,ct,hgl,hgl']
  by_cases e:n.slot.toNat=s
  ·rw[if_pos ⟨e,by omega⟩,if_pos ⟨e,by omega⟩]
  ·rw[if_neg (fun q=>e q.1),if_neg (fun q=>e q.1)]
   exact hslot s (hlb s _ hfn (fun q=>e (by omega)) hl2)
 have hput:∀w:Int,n.kind=3\/n.kind=4->∀v:Nat,((∀t',t'<u.br.length->t'≠t->jr (cP u) t' v=true->gq u t' v (m.here t'))/\(jr (cP u) t v=true->gq u t v n.next.toNat))->(m'.mem.set n.cB.toNat w).getD v 0=(m.mem.set n.cB.toNat w).getD v 0:=fun w hk v hv=>by
  have htr:=hno.cB.1 (by unfold fD;exact decide_eq_true (by omega))
  rw[if_neg (by omega)] at htr
  rw[ct,ct,hml,hml']
  by_cases e:n.cB.toNat=v
  ·rw[if_pos ⟨e,by omega⟩,if_pos ⟨e,by omega⟩]
  ·rw[if_neg (fun q=>e q.1),if_neg (fun q=>e q.1)]
   exact hmemW _ hfn v (fun q=>e (by omega)) hv
 have hcases:n.kind=1\/n.kind=2\/n.kind=3\/n.kind=4\/n.kind=5\/n.kind=6\/n.kind=7\/n.kind=8:=by omega
 rcases hcases with k1|k1|k1|k1|k1|k1|k1|k1
 ·have ea:m.act t n=(m.fS t n.slot (m.mS t n),n.next,0,m.mS t n,0):=by unfold MS.act;rw[if_pos k1]
  have ea':m'.act t n'=(m'.fS t n.slot (m.mS t n),(nC u t n.next.toNat:Int),0,m.mS t n,0):=by
   have:m'.mS t n'=m.mS t n:=by
    unfold MS.mS
    rw[r2,r5,r6,hva (by omega)]
    cases ho:dY n.op with
    |false=>rfl
    |true=>rw[hvb k1 ho]
   unfold MS.act;rw[if_pos (by omega),this,r3,r7]
  rw[ea] at o1 ⊢
  rw[ea'] at o1' ⊢
  exact hmv _ hfn _ _ o1 o1' rfl (hself _) (hoth _) (fun t' hne=>gN _ _ _ _ hne) (fun t' hne=>gN _ _ _ _ hne) (hgets _ (by omega)) (fun w=>hmemW _ hfn w (by omega)) h.hold h.cC
 ·have ea:m.act t n=(m.fS t n.slot (m.mem.getD n.cB.toNat 0),n.next,n.cB,m.mem.getD n.cB.toNat 0,0):=by unfold MS.act;rw[if_neg (by omega),if_pos k1]
  have ea':m'.act t n'=(m'.fS t n.slot (m.mem.getD n.cB.toNat 0),(nC u t n.next.toNat:Int),n.cB,m.mem.getD n.cB.toNat 0,0):=by unfold MS.act;rw[if_neg (by omega),if_pos (by omega),r3,r4,r7,hld (by omega)]
  rw[ea] at o1 ⊢
  rw[ea'] at o1' ⊢
  exact hmv _ hfn _ _ o1 o1' rfl (hself _) (hoth _) (fun t' hne=>gN _ _ _ _ hne) (fun t' hne=>gN _ _ _ _ hne) (hgets _ (by omega)) (fun w=>hmemW _ hfn w (by omega)) h.hold h.cC
 ·have ea:m.act t n=({ m with mem:=m.mem.set n.cB.toNat (m.val t n.a) },n.next,n.cB,m.val t n.a,0):=by unfold MS.act;rw[if_neg (by omega),if_neg (by omega),if_pos k1]
  have ea':m'.act t n'=({ m' with mem:=m'.mem.set n.cB.toNat (m.val t n.a) },(nC u t n.next.toNat:Int),n.cB,m.val t n.a,0):=by unfold MS.act;rw[if_neg (by omega),if_neg (by omega),if_pos (by omega),r4,r5,r7,hva (by omega)]
  rw[ea] at o1 ⊢
  rw[ea'] at o1' ⊢
  exact hmv _ hfn _ _ o1 o1' rfl (hself _) (hoth _) (fun _ _=>rfl) (fun _ _=>rfl) (hslotW _ hfn (by unfold kO;exact decide_eq_false (by omega))) (hput _ (by omega)) h.hold h.cC
 ·have ea:m.act t n=({ m.fS t n.slot (m.mem.getD n.cB.toNat 0) with mem:=m.mem.set n.cB.toNat (m.val t n.a) },n.next,n.cB,m.mem.getD n.cB.toNat 0,m.val t n.a):=by unfold MS.act;rw[if_neg (by omega),if_neg (by omega),if_neg (by omega),if_pos k1]
  have ea':m'.act t n'=({ m'.fS t n.slot (m.mem.getD n.cB.toNat 0) with mem:=m'.mem.set n.cB.toNat (m.val t n.a) },(nC u t n.next.toNat:Int),n.cB,m.mem.getD n.cB.toNat 0,m.val t n.a):=by unfold MS.act;rw[if_neg (by omega),if_neg (by omega),if_neg (by omega),if_pos (by omega),r3,r4,r5,r7,hva (by omega),hld (by omega)]
  rw[ea] at o1 ⊢
  rw[ea'] at o1' ⊢
  exact hmv _ hfn _ _ o1 o1' rfl (hself _) (hoth _) (fun t' hne=>gN _ _ _ _ hne) (fun t' hne=>gN _ _ _ _ hne) (hgets _ (by omega)) (hput _ (by omega)) h.hold h.cC
 ·have ea:m.act t n=({ m with hold:=m.hold.set n.cB.toNat t },n.next,n.cB,0,0):=by unfold MS.act;rw[if_neg (by omega),if_neg (by omega),if_neg (by omega),if_neg (by omega),if_pos k1]
  have ea':m'.act t n'=({ m' with hold:=m'.hold.set n.cB.toNat t },(nC u t n.next.toNat:Int),n.cB,0,0):=by unfold MS.act;rw[if_neg (by omega),if_neg (by omega),if_neg (by omega),if_neg (by omega),if_pos (by omega),r4,r7]
  rw[ea] at o1 ⊢
  rw[ea'] at o1' ⊢
  exact hmv _ hfn _ _ o1 o1' rfl (hself _) (hoth _) (fun _ _=>rfl) (fun _ _=>rfl) (hslotW _ hfn (by unfold kO;exact decide_eq_false (by omega))) (fun w=>hmemW _ hfn w (by omega)) (by show m'.hold.set _ _=m.hold.set _ _;rw[h.hold]) h.cC
 ·have ea:m.act t n=({ m with hold:=m.hold.set n.cB.toNat (-1) },n.next,n.cB,0,0):=by unfold MS.act;rw[if_neg (by omega),if_neg (by omega),if_neg (by omega),if_neg (by omega),if_neg (by omega),if_pos k1]
  have ea':m'.act t n'=({ m' with hold:=m'.hold.set n.cB.toNat (-1) },(nC u t n.next.toNat:Int),n.cB,0,0):=by unfold MS.act;rw[if_neg (by omega),if_neg (by omega),if_neg (by omega),if_neg (by omega),if_neg (by omega),if_pos (by omega),r4,r7]
  rw[ea] at o1 ⊢
  rw[ea'] at o1' ⊢
  exact hmv _ hfn _ _ o1 o1' rfl (hself _) (hoth _) (fun _ _=>rfl) (fun _ _=>rfl) (hslotW _ hfn (by unfold kO;exact decide_eq_false (by omega))) (fun w=>hmemW _ hfn w (by omega)) (by show m'.hold.set _ _=m.hold.set _ _;rw[h.hold]) h.cC
 ·have ea:m.act t n=({ m with cC:=m.cC++[⟨t,m.val t n.a⟩] },n.next,0,m.val t n.a,0):=by unfold MS.act;rw[if_neg (by omega),if_neg (by omega),if_neg (by omega),if_neg (by omega),if_neg (by omega),if_neg (by omega),if_pos k1]
  have ea':m'.act t n'=({ m' with cC:=m'.cC++[⟨t,m.val t n.a⟩] },(nC u t n.next.toNat:Int),0,m.val t n.a,0):=by unfold MS.act;rw[if_neg (by omega),if_neg (by omega),if_neg (by omega),if_neg (by omega),if_neg (by omega),if_neg (by omega),if_pos (by omega),r5,r7,hva (by omega)]
  rw[ea] at o1 ⊢
  rw[ea'] at o1' ⊢
  exact hmv _ hfn _ _ o1 o1' rfl (hself _) (hoth _) (fun _ _=>rfl) (fun _ _=>rfl) (hslotW _ hfn (by unfold kO;exact decide_eq_false (by omega))) (fun w=>hmemW _ hfn w (by omega)) h.hold (by show m'.cC++_=m.cC++_;rw[h.cC])
 ·have hns:¬(n.kind=1)/\¬(n.kind=2)/\¬(n.kind=3)/\¬(n.kind=4)/\¬(n.kind=5)/\¬(n.kind=6)/\¬(n.kind=7):=by omega
  obtain⟨n1,n2,n3,n4,n5,n6,n7⟩:=hns
  have ea:m.act t n=(m,if m.val t n.a=0 then n.iu else n.next,0,m.val t n.a,0):=by
   unfold MS.act
   rw[if_neg n1,if_neg n2,if_neg n3,if_neg n4,if_neg n5,if_neg n6,if_neg n7]
  have ea':m'.act t n'=(m',if m.val t n.a=0 then(nC u t n.iu.toNat:Int) else(nC u t n.next.toNat:Int),0,m.val t n.a,0):=by
   unfold MS.act
   rw[r1,if_neg n1,if_neg n2,if_neg n3,if_neg n4,if_neg n5,if_neg n6,if_neg n7,r5,r7,r8 k1,hva (by omega)]
  have hfe:n.iu∈n.iA:=by unfold Node.iA;rw[if_neg k9,if_pos k1];simp
  have hsb:kO n=false:=by unfold kO;exact decide_eq_false (by omega)
  by_cases h0:m.val t n.a=0
  ·rw[if_pos h0] at ea ea'
   rw[ea] at o1 ⊢
   rw[ea'] at o1' ⊢
   exact hmv _ hfe _ _ o1 o1' rfl (hself _) (hoth _) (fun _ _=>rfl) (fun _ _=>rfl) (hslotW _ hfe hsb) (fun w=>hmemW _ hfe w (by omega)) h.hold h.cC
  ·rw[if_neg h0] at ea ea'
   rw[ea] at o1 ⊢
   rw[ea'] at o1' ⊢
   exact hmv _ hfn _ _ o1 o1' rfl (hself _) (hoth _) (fun _ _=>rfl) (fun _ _=>rfl) (hslotW _ hfn hsb) (fun w=>hmemW _ hfn w (by omega)) h.hold h.cC
end
end
inductive Steps (u:bq) (m0:MS):MS->Prop where
 |none:Steps u m0 m0
 |more {m:MS} {t:Nat}:Steps u m0 m->t<u.br.length->m.l3 u t=0->Steps u m0 (m.step u t).1
theorem Steps.trans {u:bq} {a b c:MS} (h:Steps u a b) (h2:Steps u b c):Steps u a c:=by
 induction h2 with
 |none=>exact h
 |more _ ht hb ih=>exact .more ih ht hb
theorem eG.start {u:bq} (hu:u.Wf) (hr:cN u):eG u (eC u) (eC (dH u)):=by
 have hz:∀(v:bq) t,(eC v).at_.getD t 0=0:=fun v t=>by
  show(v.br.map fun _=>(0:Int)).getD t 0=0
  by_cases h:t<v.br.length
  ·simp[List.getD,h]
  ·rw[List.getD,List.getElem?_eq_none (by simpa using h)];rfl
 refine⟨PI u hu hr,PI _ (nk hu hr) (fx hr),fun t ht=> ?_,fun t ht=> ?_,fun t ht s _=> ?_,fun v _=>rfl,rfl,rfl⟩
 ·show e8 _ _ ((((eC u).at_.getD t 0).toNat:Nat):Int)
  rw[hz];exact .zero
 ·show _=((nC u t ((eC u).at_.getD t 0).toNat:Nat):Int)
  rw[hz,hz]
  have hI:=ll (hr.gr ht) (cP u) t
  have:=nq (gL (u.gr t) (ff u t)) (k:=0) hI.PO.1
  exact(congrArg (fun k:Nat=>(k:Int)) this).symm
 ·have e:∀(v:bq),t<v.br.length->(eC v).bw.getD t []=List.replicate (v.gr t).bw.toNat 0:=fun v hv=>by simp[eC,List.getD,bq.gr,hv]
  rw[e u ht,e _ (by rw[eA];exact ht),gk ht]
  rfl
theorem NB {u:bq} {m:MS} (h:ep u m) {m1:MS} {t:Nat} (ht:t<u.br.length) {k:Int} (e:m1.at_=m.at_.set t k):m1.here t=k.toNat/\∀t',t'≠t->m1.here t'=m.here t':=by
 refine⟨?_,fun t' hne=> ?_⟩
 ·show(m1.at_.getD t 0).toNat=_
  rw[e,ct,if_pos ⟨rfl,by rw[h.mK];exact ht⟩]
 ·show(m1.at_.getD t' 0).toNat=(m.at_.getD t' 0).toNat
  rw[e,ct,if_neg (fun q=>hne q.1.symm)]
theorem eG.UC {u:bq} (hu:u.Wf) (hr:cN u) {t:Nat} (ht:t<u.br.length) {m':MS}:∀(k:Nat) (m:MS),eG u m m'->tf (ff u t) (iter (u.gr t) (m.here t) k)=false->(∀q,q<k->tf (ff u t) (iter (u.gr t) (m.here t) q)=true)->
 ∃m2,Steps u m m2/\eG u m2 m'/\tf (ff u t) (m2.here t)=false/\∀t',t'≠t->m2.here t'=m.here t'
 |0,m,h,h1,_=>⟨m, .none,h,h1,fun _ _=>rfl⟩
 |k+1,m,h,h1,h2=>by
  obtain⟨b,h3,e⟩:=h.idle hu hr ht (h2 0 (by omega))
  obtain⟨e1,e2⟩:=NB h.ok ht e
  have e1:(m.step u t).1.here t=iD (u.gr t) (m.here t):=e1
  obtain⟨m2,s1,s2,s3,s4⟩:=eG.UC hu hr ht k _ h3 (by rw[e1,<-iC];exact h1) (fun q hq=>by rw[e1,<-iC];exact h2 (q+1) (by omega))
  exact⟨m2,(Steps.more .none ht b).trans s1,s2,s3,fun t' hne=>(s4 t' hne).trans (e2 t' hne)⟩
theorem eG.L1 {u:bq} (hu:u.Wf) (hr:cN u) {t:Nat} (ht:t<u.br.length) {m m':MS} (h:eG u m m'):∃m2,Steps u m m2/\eG u m2 m'/\tf (ff u t) (m2.here t)=false/\∀t',t'≠t->m2.here t'=m.here t':=by
 obtain⟨k,_,h2,h3⟩:=(ll (hr.gr ht) (cP u) t).ends (m.here t)
 exact h.UC hu hr ht k m h2 h3
theorem eG.all {u:bq} (hu:u.Wf) (hr:cN u) {m m':MS} (h:eG u m m'):∀j,j<=u.br.length->∃m2,Steps u m m2/\eG u m2 m'/\∀t,t<j->tf (ff u t) (m2.here t)=false
 |0,_=>⟨m, .none,h,fun t ht=>absurd ht (Nat.not_lt_zero t)⟩
 |j+1,hj=>by
  obtain⟨m2,s1,s2,s3⟩:=h.all hu hr j (by omega)
  obtain⟨m3,r1,r2,r3,r4⟩:=s2.L1 hu hr (t:=j) (by omega)
  refine⟨m3,s1.trans r1,r2,fun t ht=> ?_⟩
  by_cases e:t=j
  ·subst e;exact r3
  ·rw[r4 t e];exact s3 t (by omega)
theorem fwd {u:bq} (hu:u.Wf) (hr:cN u) {m:MS} (h:Steps u (eC u) m):∃m',Steps (dH u) (eC (dH u)) m'/\eG u m m':=by
 induction h with
 |none=>exact⟨_, .none,eG.start hu hr⟩
 |@more m t _ ht hb ih=>
  obtain⟨m',s1,s2⟩:=ih
  cases hi:tf (ff u t) (m.here t) with
  |true=>exact⟨m',s1,(s2.idle hu hr ht hi).2.1⟩
  |false=>exact⟨_, .more s1 (by rw[eA];exact ht) (by rw[s2.l3 hr ht hi];exact hb),s2.both hu hr ht hi hb⟩
theorem bwd {u:bq} (hu:u.Wf) (hr:cN u) {m':MS} (h:Steps (dH u) (eC (dH u)) m'):∃m,Steps u (eC u) m/\eG u m m':=by
 induction h with
 |none=>exact⟨_, .none,eG.start hu hr⟩
 |@more m' t _ ht hb ih=>
  obtain⟨m,s1,s2⟩:=ih
  rw[eA] at ht
  obtain⟨m2,r1,r2,r3,_⟩:=s2.L1 hu hr ht
  have hb2:m2.l3 u t=0:=by rw[<-r2.l3 hr ht r3];exact hb
  exact⟨_, .more (s1.trans r1) ht hb2,r2.both hu hr ht r3 hb2⟩
theorem eG.fin {u:bq} (hr:cN u) {m m':MS} (h:eG u m m') (hs:∀t,t<u.br.length->tf (ff u t) (m.here t)=false) (hb:∀t,t<u.br.length->m.l3 u t≠0):m'.stuck (dH u)=true/\m'.end_ (dH u)=m.end_ u:=by
 have hbar:=fun t (ht:t<u.br.length)=>h.l3 hr ht (hs t ht)
 refine⟨(oA h.BL).2 fun t ht=> ?_, ?_⟩
 ·rw[eA] at ht
  rw[hbar t ht];exact hb t ht
 ·have hm:m'.mem=m.mem:=by
   have l1:m'.mem.length=u.shared.length:=h.BL.ml
   have l2:=h.ok.ml
   apply List.ext_getElem (by omega)
   intro v h1 h2
   have:=h.mem v fun t ht ho=>by
    have hbt:=hb t ht
    unfold MS.l3 at hbt
    rw[if_neg (by have:=h.ok.mK;omega),Int.toNat_natCast] at hbt
    refine .beg ?_
    have e3:m.node u t=(u.gr t).nd (m.here t):=rfl
    rw[e3] at hbt
    unfold qX
    rw[ho]
    by_cases k9:((u.gr t).nd (m.here t)).kind=9
    ·rw[decide_eq_true k9];simp
    ·rw[if_neg k9] at hbt
     by_cases k5:((u.gr t).nd (m.here t)).kind=5
     ·rw[decide_eq_true k5];simp
     ·rw[if_neg (fun q=>k5 q.1)] at hbt
      exact absurd rfl hbt
   simpa[List.getD,h1,h2] using this
  have he:m'.ended (dH u)=m.ended u:=by
   unfold MS.ended
   rw[h.BL.mK,h.ok.mK,eA,Bool.eq_iff_iff,List.all_eq_true,List.all_eq_true]
   constructor
   ·intro q t ht
    rw[<-hbar t (List.mem_range.1 ht)];exact q t ht
   ·intro q t ht
    rw[hbar t (List.mem_range.1 ht)];exact q t ht
  unfold MS.end_
  rw[hm,he,h.cC]
def sn (u:bq) (e:dy):Prop:=∃m,Steps u (eC u) m/\m.stuck u=true/\m.end_ u=e
theorem JX {u:bq} (hu:u.Wf) (hr:cN u) (e:dy):sn (dH u) e↔sn u e:=by
 constructor
 ·rintro⟨m',h1,h2,rfl⟩
  obtain⟨m,s1,s2⟩:=bwd hu hr h1
  obtain⟨m2,r1,r2,r3⟩:=s2.all hu hr u.br.length (Nat.le_refl _)
  have hb:=(oA r2.BL).1 h2
  rw[eA] at hb
  have hb2:∀t,t<u.br.length->m2.l3 u t≠0:=fun t ht=>by rw[<-r2.l3 hr ht (r3 t ht)];exact hb t ht
  exact⟨m2,s1.trans r1,(oA r2.ok).2 hb2,(r2.fin hr r3 hb2).2.symm⟩
 ·rintro⟨m,h1,h2,rfl⟩
  obtain⟨m',s1,s2⟩:=fwd hu hr h1
  have hb:=(oA s2.ok).1 h2
  have hs:∀t,t<u.br.length->tf (ff u t) (m.here t)=false:=fun t ht=>by
   cases hi:tf (ff u t) (m.here t) with
   |false=>rfl
   |true=>exact absurd (s2.idle hu hr ht hi).1 (hb t ht)
  obtain⟨f1,f2⟩:=s2.fin hr hs hb
  exact⟨m',s1,f1,f2⟩
theorem mQ {u:bq} (hu:u.Wf) (hr:cN u):(fJ u).Wf/\∀e,sn (fJ u) e↔sn u e:=
 (rG (P:=fun v=>v.Wf/\∀e,sn v e↔sn u e) hr ⟨hu,fun _=>Iff.rfl⟩ fun v hv ⟨h1,h2⟩=>⟨nk h1 hv,fun e=>(JX h1 hv e).trans (h2 e)⟩).2
theorem F8 {u:bq} (hu:u.Wf) (hr:cN u) {most:Nat} {l:List c8} (hs:jf u most=some l) (hf:jv u l) (hlm:l.length<=most) (e:dy):e∈jU u l↔sn u e:=by
 constructor
 ·intro h
  obtain⟨i,hi,h1,rfl⟩:=tY.1 (qi.1 h)
  refine⟨_, ?_,h1,rfl⟩
  clear h h1
  induction i using Nat.strongRecOn with
  |_ i ih=>
   by_cases h0:i=0
   ·subst h0;rw[hf.first];exact .none
   ·obtain⟨k,t,h1,h2,h3,h4⟩:=hf.RO i (by omega) hi
    rw[h4]
    exact .more (ih k h1 (by omega)) h2 h3
 ·rintro⟨m,h1,h2,rfl⟩
  have:∃j,j<l.length/\m=(l.getD j default).m:=by
   clear h2
   induction h1 with
   |none=>exact⟨0,hf.pos,by rw[hf.first]⟩
   |@more m t _ ht hb ih=>
    obtain⟨j,hj,rfl⟩:=ih
    exact DL hu hr hs hf hlm hj ht hb
  obtain⟨j,hj,rfl⟩:=this
  exact qi.2 (tY.2 ⟨j,hj,h2,rfl⟩)
theorem sF {R:dy->dy->Prop} (ha:∀a b,R a b->¬R b a) (hi:∀a,¬R a a):∀(l m:List dy),l.Pairwise R->m.Pairwise R->(∀e,e∈l↔e∈m)->l=m
 |[],[],_,_,_=>rfl
 |[],b::m,_,_,h=>absurd ((h b).2 (by simp)) (by simp)
 |a::l,[],_,_,h=>absurd ((h a).1 (by simp)) (by simp)
 |a::l,b::m,h1,h2,h=>by
  rw[List.pairwise_cons] at h1 h2
  have hab:a=b:=by
   rcases List.mem_cons.1 ((h a).1 (by simp)) with e|e
   ·exact e
   ·rcases List.mem_cons.1 ((h b).2 (by simp)) with e2|e2
    ·exact e2.symm
    ·exact absurd (h1.1 _ e2) (ha _ _ (h2.1 _ e))
  subst hab
  rw[sF ha hi l m h1.2 h2.2 fun e=> ?_]
  constructor
  ·intro hm
   rcases List.mem_cons.1 ((h e).1 (List.mem_cons_of_mem _ hm)) with rfl|h3
   ·exact absurd (h1.1 _ hm) (hi _)
   ·exact h3
  ·intro hm
   rcases List.mem_cons.1 ((h e).2 (List.mem_cons_of_mem _ hm)) with rfl|h3
   ·exact absurd (h2.1 _ hm) (hi _)
   ·exact h3
theorem IH {u:bq} (hu:u.Wf) (hr:cN u) {p q:Nat} {l l':List c8} (hs:jf u p=some l) (hf:jv u l) (hl:l.length<=p) (hs':jf (fJ u) q=some l') (hf':jv (fJ u) l') (hl':l'.length<=q):jU u l=jU (fJ u) l':=by
 obtain⟨hw,he⟩:=mQ hu hr
 have hr2:cN (fJ u):=(rG (P:=fun _=>True) hr trivial fun _ _ _=>trivial).1
 refine sF (R:=fun x y=>fB x y<0) (fun a b h=>by have:=tR a b;omega) (fun a=>by have:=IB a;omega) _ _ (p6 u l) (p6 _ l') fun e=> ?_
 rw[F8 hu hr hs hf hl,F8 hw hr2 hs' hf' hl',he]
theorem LZ {l:List Decl} {i:Nat} (h:i<l.length) (d:AV):(l.map Decl.av).getD ((i:Int)).toNat d=(l.getD i default).av:=by rw[Int.toNat_natCast];exact dN Decl.av l i d h
theorem pq {α:Type} {l m:List α} (d:α) (hlm:l.length=m.length) (h:∀j,j<l.length->l.getD j d=m.getD j d):l=m:=by
 refine List.ext_getElem hlm fun j h1 h2=> ?_
 have:=h j h1
 simpa[List.getD,h1,h2] using this
theorem VB (a b:ByteArray):(a==b)=decide (a=b):=by
 obtain⟨d⟩:=a
 obtain⟨d'⟩:=b
 show(d==d')=_
 rw[Bool.eq_iff_iff]
 simp
theorem Decl.II {a b:Decl} (h1:a.name=b.name) (h2:a.word=b.word) (h3:a.at_=b.at_):a=b:=by
 obtain⟨a1,a2,a3⟩:=a
 obtain⟨b1,b2,b3⟩:=b
 simp only at h1 h2 h3
 subst h1;subst h2;subst h3;rfl
theorem kq.II {a b:kq} (h1:a.ee=b.ee) (h2:a.slot=b.slot) (h3:a.word=b.word):a=b:=by
 obtain⟨a1,a2,a3⟩:=a
 obtain⟨b1,b2,b3⟩:=b
 simp only at h1 h2 h3
 subst h1;subst h2;subst h3;rfl
theorem Node.Y8 {a b:Node} (h1:a.kind=b.kind) (h2:a.op=b.op) (h3:a.slot=b.slot) (h4:a.cB=b.cB) (h5:a.a=b.a) (h6:a.b=b.b) (h7:a.next=b.next) (h8:a.iu=b.iu) (h9:a.origin=b.origin):a=b:=by
 obtain⟨a1,a2,a3,a4,a5,a6,a7,a8,a9⟩:=a
 obtain⟨b1,b2,b3,b4,b5,b6,b7,b8,b9⟩:=b
 simp only at h1 h2 h3 h4 h5 h6 h7 h8 h9
 subst h1;subst h2;subst h3;subst h4;subst h5;subst h6;subst h7;subst h8;subst h9;rfl
theorem bu.Y7 {a b:bu} (h1:a.name=b.name) (h2:a.locals=b.locals) (h3:a.bw=b.bw) (h4:a.nodes=b.nodes):a=b:=by
 obtain⟨a1,a2,a3,a4⟩:=a
 obtain⟨b1,b2,b3,b4⟩:=b
 simp only at h1 h2 h3 h4
 subst h1;subst h2;subst h3;subst h4;rfl
theorem lB (l:List Decl):cT 0 (l.map Decl.av):=(cI _ _).2 fun _ _=>by simp[cF,cT,Decl.cells]
theorem qk (l:List Node):cT 0 (l.map Node.av):=(cI _ _).2 fun _ _=>by simp[cF,cT,Node.cells]
theorem oe (l:List bu):cT 0 (l.map bu.av):=(cI _ _).2 fun _ _=>by simp[cF,cT,bu.cells,qk]
theorem H6 {es:List AV} (hsz:es.length * 32<=140737488355328):cQ Tryz.prog 26 [.im 3 .any es] [] 0 (oV [] 0 79 3 es):=by
 refine oV.of (by omega) ?_
 refine aJ JG rfl ?_
 cases hes:es with
 |nil=>
  repeat' (first|refine aQ ?_|exact aC|with_reducible refine aB ?_ ?_|(apply aA;(·exact bz))|refine aH ?_|((with_reducible refine aE ?_ ?_)<;>intro hc<;>try(exfalso;omega)))
  ·exact⟨.inl ⟨rfl,rfl,cU,kB⟩⟩
  ·exact⟨.inr ⟨_,_,rfl,cU,cU,cU,bt,kB⟩⟩
 |cons x t=>
  rw[hes] at hsz
  simp only[List.length_cons] at hsz
  repeat' (first|refine aQ ?_|exact aC|with_reducible refine aB ?_ ?_|(apply aA;(·exact bz))|refine aH ?_|((with_reducible refine aE ?_ ?_)<;>intro hc<;>try(exfalso;omega)))
  ·exact⟨.inr ⟨3,_,(by simp),cU,cU,cU,bt,kB⟩⟩
theorem H7 {es:List AV} (hsz:es.length * 32<=140737488355328):cQ Tryz.prog 26 [.im 3 .any es] [] 0 (fun r1 H1 _=>∃b d0,r1= .sl b es.length/\bo H1 b=some (.row 79 3 d0 es)):=
 (H6 hsz).mono fun r H n ⟨b,d,h1,_,_,_,h2,_⟩=>⟨b,d,h1,h2⟩
theorem rY (l:List Decl) (hl:l.length * 32<=140737488351232):Pure Tryz.prog 26 [cg l] (fun r=>r=cg l):=by
 refine kN (by rw[cF];exact lB l) ((H7 (es:=l.map Decl.av) (by rw[List.length_map];omega)).mono ?_)
 rintro r H n ⟨b,d0,rfl,hb⟩
 right
 rw[dv hb (by simp),cu _ (lB l)]
set_option maxRecDepth 4000 in
set_option maxHeartbeats 4000000 in
theorem p7 (l m:List Decl) (hl:l.length * 32<=140737488351232) (hm:m.length * 32<=140737488351232):Pure Tryz.prog 28 [cg l,cg m] (fun r=>r=bl (decide (l=m))):=by
 refine aD NV rfl ?_
 repeat' (first|refine aQ ?_|exact aC|with_reducible refine aB ?_ ?_|(apply aA;(·exact bz))|refine aH ?_|((with_reducible refine aE ?_ ?_)<;>intro hc<;>try(exfalso;omega)))
 ·refine dZ (Eq.symm ?_)
  exact decide_eq_false fun e=>hc (by rw[e])
 ·have hlm:l.length=m.length:=by omega
  refine aI (fun i:Nat=>[(0,cg l),(1,cg m),(12,i64 l.length),(13,i64 i)])
   (fun i H n=>i<=l.length/\∀j,j<i->l.getD j default=m.getD j default) (fun i=>l.length - i) 0 cG ⟨Nat.zero_le _,fun _ h=>by omega⟩ ?_
  rintro i H n ⟨hi,hall⟩
  by_cases hil:i<l.length
  ·have e1:=fun d=>LZ (l:=l) hil d
   have e2:=fun d=>LZ (l:=m) (i:=i) (by omega) d
   repeat' (first|refine aQ ?_|exact dR|with_reducible refine aB ?_ ?_|((with_reducible refine Ask.mk ?_);first|exact cW|exact cJ|(intro h;simp_all[Decl.cells]<;>fail)|(simp_all[Decl.cells]<;>fail))|(apply aA;(·(first|exact e1 _|exact e2 _|exact bz)))|refine aH ?_|((with_reducible refine aE ?_ ?_)<;>intro hc<;>try(exfalso;omega)))
   ·refine dZ (Eq.symm ?_)
    refine decide_eq_false fun e=> ?_
    rw[e] at hc
    simp[VB] at hc
   ·refine⟨i+1,by omega,cG,by omega,fun j hj=> ?_⟩
    by_cases hji:j=i
    ·subst hji
     obtain⟨h1,h2,h3,_⟩:=hc
     rw[VB,decide_eq_true_eq] at h1
     exact Decl.II h1 h2 h3
    ·exact hall j (by omega)
  ·have:i=l.length:=by omega
   subst this
   repeat' (first|refine aQ ?_|exact aC|with_reducible refine aB ?_ ?_|(apply aA;(·exact bz))|refine aH ?_|((with_reducible refine aE ?_ ?_)<;>intro hc<;>try(exfalso;omega)))
   refine dZ (Eq.symm ?_)
   exact decide_eq_true (pq default hlm hall)
set_option maxRecDepth 4000 in
set_option maxHeartbeats 8000000 in
theorem xe (l m:List Node) (hl:l.length * 88<=140737488351232) (hm:m.length * 88<=140737488351232):Pure Tryz.prog 31 [gE l,gE m] (fun r=>r=bl (decide (l=m))):=by
 refine aD NY rfl ?_
 repeat' (first|refine aQ ?_|exact aC|with_reducible refine aB ?_ ?_|(apply aA;(·exact bz))|refine aH ?_|((with_reducible refine aE ?_ ?_)<;>intro hc<;>try(exfalso;omega)))
 ·refine dZ (Eq.symm ?_)
  exact decide_eq_false fun e=>hc (by rw[e])
 ·have hlm:l.length=m.length:=by omega
  refine aI (fun i:Nat=>[(0,gE l),(1,gE m),(12,i64 l.length),(13,i64 i)])
   (fun i H n=>i<=l.length/\∀j,j<i->l.getD j default=m.getD j default) (fun i=>l.length - i) 0 cG ⟨Nat.zero_le _,fun _ h=>by omega⟩ ?_
  rintro i H n ⟨hi,hall⟩
  by_cases hil:i<l.length
  ·have e1:=fun d=>gh (l:=l) hil d
   have e2:=fun d=>gh (l:=m) (i:=i) (by omega) d
   repeat' (first|refine aQ ?_|exact dR|with_reducible refine aB ?_ ?_|((with_reducible refine Ask.mk ?_);first|exact cW|exact cJ|(intro h;simp_all[Node.cells]<;>fail)|(simp_all[Node.cells]<;>fail))|(apply aA;(·(first|exact e1 _|exact e2 _|exact bz)))|refine aH ?_|((with_reducible refine aE ?_ ?_)<;>intro hc<;>try(exfalso;omega)))
   ·refine dZ (Eq.symm ?_)
    refine decide_eq_false fun e=> ?_
    rw[e] at hc
    simp at hc
   ·refine⟨i+1,by omega,cG,by omega,fun j hj=> ?_⟩
    by_cases hji:j=i
    ·subst hji
     obtain⟨h1,h2,h3,h4,h5,h6,h7,h8,h9,h10,h11,h12,h13,_⟩:=hc
     exact Node.Y8 h1 h2 h3 h4 (kq.II (by simpa using h5) h6 h7) (kq.II (by simpa using h8) h9 h10) h11 h12 h13
    ·exact hall j (by omega)
  ·have:i=l.length:=by omega
   subst this
   repeat' (first|refine aQ ?_|exact aC|with_reducible refine aB ?_ ?_|(apply aA;(·exact bz))|refine aH ?_|((with_reducible refine aE ?_ ?_)<;>intro hc<;>try(exfalso;omega)))
   refine dZ (Eq.symm ?_)
   exact decide_eq_true (pq default hlm hall)
theorem xd (a b:bu) (ha:a.Wf) (hb:b.Wf):Pure Tryz.prog 30 [a.av,b.av] (fun r=>r=bl (decide (a=b))):=by
 have hla:=ha.len
 have hlb:=hb.len
 have hn:=xe a.nodes b.nodes hla hlb
 refine aD NX rfl ?_
 repeat' (first|refine aQ ?_|exact dR|with_reducible refine aB ?_ ?_|((with_reducible refine Ask.mk ?_);first|exact cW|exact cJ|(intro h;simp_all[bu.cells]<;>fail)|(simp_all[bu.cells]<;>fail))|(apply aA;(·exact bz))|refine aK (hn) ?_|refine aH ?_|((with_reducible refine aE ?_ ?_)<;>intro hc<;>try(exfalso;omega)))
 have key:decide (a=b)=(decide (a.name=b.name)&&decide (a.locals=b.locals)&&decide (a.bw=b.bw)&&decide (a.nodes=b.nodes)):=by
  rw[Bool.eq_iff_iff]
  simp only[Bool.and_eq_true,decide_eq_true_eq]
  exact⟨fun e=>by rw[e];exact⟨⟨⟨rfl,rfl⟩,rfl⟩,rfl⟩,fun⟨⟨⟨h1,h2⟩,h3⟩,h4⟩=>bu.Y7 h1 h2 h3 h4⟩
 refine dZ ?_
 rw[VB,key]
 cases decide (a.name=b.name)<;>cases decide (a.locals=b.locals)<;>cases decide (a.bw=b.bw)<;>rfl
theorem vS (l m:List bu) (hl:∀g∈l,g.Wf) (hm:∀g∈m,g.Wf) (hll:l.length * 56<=140737488351232) (hml:m.length * 56<=140737488351232):Pure Tryz.prog 29 [dS l,dS m, .fn (.func 30) [] []] (fun r=>r=bl (decide (l=m))):=by
 refine aD NW rfl ?_
 repeat' (first|refine aQ ?_|exact aC|with_reducible refine aB ?_ ?_|(apply aA;(·exact bz))|refine aH ?_|((with_reducible refine aE ?_ ?_)<;>intro hc<;>try(exfalso;omega)))
 ·refine dZ (Eq.symm ?_)
  exact decide_eq_false fun e=>hc (by rw[e])
 ·have hlm:l.length=m.length:=by omega
  refine aI (fun i:Nat=>[(1,dS m),(2, .fn (.func 30) [] []),(15,dS l),(16,i64 l.length),(17,i64 i)])
   (fun i H n=>i<=l.length/\∀j,j<i->l.getD j default=m.getD j default) (fun i=>l.length - i) 0 cG ⟨Nat.zero_le _,fun _ h=>by omega⟩ ?_
  rintro i H n ⟨hi,hall⟩
  by_cases hil:i<l.length
  ·have e1:=fun d=>pj (l:=l) hil d
   have e2:=fun d=>pj (l:=m) (i:=i) (by omega) d
   have hcmp:=xd (l.getD i default) (m.getD i default) (hl _ (cR default hil)) (hm _ (cR default (by omega)))
   by_cases heq:l.getD i default=m.getD i default
   ·rw[decide_eq_true heq] at hcmp
    repeat' (first|refine aQ ?_|exact dR|with_reducible refine aB ?_ ?_|((with_reducible refine Ask.mk ?_);first|exact cW|exact cJ|(intro h;simp_all[bu.cells]<;>fail)|(simp_all[bu.cells]<;>fail))|(apply aA;(·(first|exact e1 _|exact e2 _|exact bz)))|refine aK (hcmp) ?_|refine aH ?_|((with_reducible refine aE ?_ ?_)<;>intro hc<;>try(exfalso;omega)))
    refine⟨i+1,by omega,cG,by omega,fun j hj=> ?_⟩
    by_cases hji:j=i
    ·subst hji;exact heq
    ·exact hall j (by omega)
   ·rw[decide_eq_false heq] at hcmp
    repeat' (first|refine aQ ?_|exact dR|with_reducible refine aB ?_ ?_|((with_reducible refine Ask.mk ?_);first|exact cW|exact cJ|(intro h;simp_all[bu.cells]<;>fail)|(simp_all[bu.cells]<;>fail))|(apply aA;(·(first|exact e1 _|exact e2 _|exact bz)))|refine aK (hcmp) ?_|refine aH ?_|((with_reducible refine aE ?_ ?_)<;>intro hc<;>try(exfalso;omega)))
    refine dZ (Eq.symm ?_)
    exact decide_eq_false fun e=>heq (by rw[e])
  ·have:i=l.length:=by omega
   subst this
   repeat' (first|refine aQ ?_|exact aC|with_reducible refine aB ?_ ?_|(apply aA;(·exact bz))|refine aH ?_|((with_reducible refine aE ?_ ?_)<;>intro hc<;>try(exfalso;omega)))
   refine dZ (Eq.symm ?_)
   exact decide_eq_true (pq default hlm hall)
theorem bq.II {a b:bq} (h1:a.shared=b.shared) (h2:a.cE=b.cE) (h3:a.br=b.br):a=b:=by
 obtain⟨a1,a2,a3⟩:=a
 obtain⟨b1,b2,b3⟩:=b
 simp only at h1 h2 h3
 subst h1;subst h2;subst h3;rfl
theorem xW (u v:bq) (hu:u.Wf) (hv:v.Wf):Pure Tryz.prog 13 [u.av,v.av] (fun r=>r=bl (decide (u=v))):=by
 have h1:=p7 u.shared v.shared hu.jb hv.jb
 have h2:=p7 u.cE v.cE hu.lL hv.lL
 have h3:=vS u.br v.br hu.br hv.br hu.nf hv.nf
 refine aD NL rfl ?_
 repeat' (first|refine aQ ?_|exact dR|with_reducible refine aB ?_ ?_|((with_reducible refine Ask.mk ?_);first|exact cW|exact cJ|(intro h;simp_all[bq.cells]<;>fail)|(simp_all[bq.cells]<;>fail))|(apply aA;(·exact bz))|refine aK (h1) ?_|refine aK (h2) ?_|refine aK (h3) ?_|refine aH ?_|((with_reducible refine aE ?_ ?_)<;>intro hc<;>try(exfalso;omega)))
 have key:decide (u=v)=(decide (u.shared=v.shared)&&decide (u.cE=v.cE)&&decide (u.br=v.br)):=by
  rw[Bool.eq_iff_iff]
  simp only[Bool.and_eq_true,decide_eq_true_eq]
  exact⟨fun e=>by rw[e];exact⟨⟨rfl,rfl⟩,rfl⟩,fun⟨⟨h1,h2⟩,h3⟩=>bq.II h1 h2 h3⟩
 refine dZ ?_
 rw[key]
 cases decide (u.shared=v.shared)<;>cases decide (u.cE=v.cE)<;>rfl
end Go.Proofs.YtekfmjjmihomlaaGreatDoor
