import Derived.Test.YtjopoheligmmoaaGreatDoorM19
section
/- A stretch whose order is drawn and in which calls act: told by what holds when just these have come up. -/
set_option linter.unusedSimpArgs false
set_option linter.unusedVariables false
namespace Go.cw
open Go.RowKit
def CX (gs:List iY) (ps:List (Nat×Nat)) (i j:Nat):Bool:=
 !xc (gs.getD i default) (gs.getD j default)||((((gs.getD i default).op.wr&&(gs.getD j default).op.rd)||((gs.getD i default).op.rd&&(gs.getD j default).op.wr))&& !ps.contains (i,j))
def G3 (P:Program) (gs:List iY) (ps:List (Nat×Nat)) (I:(Nat->Bool)->Fr->Hp->Nat->Prop):Prop:=
 ∀i g L fr H nx,gs[i]?=some g->L i=false->(∀j,j<i->CX gs ps j i=true->L j=true)->(∀j,i<j->j<gs.length->CX gs ps i j=true->L j=false)->I L fr H nx->
  dj fr g.guard (eL P nx fr H g.op fun r H' nx'=>I (fun k=>L k||k==i) (gR fr g.dst r) H' nx') (I (fun k=>L k||k==i) (gR fr g.dst (.sc undef)) H (nx+1))
theorem WL.TK {P:Program} {n lo:Nat} {fr:Fr} {H:Hp} {nx:Nat} {Q:QT} {s:tS} {rest:List tS} {I:(Nat->Bool)->Fr->Hp->Nat->Prop} (hI:G3 P s.ops s.ps I) (h0:I (fun _=>false) fr H nx)
 (hK:∀L fr' H' nx',(∀k,k<s.ops.length->L k=true)->I L fr' H' nx'->jJ P nx' rest fr' H' (fun fr' H' nx'=>Q .normal fr' H' nx')):WL P n lo (.drawn (s::rest)) fr H nx Q:=by
 intro code hc w0 M0 c0 a w hh
 have:∃id ops gs,code= .region id ops true/\mn P n ops ops.toList=some gs/\uE ops gs=some (s::rest)/\P.follows .mixedOrders=true:=by
  cases code<;>simp only[dD] at hc
  case region id ops draw=>
   split at hc
   ·rename_i gs' h1
    cases draw with
    |false=>simp at hc
    |true=>
     simp only[if_true,Option.ite_none_right_eq_some,Option.map_eq_some_iff,LC.drawn.injEq] at hc
     obtain⟨hm,ps',h2,rfl⟩:=hc
     exact⟨id,ops,gs',rfl,h1,h2,hm⟩
   ·simp at hc
  all_goals (exfalso;repeat' (split at hc))<;>simp at hc
 obtain⟨id,ops,gs,rfl,h1,h2,hm⟩:=this
 unfold uE at h2
 simp only[Option.ite_none_right_eq_some,List.all_eq_true,List.mem_range,decide_eq_true_eq] at h2
 obtain⟨hb,hseg0⟩:=h2
 have hb':∀k,∀p∈jG ops k,p<k:=by
  intro k p hp
  by_cases hk:k<ops.size
  ·exact hb k hk p hp
  ·simp[jG,Array.getElem?_eq_none (Nat.le_of_not_lt hk)] at hp
 refine wp_region_any hm ?_
 obtain⟨hn,hd,ρ,U,hU,hS,hF,hT⟩:=hh
 have hbl:Below w.heap.size w { w with drawn:=w.drawn+1 }:=⟨rfl,rfl,rfl,Nat.le_refl _,fun _ _=>rfl⟩
 obtain⟨s1,s2⟩:=hS.world (w':={ w with drawn:=w.drawn+1 }) hbl
 have e0:∀k,fk (Array.replicate ops.size false) k=false:=by
  intro k
  unfold fk
  by_cases hk:k<ops.size<;>simp[Array.getD,hk]
 have hA:=oC hb'
 obtain⟨g1,g2⟩:=rZ h1
 simp only[Array.length_toList] at g1
 cases qq:LS (je ops) ops.size with
 |nil=>rw[qq] at hseg0;simp[vH] at hseg0
 |cons c cs=>
  rw[qq] at hseg0
  simp only[vH,Option.ite_none_right_eq_some,Option.map_eq_some_iff,Bool.and_eq_true,decide_eq_true_eq,List.all_eq_true,List.mem_filter,Bool.not_eq_true',and_imp,Prod.forall] at hseg0
  obtain⟨⟨⟨⟨hc1,hc2⟩,hcut⟩,hfree⟩,segs',hseg,he⟩:=hseg0
  simp only[List.cons.injEq] at he
  obtain⟨rfl,rfl⟩:=he
  have hwl:((gs.drop 0).take (c - 0)).length=c:=by simp;omega
  simp only[hwl] at hI hK
  generalize hws:(gs.drop 0).take (c - 0)=ws at *
  have hlow:∀(k:Nat) (o:Oper),k<ws.length->ops[k]?=some o->∃g:iY,ws[k]?=some g/\mq P o=some g.op/\g.dst=o.dst/\(∀x,o.dst=some x->x<n)/\
   (match o.guard with|none=>g.guard=none|some (j,want)=>∃d,(ops[j]?).bind (·.dst)=some d/\g.guard=some (d,want)):=by
   intro k o hk ho
   obtain⟨g,q1,q2⟩:=g2 k o (by simpa using ho)
   refine⟨g, ?_,q2⟩
   rw[<-hws,List.drop_zero,List.getElem?_take,if_pos (by omega)]
   exact q1
  -- what must come up ahead has come up
  have hdep:∀i j,i<j->j<c->CX ws (List.filter (fun p=>((ws.getD p.1 default).op.wr&&(ws.getD p.2 default).op.rd)||((ws.getD p.1 default).op.rd&&(ws.getD p.2 default).op.wr)) ((oV c).filter fun p=> !eQ (je ops) (0+p.1) (0+p.2))) i j=true->eQ (je ops) i j=true:=by
   intro i j hij hj hdt
   cases hbw:eQ (je ops) i j with
   |true=>rfl
   |false=>
    exfalso
    have hbw0:eQ (je ops) (0+i) (0+j)=false:=by simpa using hbw
    have hap:=hfree i j (kd.2 ⟨hij,by omega⟩) hbw0
    simp only[CX,Bool.or_eq_true,Bool.not_eq_true',Bool.and_eq_true] at hdt
    rcases hdt with h|⟨h3,h4⟩
    ·rw[hap] at h;cases h
    ·have:(i,j)∈List.filter (fun p=>((ws.getD p.1 default).op.wr&&(ws.getD p.2 default).op.rd)||((ws.getD p.1 default).op.rd&&(ws.getD p.2 default).op.wr)) ((oV c).filter fun p=> !eQ (je ops) (0+p.1) (0+p.2)):=by
      simp only[List.mem_filter,Bool.not_eq_true']
      exact⟨⟨kd.2 ⟨hij,hj⟩,hbw0⟩,by simpa using h3⟩
     rw[List.contains_iff_mem.2 this] at h4;cases h4
  have key:∀(fuel:Nat) (listed:Array Bool) (a:Act) (w:World) (fr:Fr) (H:Hp) (nx:Nat),listed.size=ops.size->left ops listed=fuel->(∀k,fk listed k=true->∀p∈jG ops k,fk listed p=true)->(∀k,c<=k->fk listed k=false)->
   I (fun k=>fk listed k) fr H nx->Holds w0 M0 c0 lo n fr H nx a w->wpAny P .any ops (LQ w0 M0 c0 lo n Q) fuel listed a w:=by
   have done:∀(listed:Array Bool) (a:Act) (w:World) (fr:Fr) (H:Hp) (nx:Nat),listed.size=ops.size->(∀k,k<c->fk listed k=true)->(∀k,c<=k->fk listed k=false)->
    I (fun k=>fk listed k) fr H nx->Holds w0 M0 c0 lo n fr H nx a w->wpAny P .any ops (LQ w0 M0 c0 lo n Q) (left ops listed) listed a w:=by
    intro listed a w fr H nx hs hall hno hi hh
    exact nj h1 hb' (K:=fun fr H nx=>Q .normal fr H nx) (w0:=w0) (M0:=M0) (c0:=c0) (lo:=lo) (fun fr' H' nx' a' w' hK' hh'=>⟨.normal,fr',H',nx',rfl,hK',hh'⟩) cs c segs' hseg (left ops listed) nx fr H listed a w (hK _ fr H nx hall hi) hs rfl
     (fun k=>by
      by_cases hk:k<c
      ·simp[hall k hk,hk]
      ·rw[hno k (by omega)];simp[hk]) hh
   intro fuel
   induction fuel with
   |zero=>
    intro listed a w fr H nx hs hf hdc hno hi hh
    have hall:∀k,k<c->fk listed k=true:=by
     intro k hk
     have hnil:=List.eq_nil_of_length_eq_zero hf
     cases hl:fk listed k with
     |true=>rfl
     |false=>
      have:k∈(List.range ops.size).filter fun k=> !fk listed k:=by simp[hl];omega
      rw[hnil] at this;cases this
    have:=done listed a w fr H nx hs hall hno hi hh
    rw[hf] at this
    exact this
   |succ fuel ih=>
    intro listed a w fr H nx hs hf hdc hno hi hh
    by_cases hall:∀k,k<c->fk listed k=true
    ·have:=done listed a w fr H nx hs hall hno hi hh
     rw[hf] at this
     exact this
    have hin:∀i,i∈Region.ready .any ops listed->i<c:=by
     intro i hi
     obtain⟨hl,hlt,hp⟩:=(gJ hs).1 hi
     rcases Nat.lt_or_ge i c with h|h
     ·exact h
     ·exfalso
      exact hall fun k hk=>(hA _ _ (pI hcut hk h hlt)).2 (fk listed) hdc hp
    refine⟨fun hnil=> ?_,fun i hir=> ?_⟩
    ·exfalso
     refine hall fun k hk=> ?_
     induction k using Nat.strongRecOn with
     |_ k ihk=>
      cases hl:fk listed k with
      |true=>rfl
      |false=>
       have:k∈Region.ready .any ops listed:=(gJ hs).2 ⟨hl,by omega,fun p hp=>ihk p (hb' k p hp) (by have:=hb' k p hp;omega)⟩
       rw[hnil] at this;cases this
    ·obtain⟨hl,hlt,hp⟩:=(gJ hs).1 hir
     have hic:=hin i hir
     have ho:ops[i]?=some ops[i]:=Array.getElem?_eq_getElem hlt
     obtain⟨g,q1,q2,q3,q4,q5⟩:=hlow i _ (by omega) ho
     have hgi:ws.getD i default=g:=by simp[List.getD,q1]
     have hy:=hI i g (fun k=>fk listed k) fr H nx q1 hl (fun j hj hd=>(hA _ _ (hdep j i hj hic hd)).2 (fk listed) hdc hp) (fun j hj hjl hd=>by
      cases hlj:fk listed j with
      |false=>rfl
      |true=>
       have:=(hA _ _ (hdep i j hj (by omega) hd)).2 (fk listed) hdc (hdc j hlj)
       rw[hl] at this;cases this) hi
     obtain⟨hn,hde,ρ,U,hU,hS,hF,hT⟩:=hh
     have hls:=u7 hs hlt hl
     have hset:(fun k=>fk (listed.setIfInBounds i true) k)=fun k=>fk listed k||k==i:=by
      funext k;exact jf (by omega)
     have hdc2:∀k,fk (listed.setIfInBounds i true) k=true->∀p∈jG ops k,fk (listed.setIfInBounds i true) p=true:=by
      intro k hk p hp'
      rw[jf (by omega)] at hk ⊢
      simp only[Bool.or_eq_true,beq_iff_eq] at hk ⊢
      rcases hk with hk|rfl
      ·exact .inl (hdc k hk p hp')
      ·exact .inl (hp p hp')
     have hno2:∀k,c<=k->fk (listed.setIfInBounds i true) k=false:=by
      intro k hk
      rw[jf (by omega),hno k hk]
      simp;omega
     unfold wpOp
     rw[ho]
     simp only
     have hgc:=nX (c:=⟨ρ,bt H,U,w,M0⟩) hF q5 hy
     rcases hgc with⟨hw,hy⟩|⟨hw,hy⟩
     ·rw[if_pos hw]
      refine .inl (vN (c:=⟨ρ,bt H,U,w,M0⟩) q2 hS rfl hF hU hy ?_)
      intro v r' H' nx' ρ' U' w' hR s0 s1 s2 s3
      refine ih _ _ _ _ H' nx' (by simpa using hs) (by omega) hdc2 hno2 (by rw[hset];exact hR) ?_
      rw[q3]
      exact Holds.next (c:=⟨ρ,bt H,U,w,M0⟩) hn hde s0 hF hT s1 s2 s3 q4
     ·rw[if_neg (by simp[hw])]
      refine ih _ _ _ _ H (nx+1) (by simpa using hs) (by omega) hdc2 hno2 (by rw[hset];exact hy) ?_
      rw[q3]
      exact Holds.next (c:=⟨ρ,bt H,U,w,M0⟩) hn hde (fun b hb=>by have:=hU b hb;omega) hF hT hS (Cx.le.refl _) (by rw[VR]) q4
  refine key _ _ _ _ fr H nx (by simp) ?_ (fun k hk=>by rw[e0] at hk;cases hk) (fun k _=>e0 k) (by
   have:(fun k=>fk (Array.replicate ops.size false) k)=fun _=>false:=funext e0
   rw[this];exact h0) ⟨hn,hd,ρ,U,hU,s1,fun t=>VR.cc s2 (hF t),hT.to s2⟩
  unfold left
  rw[List.filter_eq_self.2 (by simp[e0])];simp
theorem gZ.ZT {P:Program} {fr:Fr} {H:Hp} {nx:Nat} {Q:QT} {s:tS} {rest:List tS} {I:(Nat->Bool)->Fr->Hp->Nat->Prop} (hI:G3 P s.ops s.ps I) (h0:I (fun _=>false) fr H nx)
 (hK:∀L fr' H' nx',(∀k,k<s.ops.length->L k=true)->I L fr' H' nx'->jJ P nx' rest fr' H' (fun f1 H1 nx1=>∃f',k7 f1 f'/\Go (Q .normal f' H1 nx1))):gZ P (s::rest) fr H nx Q:=
 ⟨fun n lo=>WL.less (WL.TK hI h0 fun L fr' H' nx' h1 h2=>jJ.mono (hK L fr' H' nx' h1 h2) fun _ _ _ ⟨f',h1,h2⟩=>⟨f',iP h1,h2⟩)⟩
end Go.cw
end
