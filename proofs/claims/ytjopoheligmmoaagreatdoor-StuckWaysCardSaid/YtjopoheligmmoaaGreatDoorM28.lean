import Derived.Test.YtjopoheligmmoaaGreatDoorM20
section
/- A stretch whose order is drawn and in which calls act: what each operation gives is told one by one. -/
set_option linter.unusedSimpArgs false
set_option linter.unusedVariables false
namespace Go.cw
open Go.RowKit
structure Z6 (gs:List iY) (L:Nat->Bool) (val:Nat->AV) (fr0 fr:Fr):Prop where
 val:∀(i:Nat) (g:iY) (t:Nat),gs[i]?=some g->L i=true->g.dst=some t->cq fr t=val i
 iB:∀t,(∀g∈gs,g.dst≠some t)->cq fr t=cq fr0 t
def LX (gs:List iY):Bool:=gs.all (fun g=>g.guard.isNone)&&(List.range gs.length).all fun i=>(List.range i).all fun j=>(gs.getD i default).dst.isNone||(gs.getD i default).dst != (gs.getD j default).dst
theorem CZ {gs:List iY} (h:LX gs=true):(∀(i:Nat) (g:iY),gs[i]?=some g->g.guard=none)/\∀(i j:Nat) (g g':iY) (t:Nat),gs[i]?=some g->gs[j]?=some g'->i≠j->g.dst=some t->g'.dst≠some t:=by
 simp only[LX,Bool.and_eq_true,List.all_eq_true,List.mem_range,Bool.or_eq_true,Option.isNone_iff_eq_none,bne_iff_ne,ne_eq] at h
 have key:∀(i j:Nat) (g g':iY) (t:Nat),gs[i]?=some g->gs[j]?=some g'->j<i->g.dst=some t->g'.dst≠some t:=fun i j g g' t hi hj hlt h1 h2=>by
  have hil:=(List.getElem?_eq_some_iff.1 hi).1
  rcases h.2 i hil j hlt with h3|h3
  ·simp[List.getD,hi,h1] at h3
  ·simp[List.getD,hi,hj,h1,h2] at h3
 refine⟨fun i g hi=>h.1 g (List.mem_of_getElem? hi),fun i j g g' t hi hj hne h1 h2=> ?_⟩
 rcases Nat.lt_or_gt_of_ne hne with hlt|hlt
 ·exact key j i g' g t hj hi hlt h2 h1
 ·exact key i j g g' t hi hj hlt h1 h2
theorem G3.of {P:Program} {gs:List iY} {ps:List (Nat×Nat)} {Θ:Type} (val:Θ->Nat->AV) (HP:Θ->(Nat->Bool)->Hp->Nat->Prop) (fr0:Fr) (hd:LX gs=true)
 (step:∀(i:Nat) (g:iY) θ L fr H nx,gs[i]?=some g->L i=false->(∀j,j<i->CX gs ps j i=true->L j=true)->(∀j,i<j->j<gs.length->CX gs ps i j=true->L j=false)->Z6 gs L (val θ) fr0 fr->HP θ L H nx->
  eL P nx fr H g.op fun r H' nx'=>∃θ',(∀j,L j=true->val θ' j=val θ j)/\r=val θ' i/\HP θ' (fun k=>L k||k==i) H' nx'):
 G3 P gs ps (fun L fr H nx=>∃θ,Z6 gs L (val θ) fr0 fr/\HP θ L H nx):=by
 obtain⟨d1,d2⟩:=CZ hd
 intro i g L fr H nx hi hL hp hs ⟨θ,hv,hh⟩
 unfold dj
 rw[d1 i g hi]
 have h1:=step i g θ L fr H nx hi hL hp hs hv hh
 have hmono:∀{op:df} {R R':AV->Hp->Nat->Prop},eL P nx fr H op R->(∀r H n,R r H n->R' r H n)->eL P nx fr H op R':=by
  intro op R R' h hr
  exact eL.mono h hr
 refine hmono h1 ?_
 rintro r H' nx' ⟨θ',e1,rfl,e3⟩
 refine⟨θ',⟨fun j g' t hj hLj ht=> ?_,fun t ht=> ?_⟩,e3⟩
 ·by_cases hji:j=i
  ·subst hji
   rw[hi] at hj;cases hj
   rw[ht]
   simp[gR,cq]
  ·have hLj2:L j=true:=by
    have:(j==i)=false:=by simpa using hji
    simpa[this] using hLj
   have hne:∀u,g.dst=some u->t≠u:=fun u hu he=>d2 i j g g' u hi hj (Ne.symm hji) hu (by rw[<-he];exact ht)
   have:cq (gR fr g.dst (val θ' i)) t=cq fr t:=by
    cases hd2:g.dst with
    |none=>rfl
    |some u=>simp[gR,cq,hne u hd2]
   rw[this,hv.val j g' t hj hLj2 ht,e1 j hLj2]
 ·have hne:g.dst≠some t:=ht g (List.mem_of_getElem? hi)
  have:cq (gR fr g.dst (val θ' i)) t=cq fr t:=by
   cases hd2:g.dst with
   |none=>rfl
   |some u=>
    have:t≠u:=fun he=>hne (by rw[hd2,he])
    simp[gR,cq,this]
  rw[this]
  exact hv.iB t ht
theorem eL.look {P:Program} {nx:Nat} {fr:Fr} {H:Hp} {op:df} {r:AV} {K:AV->Hp->Nat->Prop} (hc:∀f as,op≠ .call f as) (h:cM nx fr H op=some (r,none)) (hK:K r H (nx+1)):eL P nx fr H op K:=by
 cases op<;>first|exact absurd rfl (hc _ _)|(unfold eL;simp only[h];exact hK)
theorem eL.act {P:Program} {nx:Nat} {fr:Fr} {H:Hp} {op:df} {r:AV} {u:Nat×fH} {K:AV->Hp->Nat->Prop} (hc:∀f as,op≠ .call f as) (h:cM nx fr H op=some (r,some u)) (hK:K r ((u.1,some u.2)::H) (nx+1)):eL P nx fr H op K:=by
 cases op<;>first|exact absurd rfl (hc _ _)|(unfold eL;simp only[h];exact hK)
theorem Wk.then {r r2 r3:AV} {H H2 H3:Hp} {nx nx2 nx3:Nat} (h:Wk r H nx r2 H2 nx2) (k:Wk r2 H2 nx2 r3 H3 nx3):Wk r H nx r3 H3 nx3:=by
 intro w0 ρ U w M0 hU hS
 obtain⟨ρ2,U2,a1,a2,a3,a4⟩:=h w0 ρ U w M0 hU hS
 obtain⟨ρ3,U3,b1,b2,b3,b4⟩:=k w0 ρ2 U2 w M0 a1 a2
 exact⟨ρ3,U3,b1,b2,a3.trans b3,fun v hv=>b4 v (a4 v hv)⟩
theorem Wk.same {H H2:Hp} {nx nx2:Nat} (h:Wk .any H nx .any H2 nx2) (r:AV):Wk r H nx r H2 nx2:=by
 intro w0 ρ U w M0 hU hS
 obtain⟨ρ2,U2,h1,h2,h3,_⟩:=h w0 ρ U w M0 hU hS
 exact⟨ρ2,U2,h1,h2,h3,db.cc h3 r⟩
theorem Wk.gV {te e:TypeId} {tz sz b j nx:Nat} {H:Hp} {d:AV} {cs:List AV} (hb:b<nx) (hsz:0<sz) (h:bt H b=some (.row te tz d [.agg cs])) (hj:j<cs.length) (hn:cs.getD j .any= .sc (.slice none 0 0)):
 Wk .any H nx .any ((b,some (.row te tz d [.agg (cs.set j (.sl nx 0))]))::(nx,some (.row e sz .any []))::H) (nx+1):=by
 have look:∀x,bt ((b,some (.row te tz d [.agg (cs.set j (.sl nx 0))]))::(nx,some (.row e sz .any []))::H) x=if x=b then some (.row te tz d [.agg (cs.set j (.sl nx 0))]) else if x=nx then some (.row e sz .any []) else bt H x:=by
  intro x
  by_cases h1:x=b
  ·subst h1;rw[ca,if_pos rfl]
  rw[cN h1,if_neg h1]
  by_cases h2:x=nx
  ·subst h2;rw[ca,if_pos rfl]
  ·rw[cN h2,if_neg h2]
 refine Wk.tell (by omega) (fun x e' sz' d' es he=> ?_) (fun w0 c c2 hS hU hc hc2 hw hle hnew _=>⟨db.any _ _ _,fun x e' sz' d' es d0 es0 he he0=> ?_⟩)
 ·rw[look] at he
  by_cases h1:x=b
  ·subst h1
   rw[if_pos rfl] at he
   cases he
   exact .inl ⟨_,_,h,by simp⟩
  rw[if_neg h1] at he
  by_cases h2:x=nx
  ·subst h2
   rw[if_pos rfl] at he
   cases he
   exact .inr ⟨by omega,by omega,rfl,hsz⟩
  ·rw[if_neg h2] at he
   exact .inl ⟨_,_,he,rfl⟩
 ·have hnx:=hnew nx e sz .any (Nat.le_refl _) (by rw[look,if_neg (by omega),if_pos rfl])
  rw[look] at he
  by_cases h1:x=b
  ·subst h1
   rw[if_pos rfl] at he
   cases he
   rw[h] at he0
   cases he0
   refine .cons (db.agg (dW.DY (by simp) fun i hi=> ?_)) .nil
   by_cases hij:i=j
   ·subst hij
    rw[hn,show(cs.set i (.sl nx 0)).getD i .any= .sl nx 0 from eM hi]
    exact db.nil hnx.1 (by rw[hc2,look,if_neg (by omega),if_pos rfl]) hnx.2
   ·rw[show(cs.set j (.sl nx 0)).getD i .any=cs.getD i .any by simp[List.getD,List.getElem?_set_ne (Ne.symm hij)]]
    exact db.cc hle _
  rw[if_neg h1] at he
  by_cases h2:x=nx
  ·subst h2
   have:=hU x (hS.row x _ _ _ _ (by rw[hc];exact he0)).1
   omega
  ·rw[if_neg h2] at he
   rw[he0] at he;cases he
   exact dW.cc hle _
theorem cU.OW {P:Program} {f:FuncId} {args args2:List AV} {H H2:Hp} {nx nx2:Nat} {R:AV->Hp->Nat->Prop} (h:cU P f args2 H2 nx2 R) (hw:Wk (.dI args) H nx (.dI args2) H2 nx2):cU P f args H nx R:=by
 refine⟨h.1,fun w0 c vs hS hH hU hv=> ?_⟩
 obtain⟨ρ,Hc,U,w,M0⟩:=c
 simp only at hH
 subst hH
 obtain⟨ρ2,U2,h1,h2,h3,h4⟩:=hw w0 ρ U w M0 hU hS
 have h5:=h4 (.tuple vs.toArray) (by rw[VR];exact⟨vs.toArray,rfl,by simpa using hv⟩)
 rw[VR] at h5
 obtain⟨vs2,e1,e2⟩:=h5
 have e3:vs2.toList=vs:=by cases e1;simp
 rw[e3] at e2
 refine(h.2 w0 _ vs h2 rfl h1 e2).mono fun e w' hh=> ?_
 obtain⟨v,r,H',nx',ρ',U',k1,k2,k3,k4,k5,k6⟩:=hh
 exact⟨v,r,H',nx',ρ',U',k1,k2,k3,k4,h3.trans k5,k6⟩
end Go.cw
end
