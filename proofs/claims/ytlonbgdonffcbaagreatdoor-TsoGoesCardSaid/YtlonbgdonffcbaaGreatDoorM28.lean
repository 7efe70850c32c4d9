import Derived.Test.YtlonbgdonffcbaaGreatDoorM27
section
/- A stretch whose order is drawn and in which calls act: what each operation gives is told one by one. -/
set_option linter.unusedSimpArgs false
set_option linter.unusedVariables false
namespace Go.cY
open Go.RowKit
structure P1 (gs:List fi) (L:Nat→Bool) (val:Nat→AV) (fr0 fr:Fr):Prop where
 val:∀(i:Nat) (g:fi) (t:Nat),gs[i]?=some g→L i=true→g.dst=some t→cM fr t=val i
 j1:∀t,(∀g∈gs,g.dst≠some t)→cM fr t=cM fr0 t
def D3 (gs:List fi):Bool:=gs.all (fun g=>g.guard.isNone)&&(List.range gs.length).all fun i=>(List.range i).all fun j=>(gs.getD i default).dst.isNone||(gs.getD i default).dst != (gs.getD j default).dst
theorem xY {gs:List fi} (h:D3 gs=true):(∀(i:Nat) (g:fi),gs[i]?=some g→g.guard=none)∧∀(i j:Nat) (g g':fi) (t:Nat),gs[i]?=some g→gs[j]?=some g'→i≠j→g.dst=some t→g'.dst≠some t:=by
 simp only[D3,Bool.and_eq_true,List.all_eq_true,List.mem_range,Bool.or_eq_true,Option.isNone_iff_eq_none,bne_iff_ne,ne_eq] at h
 have key:∀(i j:Nat) (g g':fi) (t:Nat),gs[i]?=some g→gs[j]?=some g'→j<i→g.dst=some t→g'.dst≠some t:=fun i j g g' t hi hj hlt h1 h2=>by
  have hil:=(List.getElem?_eq_some_iff.1 hi).1
  rcases h.2 i hil j hlt with h3|h3
  ·simp[List.getD,hi,h1] at h3
  ·simp[List.getD,hi,hj,h1,h2] at h3
 refine⟨fun i g hi=>h.1 g (List.mem_of_getElem? hi),fun i j g g' t hi hj hne h1 h2=> ?_⟩
 rcases Nat.lt_or_gt_of_ne hne with hlt|hlt
 ·exact key j i g' g t hj hi hlt h2 h1
 ·exact key i j g g' t hi hj hlt h1 h2
theorem AB.of {P:Program} {gs:List fi} {ps:List (Nat×Nat)} {Θ:Type} (val:Θ→Nat→AV) (HP:Θ→(Nat→Bool)→Hp→Nat→Prop) (fr0:Fr) (hd:D3 gs=true)
 (step:∀(i:Nat) (g:fi) θ L fr H nx,gs[i]?=some g→L i=false→(∀j,j<i→xV gs ps j i=true→L j=true)→(∀j,i<j→j<gs.length→xV gs ps i j=true→L j=false)→P1 gs L (val θ) fr0 fr→HP θ L H nx→
  dX P nx fr H g.op fun r H' nx'=>∃θ',(∀j,L j=true→val θ' j=val θ j)∧r=val θ' i∧HP θ' (fun k=>L k||k==i) H' nx'):
 AB P gs ps (fun L fr H nx=>∃θ,P1 gs L (val θ) fr0 fr∧HP θ L H nx):=by
 obtain⟨d1,d2⟩:=xY hd
 intro i g L fr H nx hi hL hp hs ⟨θ,hv,hh⟩
 unfold cm
 rw[d1 i g hi]
 have h1:=step i g θ L fr H nx hi hL hp hs hv hh
 have hmono:∀{op:ck} {R R':AV→Hp→Nat→Prop},dX P nx fr H op R→(∀r H n,R r H n→R' r H n)→dX P nx fr H op R':=by
  intro op R R' h hr
  exact dX.mono h hr
 refine hmono h1 ?_
 rintro r H' nx' ⟨θ',e1,rfl,e3⟩
 refine⟨θ',⟨fun j g' t hj hLj ht=> ?_,fun t ht=> ?_⟩,e3⟩
 ·by_cases hji:j=i
  ·subst hji
   rw[hi] at hj;cases hj
   rw[ht]
   simp[eY,cM]
  ·have hLj2:L j=true:=by
    have:(j==i)=false:=by simpa using hji
    simpa[this] using hLj
   have hne:∀u,g.dst=some u→t≠u:=fun u hu he=>d2 i j g g' u hi hj (Ne.symm hji) hu (by rw[←he];exact ht)
   have:cM (eY fr g.dst (val θ' i)) t=cM fr t:=by
    cases hd2:g.dst with
    |none=>rfl
    |some u=>simp[eY,cM,hne u hd2]
   rw[this,hv.val j g' t hj hLj2 ht,e1 j hLj2]
 ·have hne:g.dst≠some t:=ht g (List.mem_of_getElem? hi)
  have:cM (eY fr g.dst (val θ' i)) t=cM fr t:=by
   cases hd2:g.dst with
   |none=>rfl
   |some u=>
    have:t≠u:=fun he=>hne (by rw[hd2,he])
    simp[eY,cM,this]
  rw[this]
  exact hv.j1 t ht
theorem dX.look {P:Program} {nx:Nat} {fr:Fr} {H:Hp} {op:ck} {r:AV} {K:AV→Hp→Nat→Prop} (hc:∀f as,op≠ .call f as) (h:bq nx fr H op=some (r,none)) (hK:K r H (nx+1)):dX P nx fr H op K:=by
 cases op<;>first|exact absurd rfl (hc _ _)|(unfold dX;simp only[h];exact hK)
theorem dX.act {P:Program} {nx:Nat} {fr:Fr} {H:Hp} {op:ck} {r:AV} {u:Nat×eB} {K:AV→Hp→Nat→Prop} (hc:∀f as,op≠ .call f as) (h:bq nx fr H op=some (r,some u)) (hK:K r ((u.1,some u.2)::H) (nx+1)):dX P nx fr H op K:=by
 cases op<;>first|exact absurd rfl (hc _ _)|(unfold dX;simp only[h];exact hK)
theorem Wk.then {r r2 r3:AV} {H H2 H3:Hp} {nx nx2 nx3:Nat} (h:Wk r H nx r2 H2 nx2) (k:Wk r2 H2 nx2 r3 H3 nx3):Wk r H nx r3 H3 nx3:=by
 intro w0 ρ U w M0 hU hS
 obtain⟨ρ2,U2,a1,a2,a3,a4⟩:=h w0 ρ U w M0 hU hS
 obtain⟨ρ3,U3,b1,b2,b3,b4⟩:=k w0 ρ2 U2 w M0 a1 a2
 exact⟨ρ3,U3,b1,b2,a3.trans b3,fun v hv=>b4 v (a4 v hv)⟩
theorem Wk.same {H H2:Hp} {nx nx2:Nat} (h:Wk .any H nx .any H2 nx2) (r:AV):Wk r H nx r H2 nx2:=by
 intro w0 ρ U w M0 hU hS
 obtain⟨ρ2,U2,h1,h2,h3,_⟩:=h w0 ρ U w M0 hU hS
 exact⟨ρ2,U2,h1,h2,h3,cc.cP h3 r⟩
end Go.cY
end
