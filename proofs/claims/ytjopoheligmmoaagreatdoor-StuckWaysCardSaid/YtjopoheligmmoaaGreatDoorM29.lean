import Derived.Test.YtjopoheligmmoaaGreatDoorM26
section
/- A call that looks at its caller's rows, and hands back rows of its own making. -/
set_option linter.unusedSimpArgs false
set_option linter.unusedVariables false
namespace Go.cw
open Go.RowKit
mutual
/-- Nothing told by value in it; every name in it is one of these. -/
def sk (p:Nat->Prop):AV->Prop
 | .sc _=>True
 | .any=>True
 | .sl b _=>p b
 | .pt b _ _ _=>p b
 | .zc=>True
 | .agg cs=>D4 p cs
 | .dI cs=>D4 p cs
 | .mp b=>p b
 | .ab=>True
 |_=>False
def D4 (p:Nat->Prop):List AV->Prop
 |[]=>True
 |a::as=>sk p a/\D4 p as
end
mutual
theorem VR.own {p:Nat->Prop} {c c2:Cx} (hp:∀b,p b->c.U b->c2.U b/\c2.ρ b=c.ρ b/\∀k,c2.H b=some k->c.H b=some k):∀{a:AV} {v:Value},sk p a->VR c a v->VR c2 a v
 | .sc u,v,_,hv=>by rw[VR] at hv ⊢;exact hv
 | .any,_,_,_=>by rw[VR];trivial
 | .sl b len,v,hn,hv=>by
  rw[sk] at hn;rw[VR] at hv ⊢
  obtain⟨h1,h2,h3⟩:=hp b hn hv.1
  obtain⟨_,a,cap,e1,e2⟩:=hv
  rw[h2];exact⟨h1,a,cap,e1,fun e sz d es he=>e2 e sz d es (h3 _ he)⟩
 | .pt b len i off,v,hn,hv=>by
  rw[sk] at hn;rw[VR] at hv ⊢
  obtain⟨h1,h2,h3⟩:=hp b hn hv.1
  obtain⟨_,hi,a,e1,e2⟩:=hv
  rw[h2];exact⟨h1,hi,a,e1,fun e sz d es he=>e2 e sz d es (h3 _ he)⟩
 | .zc,v,_,hv=>by rw[VR] at hv ⊢;exact hv
 | .agg cs,v,hn,hv=>by rw[sk] at hn;rw[VR] at hv ⊢;obtain⟨vs,h1,h2⟩:=hv;exact⟨vs,h1,cu.own hp hn h2⟩
 | .dI cs,v,hn,hv=>by rw[sk] at hn;rw[VR] at hv ⊢;obtain⟨vs,h1,h2⟩:=hv;exact⟨vs,h1,cu.own hp hn h2⟩
 | .mp b,v,hn,hv=>by
  rw[sk] at hn;rw[VR] at hv ⊢
  obtain⟨h1,h2,h3⟩:=hp b hn hv.1
  obtain⟨_,r,e1,e2⟩:=hv
  rw[h2];exact⟨h1,r,e1,fun e sz d es he=>e2 e sz d es (h3 _ he)⟩
 | .ab,v,_,hv=>by rw[VR] at hv ⊢;exact hv
 | .im _ _ _,_,hn,_=>by rw[sk] at hn;exact hn.elim;all_goals simp
 | .ip _ _ _ _ _,_,hn,_=>by rw[sk] at hn;exact hn.elim;all_goals simp
 | .fn _ _ _,_,hn,_=>by rw[sk] at hn;exact hn.elim;all_goals simp
 | .nA _ _,_,hn,_=>by rw[sk] at hn;exact hn.elim;all_goals simp
 | .sv _ _ _ _,_,hn,_=>by rw[sk] at hn;exact hn.elim;all_goals simp
theorem cu.own {p:Nat->Prop} {c c2:Cx} (hp:∀b,p b->c.U b->c2.U b/\c2.ρ b=c.ρ b/\∀k,c2.H b=some k->c.H b=some k):∀{as:List AV} {vs:List Value},D4 p as->cu c as vs->cu c2 as vs
 |[],vs,_,hv=>by rw[cu] at hv ⊢;exact hv
 |a::as,vs,hn,hv=>by
  rw[D4] at hn
  rw[cu] at hv ⊢
  obtain⟨v,vs',h0,h1,h2⟩:=hv
  exact⟨v,vs',h0,VR.own hp hn.1 h1,cu.own hp hn.2 h2⟩
end
theorem eA.own {p:Nat->Prop} {c c2:Cx} (hw:c2.w=c.w) (hp:∀b,p b->c.U b->c2.U b/\c2.ρ b=c.ρ b/\∀k,c2.H b=some k->c.H b=some k) {sz blk:Nat}:∀{es:List AV} {o:Nat},D4 p es->eA c sz es blk o->eA c2 sz es blk o
 |[],_,_,_=>by rw[eA];trivial
 |e::es,o,hn,hr=>by
  rw[D4] at hn
  rw[eA] at hr ⊢
  obtain⟨⟨v,h1,h2⟩,h3⟩:=hr
  exact⟨⟨v,by rw[hw];exact h1,VR.own hp hn.1 h2⟩,eA.own hw hp hn.2 h3⟩
end Go.cw
end
