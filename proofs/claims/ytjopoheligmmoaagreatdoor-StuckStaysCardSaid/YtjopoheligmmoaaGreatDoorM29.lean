import Derived.Test.YtjopoheligmmoaaGreatDoorM26
section
/- A call that looks at its caller's rows, and hands back rows of its own making. -/
set_option linter.unusedSimpArgs false
set_option linter.unusedVariables false
namespace Go.cp
open Go.RowKit
mutual
/-- Nothing told by value in it; every name in it is one of these. -/
def qd (p:Nat->Prop):AV->Prop
 | .sc _=>True
 | .any=>True
 | .sl b _=>p b
 | .pt b _ _ _=>p b
 | .zc=>True
 | .agg cs=>AG p cs
 | .dO cs=>AG p cs
 | .mp b=>p b
 | .ab=>True
 |_=>False
def AG (p:Nat->Prop):List AV->Prop
 |[]=>True
 |a::as=>qd p a/\AG p as
end
mutual
theorem VR.own {p:Nat->Prop} {c c2:Cx} (hp:∀b,p b->c.U b->c2.U b/\c2.ρ b=c.ρ b/\∀k,c2.H b=some k->c.H b=some k):∀{a:AV} {v:Value},qd p a->VR c a v->VR c2 a v
 | .sc u,v,_,hv=>by rw[VR] at hv ⊢;exact hv
 | .any,_,_,_=>by rw[VR];trivial
 | .sl b len,v,hn,hv=>by
  rw[qd] at hn;rw[VR] at hv ⊢
  obtain⟨h1,h2,h3⟩:=hp b hn hv.1
  obtain⟨_,a,cap,e1,e2⟩:=hv
  rw[h2];exact⟨h1,a,cap,e1,fun e sz d es he=>e2 e sz d es (h3 _ he)⟩
 | .pt b len i off,v,hn,hv=>by
  rw[qd] at hn;rw[VR] at hv ⊢
  obtain⟨h1,h2,h3⟩:=hp b hn hv.1
  obtain⟨_,hi,a,e1,e2⟩:=hv
  rw[h2];exact⟨h1,hi,a,e1,fun e sz d es he=>e2 e sz d es (h3 _ he)⟩
 | .zc,v,_,hv=>by rw[VR] at hv ⊢;exact hv
 | .agg cs,v,hn,hv=>by rw[qd] at hn;rw[VR] at hv ⊢;obtain⟨vs,h1,h2⟩:=hv;exact⟨vs,h1,cg.own hp hn h2⟩
 | .dO cs,v,hn,hv=>by rw[qd] at hn;rw[VR] at hv ⊢;obtain⟨vs,h1,h2⟩:=hv;exact⟨vs,h1,cg.own hp hn h2⟩
 | .mp b,v,hn,hv=>by
  rw[qd] at hn;rw[VR] at hv ⊢
  obtain⟨h1,h2,h3⟩:=hp b hn hv.1
  obtain⟨_,r,e1,e2⟩:=hv
  rw[h2];exact⟨h1,r,e1,fun e sz d es he=>e2 e sz d es (h3 _ he)⟩
 | .ab,v,_,hv=>by rw[VR] at hv ⊢;exact hv
 | .im _ _ _,_,hn,_=>by rw[qd] at hn;exact hn.elim;all_goals simp
 | .ip _ _ _ _ _,_,hn,_=>by rw[qd] at hn;exact hn.elim;all_goals simp
 | .fn _ _ _,_,hn,_=>by rw[qd] at hn;exact hn.elim;all_goals simp
 | .lY _ _,_,hn,_=>by rw[qd] at hn;exact hn.elim;all_goals simp
 | .sv _ _ _ _,_,hn,_=>by rw[qd] at hn;exact hn.elim;all_goals simp
theorem cg.own {p:Nat->Prop} {c c2:Cx} (hp:∀b,p b->c.U b->c2.U b/\c2.ρ b=c.ρ b/\∀k,c2.H b=some k->c.H b=some k):∀{as:List AV} {vs:List Value},AG p as->cg c as vs->cg c2 as vs
 |[],vs,_,hv=>by rw[cg] at hv ⊢;exact hv
 |a::as,vs,hn,hv=>by
  rw[AG] at hn
  rw[cg] at hv ⊢
  obtain⟨v,vs',h0,h1,h2⟩:=hv
  exact⟨v,vs',h0,VR.own hp hn.1 h1,cg.own hp hn.2 h2⟩
end
theorem da.own {p:Nat->Prop} {c c2:Cx} (hw:c2.w=c.w) (hp:∀b,p b->c.U b->c2.U b/\c2.ρ b=c.ρ b/\∀k,c2.H b=some k->c.H b=some k) {sz blk:Nat}:∀{es:List AV} {o:Nat},AG p es->da c sz es blk o->da c2 sz es blk o
 |[],_,_,_=>by rw[da];trivial
 |e::es,o,hn,hr=>by
  rw[AG] at hn
  rw[da] at hr ⊢
  obtain⟨⟨v,h1,h2⟩,h3⟩:=hr
  exact⟨⟨v,by rw[hw];exact h1,VR.own hp hn.1 h2⟩,da.own hw hp hn.2 h3⟩
end Go.cp
end
