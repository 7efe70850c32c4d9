import Derived.Test.YtjopoheligmmoaaGreatDoorM26
section
/- A call that looks at its caller's rows, and hands back rows of its own making. -/
set_option linter.unusedSimpArgs false
set_option linter.unusedVariables false
namespace Go.dA
open Go.RowKit
mutual
/-- Nothing told by value in it; every name in it is one of these. -/
def s7 (p:Nat->Prop):AV->Prop
 | .sc _=>True
 | .any=>True
 | .sl b _=>p b
 | .pt b _ _ _=>p b
 | .zc=>True
 | .agg cs=>DU p cs
 | .dQ cs=>DU p cs
 | .mp b=>p b
 | .ab=>True
 |_=>False
def DU (p:Nat->Prop):List AV->Prop
 |[]=>True
 |a::as=>s7 p a/\DU p as
end
mutual
theorem VR.own {p:Nat->Prop} {c c2:Cx} (hp:∀b,p b->c.U b->c2.U b/\c2.ρ b=c.ρ b/\∀k,c2.H b=some k->c.H b=some k):∀{a:AV} {v:Value},s7 p a->VR c a v->VR c2 a v
 | .sc u,v,_,hv=>by rw[VR] at hv ⊢;exact hv
 | .any,_,_,_=>by rw[VR];trivial
 | .sl b len,v,hn,hv=>by
  rw[s7] at hn;rw[VR] at hv ⊢
  obtain⟨h1,h2,h3⟩:=hp b hn hv.1
  obtain⟨_,a,cap,e1,e2⟩:=hv
  rw[h2];exact⟨h1,a,cap,e1,fun e sz d es he=>e2 e sz d es (h3 _ he)⟩
 | .pt b len i off,v,hn,hv=>by
  rw[s7] at hn;rw[VR] at hv ⊢
  obtain⟨h1,h2,h3⟩:=hp b hn hv.1
  obtain⟨_,hi,a,e1,e2⟩:=hv
  rw[h2];exact⟨h1,hi,a,e1,fun e sz d es he=>e2 e sz d es (h3 _ he)⟩
 | .zc,v,_,hv=>by rw[VR] at hv ⊢;exact hv
 | .agg cs,v,hn,hv=>by rw[s7] at hn;rw[VR] at hv ⊢;obtain⟨vs,h1,h2⟩:=hv;exact⟨vs,h1,ct.own hp hn h2⟩
 | .dQ cs,v,hn,hv=>by rw[s7] at hn;rw[VR] at hv ⊢;obtain⟨vs,h1,h2⟩:=hv;exact⟨vs,h1,ct.own hp hn h2⟩
 | .mp b,v,hn,hv=>by
  rw[s7] at hn;rw[VR] at hv ⊢
  obtain⟨h1,h2,h3⟩:=hp b hn hv.1
  obtain⟨_,r,e1,e2⟩:=hv
  rw[h2];exact⟨h1,r,e1,fun e sz d es he=>e2 e sz d es (h3 _ he)⟩
 | .ab,v,_,hv=>by rw[VR] at hv ⊢;exact hv
 | .im _ _ _,_,hn,_=>by rw[s7] at hn;exact hn.elim;all_goals simp
 | .ip _ _ _ _ _,_,hn,_=>by rw[s7] at hn;exact hn.elim;all_goals simp
 | .fn _ _ _,_,hn,_=>by rw[s7] at hn;exact hn.elim;all_goals simp
 | .nC _ _,_,hn,_=>by rw[s7] at hn;exact hn.elim;all_goals simp
 | .sv _ _ _ _,_,hn,_=>by rw[s7] at hn;exact hn.elim;all_goals simp
theorem ct.own {p:Nat->Prop} {c c2:Cx} (hp:∀b,p b->c.U b->c2.U b/\c2.ρ b=c.ρ b/\∀k,c2.H b=some k->c.H b=some k):∀{as:List AV} {vs:List Value},DU p as->ct c as vs->ct c2 as vs
 |[],vs,_,hv=>by rw[ct] at hv ⊢;exact hv
 |a::as,vs,hn,hv=>by
  rw[DU] at hn
  rw[ct] at hv ⊢
  obtain⟨v,vs',h0,h1,h2⟩:=hv
  exact⟨v,vs',h0,VR.own hp hn.1 h1,ct.own hp hn.2 h2⟩
end
theorem dz.own {p:Nat->Prop} {c c2:Cx} (hw:c2.w=c.w) (hp:∀b,p b->c.U b->c2.U b/\c2.ρ b=c.ρ b/\∀k,c2.H b=some k->c.H b=some k) {sz blk:Nat}:∀{es:List AV} {o:Nat},DU p es->dz c sz es blk o->dz c2 sz es blk o
 |[],_,_,_=>by rw[dz];trivial
 |e::es,o,hn,hr=>by
  rw[DU] at hn
  rw[dz] at hr ⊢
  obtain⟨⟨v,h1,h2⟩,h3⟩:=hr
  exact⟨⟨v,by rw[hw];exact h1,VR.own hp hn.1 h2⟩,dz.own hw hp hn.2 h3⟩
theorem v7 {c:Cx}:∀{as bs:List AV} {vs:List Value},ct c (as++bs) vs->∃v1 v2,vs=v1++v2/\ct c as v1/\ct c bs v2
 |[],bs,vs,h=>⟨[],vs,rfl,by rw[ct],h⟩
 |a::as,bs,vs,h=>by
  rw[List.cons_append,ct] at h
  obtain⟨v,vs',rfl,h1,h2⟩:=h
  obtain⟨v1,v2,rfl,h3,h4⟩:=v7 h2
  exact⟨v::v1,v2,rfl,by rw[ct];exact⟨v,v1,rfl,h1,h3⟩,h4⟩
theorem yZ {c:Cx}:∀{as bs:List AV} {v1 v2:List Value},ct c as v1->ct c bs v2->ct c (as++bs) (v1++v2)
 |[],bs,v1,v2,h1,h2=>by rw[ct] at h1;subst h1;exact h2
 |a::as,bs,v1,v2,h1,h2=>by
  rw[ct] at h1
  obtain⟨v,vs',rfl,h3,h4⟩:=h1
  rw[List.cons_append,List.cons_append,ct]
  exact⟨v,vs'++v2,rfl,h3,yZ h4 h2⟩
theorem cT.TG {P:Program} {f:FuncId} {args args2:List AV} {e:TypeId} {sz:Nat} {es cs:List AV} (ot:kY cs) (h:cT P f args2 [] 0 (fun r1 H1 _=>∃b d0,r1= .agg (cs++[.sl b es.length])/\cC H1 b=some (.row e sz d0 es))) (hfl:∀i,i<es.length->fu (es.getD i .any)) (d:AV) {H:Hp} {id:Nat} (ha:args.map (df H 6)=args2) (hfa:cg 0 args2):
 kS P f args H id (fun r' H''=>r'= .agg (cs++[.sl id es.length])/\H''=dW H (some (id, .row e sz d es))):=by
 refine⟨h.1,fun w0 c vs hS hH hid hv=> ?_⟩
 have hS0:du c.w ⟨fun _=>none,cC [],fun _=>False,c.w,c.M0⟩:=⟨Below.refl _ _,hS.lW,fun b e sz d es he=>by simp[cC] at he,fun b b' k k' blk o z o' z' hk=>by simp[cC] at hk⟩
 subst ha
 have hv':ct ⟨fun _=>none,cC [],fun _=>False,c.w,c.M0⟩ (args.map (df H 6)) vs:=jz hS hH hfa hv
 refine(h.2 c.w _ vs hS0 rfl (fun _ h=>h.elim) hv').mono ?_
 rintro en w' ⟨v,r1,H1,nx',ρ,U,he,⟨b,d0,rfl,hb⟩,hU,hS',_,hvr⟩
 rw[VR] at hvr
 obtain⟨us,hus,hvr⟩:=hvr
 obtain⟨v1,v2,hvv2,hv1,hv2⟩:=v7 hvr
 rw[ct] at hv2
 obtain⟨x,v3,hx3,hvr,hv3⟩:=hv2
 rw[ct] at hv3
 subst hv3
 subst hx3
 rw[VR] at hvr
 obtain⟨_,ad,cap,hvv,hrr⟩:=hvr
 obtain⟨_,hr2⟩:=hrr _ _ _ _ hb
 have hr3:=hr2 rfl
 obtain⟨_,hz,hor⟩:=hS'.jo b _ _ _ _ hb (sa hr3)
 have hbel:=hS'.below
 obtain⟨s1,s2⟩:=hS.world hbel
 have hHeq:cC (dW H (some (id, .row e sz d es)))=fR c.H id (some (.row e sz d es)):=by rw[dh,hH]
 have fin:∀c2:Cx,VR c2 (.sl id es.length) x->VR c2 (.agg (cs++[.sl id es.length])) v:=fun c2 h2=>by
  rw[VR]
  refine⟨us,hus, ?_⟩
  rw[hvv2]
  refine yZ (lX ot hv1) ?_
  rw[ct]
  exact⟨x,[],rfl,h2,by rw[ct]⟩
 rcases hor with⟨h0,hes⟩|⟨blk,o,z,hρ,hlow,⟨arr,harr,hsz⟩,hlz,hrow⟩
 ·subst hes
  obtain⟨p1,p2⟩:=s1.DZ (b:=id) (e:=e) (sz:=sz) d hz hid
  refine⟨v,_,_,fR c.ρ id none,he,⟨rfl,rfl⟩, ?_, ?_,fin _ ?_⟩
  ·rw[hHeq];exact p1
  ·rw[hHeq];exact s2.trans p2
  ·rw[hHeq,VR]
   refine⟨.inr rfl,ad,cap,hvv,fun e' sz' d' es' he'=> ?_⟩
   simp only[jJ,dS,Option.some.injEq,fD.row.injEq] at he'
   obtain⟨rfl,rfl,rfl,rfl⟩:=he'
   refine⟨Nat.le_refl _,fun _=> .inl ⟨by simp[jJ], ?_⟩⟩
   rcases hr3 with⟨_,h2,h3⟩|⟨blk,o,z,h2,_⟩
   ·exact⟨h2,h3⟩
   ·rw[h0] at h2;cases h2
 ·obtain⟨p1,p2⟩:=hS.p6 (b:=id) (e:=e) (sz:=sz) d (es:=es) (w':=w') (blk:=blk) (o:=o) (z:=z) hz (.inl hid) (.inl hlow) hbel.os hbel.tape hbel.output hbel.size (fun k hk _=>hbel.block k hk) harr hsz hlz (fun hle i hi=>by
   obtain⟨x,x1,x2⟩:=dv hrow i hi
   refine⟨x,x1,lY ?_ x2⟩
   have:=hfl i hi
   simpa[List.getD,hi] using this)
  refine⟨v,_,_,fR c.ρ id (some (blk,o,z)),he,⟨rfl,rfl⟩, ?_, ?_,fin _ ?_⟩
  ·rw[hHeq];exact p1
  ·rw[hHeq];exact p2
  ·rw[hHeq,VR]
   refine⟨.inr rfl,ad,cap,hvv,fun e' sz' d' es' he'=> ?_⟩
   simp only[jJ,dS,Option.some.injEq,fD.row.injEq] at he'
   obtain⟨rfl,rfl,rfl,rfl⟩:=he'
   refine⟨by omega,fun _=> .inr ⟨blk,o,z,by simp[jJ], ?_⟩⟩
   rcases hr3 with⟨h2,_,_⟩|⟨blk',o',z',h2,h3,h4,h5,h6⟩
   ·rw[hρ] at h2;cases h2
   ·rw[hρ] at h2;cases h2
    exact⟨h3,h4,h5,h6⟩
theorem bB {P:Program} {f:FuncId} {args args2:List AV} {e:TypeId} {sz:Nat} {es cs:List AV} {H:Hp} {id:Nat} {K:AV->Option (Nat×fD)->List Nat->Prop} (S:List Nat) (d:AV) (ot:kY cs)
 (h:cT P f args2 [] 0 (fun r1 H1 _=>∃b d0,r1= .agg (cs++[.sl b es.length])/\cC H1 b=some (.row e sz d0 es))) (hfl:∀i,i<es.length->fu (es.getD i .any)) (ha:∀H1,(∀b∈S,cC H1 b=cC H b)->args.map (df H1 6)=args2) (hfa:cg 0 args2)
 (hK:Go (K (.agg (cs++[.sl id es.length])) (some (id, .row e sz d es)) S)):kR P id f args H K:=
 kR.fresh S (fun H1 h1=>h.TG ot hfl d (ha H1 h1) hfa) (fun b q hq=>by cases hq;rfl) hK
end Go.dA
end
