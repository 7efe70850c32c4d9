import Derived.Test.YtmonponfppdgfaaGreatDoorM27
section
/- A call that looks at its caller's rows, and hands back rows of its own making. -/
set_option linter.unusedSimpArgs false
set_option linter.unusedVariables false
namespace Go.dD
open Go.RowKit
mutual
/-- Nothing told by value in it; every name in it is one of these. -/
def ly (p:Nat->Prop):AV->Prop
 | .sc _=>True
 | .any=>True
 | .sl b _=>p b
 | .pt b _ _ _=>p b
 | .zc=>True
 | .agg cs=>kA p cs
 | .dK cs=>kA p cs
 | .mp b=>p b
 | .ab=>True
 |_=>False
def kA (p:Nat->Prop):List AV->Prop
 |[]=>True
 |a::as=>ly p a/\kA p as
end
theorem sN {p:Nat->Prop}:∀{l:List AV},kA p l↔∀a∈l,ly p a
 |[]=>by simp[kA]
 |a::l=>by rw[kA,sN];simp
mutual
theorem VR.own {p:Nat->Prop} {c c2:Cx} (hp:∀b,p b->c.U b->c2.U b/\c2.ρ b=c.ρ b/\∀k,c2.H b=some k->c.H b=some k):∀{a:AV} {v:Value},ly p a->VR c a v->VR c2 a v
 | .sc u,v,_,hv=>by rw[VR] at hv ⊢;exact hv
 | .any,_,_,_=>by rw[VR];trivial
 | .sl b len,v,hn,hv=>by
  rw[ly] at hn;rw[VR] at hv ⊢
  obtain⟨h1,h2,h3⟩:=hp b hn hv.1
  obtain⟨_,a,cap,e1,e2⟩:=hv
  rw[h2];exact⟨h1,a,cap,e1,fun e sz d es he=>e2 e sz d es (h3 _ he)⟩
 | .pt b len i off,v,hn,hv=>by
  rw[ly] at hn;rw[VR] at hv ⊢
  obtain⟨h1,h2,h3⟩:=hp b hn hv.1
  obtain⟨_,hi,a,e1,e2⟩:=hv
  rw[h2];exact⟨h1,hi,a,e1,fun e sz d es he=>e2 e sz d es (h3 _ he)⟩
 | .zc,v,_,hv=>by rw[VR] at hv ⊢;exact hv
 | .agg cs,v,hn,hv=>by rw[ly] at hn;rw[VR] at hv ⊢;obtain⟨vs,h1,h2⟩:=hv;exact⟨vs,h1,c9.own hp hn h2⟩
 | .dK cs,v,hn,hv=>by rw[ly] at hn;rw[VR] at hv ⊢;obtain⟨vs,h1,h2⟩:=hv;exact⟨vs,h1,c9.own hp hn h2⟩
 | .mp b,v,hn,hv=>by
  rw[ly] at hn;rw[VR] at hv ⊢
  obtain⟨h1,h2,h3⟩:=hp b hn hv.1
  obtain⟨_,r,e1,e2⟩:=hv
  rw[h2];exact⟨h1,r,e1,fun e sz d es he=>e2 e sz d es (h3 _ he)⟩
 | .ab,v,_,hv=>by rw[VR] at hv ⊢;exact hv
 | .im _ _ _,_,hn,_=>by rw[ly] at hn;exact hn.elim;all_goals simp
 | .ip _ _ _ _ _,_,hn,_=>by rw[ly] at hn;exact hn.elim;all_goals simp
 | .fn _ _ _,_,hn,_=>by rw[ly] at hn;exact hn.elim;all_goals simp
 | .mO _ _,_,hn,_=>by rw[ly] at hn;exact hn.elim;all_goals simp
 | .sv _ _ _ _,_,hn,_=>by rw[ly] at hn;exact hn.elim;all_goals simp
theorem c9.own {p:Nat->Prop} {c c2:Cx} (hp:∀b,p b->c.U b->c2.U b/\c2.ρ b=c.ρ b/\∀k,c2.H b=some k->c.H b=some k):∀{as:List AV} {vs:List Value},kA p as->c9 c as vs->c9 c2 as vs
 |[],vs,_,hv=>by rw[c9] at hv ⊢;exact hv
 |a::as,vs,hn,hv=>by
  rw[kA] at hn
  rw[c9] at hv ⊢
  obtain⟨v,vs',h0,h1,h2⟩:=hv
  exact⟨v,vs',h0,VR.own hp hn.1 h1,c9.own hp hn.2 h2⟩
end
theorem dU.own {p:Nat->Prop} {c c2:Cx} (hw:c2.w=c.w) (hp:∀b,p b->c.U b->c2.U b/\c2.ρ b=c.ρ b/\∀k,c2.H b=some k->c.H b=some k) {sz blk:Nat}:∀{es:List AV} {o:Nat},kA p es->dU c sz es blk o->dU c2 sz es blk o
 |[],_,_,_=>by rw[dU];trivial
 |e::es,o,hn,hr=>by
  rw[kA] at hn
  rw[dU] at hr ⊢
  obtain⟨⟨v,h1,h2⟩,h3⟩:=hr
  exact⟨⟨v,by rw[hw];exact h1,VR.own hp hn.1 h2⟩,dU.own hw hp hn.2 h3⟩
theorem nc {S:List Nat} {H:Hp} (b:Nat) (hH:b∈S->bk H b=none):∀H':Hp,bk (H'.filter (fun q=>decide (q.1∈S))++H) b=if b∈S then bk H' b else bk H b
 |[]=>by
  by_cases h:b∈S
  ·rw[if_pos h];exact hH h
  ·rw[if_neg h];rfl
 |(d,v)::H'=>by
  by_cases hd:d∈S
  ·rw[List.filter_cons_of_pos (by simpa using hd),List.cons_append]
   by_cases hb:b=d
   ·subst hb;rw[ch,if_pos hd,ch]
   ·rw[cQ hb,cQ hb];exact nc b hH H'
  ·rw[List.filter_cons_of_neg (by simpa using hd),nc b hH H']
   by_cases hb:b∈S
   ·rw[if_pos hb,if_pos hb,cQ (fun e=>hd (by rw[<-e];exact hb))]
   ·rw[if_neg hb,if_neg hb]
theorem cM.borrow {P:Program} {f:FuncId} {args args2:List AV} {H:Hp} {nx:Nat} {R R2:AV->Hp->Nat->Prop} (h:cM P f args2 [] nx R) (ha:args.map (de H 6)=args2) (hfa:cL 0 args2)
 (hG:∀r H' n',R r H' n'->∃S:List Nat,ly (nx<=·) r/\nx<=n'/\(∀b∈S,nx<=b/\∀e sz d es,bk H' b=some (.row e sz d es)->kA (nx<=·) es)/\∀H2:Hp,(∀b∈S,bk H2 b=bk H' b)->(∀b,b<nx->bk H2 b=bk H b)->R2 r H2 n'):
 cM P f args H nx R2:=by
 refine⟨h.1,fun w0 c vs hS hH hU hv=> ?_⟩
 have hS0:dO c.w ⟨fun _=>none,bk [],fun _=>False,c.w,c.M0⟩:=⟨Below.refl _ _,hS.jx,fun b e sz d es he=>by simp[bk] at he,fun b b' k k' blk o z o' z' hk=>by simp[bk] at hk⟩
 subst ha
 have hv':c9 ⟨fun _=>none,bk [],fun _=>False,c.w,c.M0⟩ (args.map (de H 6)) vs:=jf hS hH hfa hv
 refine(h.2 c.w _ vs hS0 rfl (fun _ h=>h.elim) hv').mono ?_
 rintro en w' ⟨v,r,H',nx',ρ,U,he,hR,hU',hS',_,hvr⟩
 obtain⟨S,hown,hn,hSn,hR2⟩:=hG r H' nx' hR
 have hbel:=hS'.below
 simp only at hbel
 have hHn:∀b,nx<=b->c.H b=none:=fun b hb=>by
  cases hk:c.H b with
  |none=>rfl
  |some k=>
   obtain⟨e,sz,d,es⟩:=k
   have:=hU b (hS.row b e sz d es hk).1
   omega
 have hlow:∀b∈S,nx<=b:=fun b hb=>(hSn b hb).1
 let H2:Hp:=H'.filter (fun q=>decide (q.1∈S))++H
 have look:∀b,bk H2 b=if b∈S then bk H' b else bk H b:=fun b=>nc b (fun hb=>by rw[<-hH];exact hHn b (hlow b hb)) H'
 let ρ2:Nat->Option (Nat×Nat×Nat):=fun b=>if b<nx then c.ρ b else ρ b
 let U2:Nat->Prop:=fun b=>c.U b\/(nx<=b/\U b)
 have hlook:∀{b k},bk H2 b=some k->(b<nx/\c.H b=some k/\ρ2 b=c.ρ b)\/(nx<=b/\b∈S/\bk H' b=some k/\ρ2 b=ρ b):=by
  intro b k hk
  rw[look] at hk
  by_cases hb:b∈S
  ·rw[if_pos hb] at hk
   have:=hlow b hb
   exact .inr ⟨this,hb,hk,by simp only[ρ2];rw[if_neg (by omega)]⟩
  ·rw[if_neg hb,<-hH] at hk
   by_cases hl:b<nx
   ·exact .inl ⟨hl,hk,by simp only[ρ2];rw[if_pos hl]⟩
   ·rw[hHn b (by omega)] at hk;cases hk
 have hle:c.le ⟨ρ2,bk H2,U2,w',c.M0⟩:=by
  refine⟨fun b hb=> .inl hb,hbel.size,fun b hm hl=>⟨hbel.block b hl, ?_⟩,fun b hb e sz d es he=> ?_⟩
  ·rintro(h0|⟨x,k,o,z,hk,hρ⟩)
   ·exact hm (.inl h0)
   ·simp only at hk hρ
    rcases hlook hk with⟨_,g1,g2⟩|⟨_,_,g1,g2⟩
    ·rw[g2] at hρ;exact hm (.inr ⟨x,k,o,z,g1,hρ⟩)
    ·rw[g2] at hρ
     have h7:=(hS'.JQ (b:=x) g1 hρ).1
     exact absurd hl (Nat.not_lt.2 h7)
  ·simp only at he
   have hbn:=hU b hb
   rcases hlook he with⟨_,g1,g2⟩|⟨g0,_,_,_⟩
   ·exact⟨_,_,_,g1, .inl ⟨rfl,g2⟩⟩
   ·omega
 have hpw:∀b,nx<=b->U b->U2 b/\ρ2 b=ρ b/\∀k,bk H2 b=some k->bk H' b=some k:=fun b hb hu=>by
  refine⟨.inr ⟨hb,hu⟩,by simp only[ρ2];rw[if_neg (by omega)],fun k hk=> ?_⟩
  rcases hlook hk with⟨g0,_,_⟩|⟨_,_,g1,_⟩
  ·omega
  ·exact g1
 have hS2:dO w0 ⟨ρ2,bk H2,U2,w',c.M0⟩:=by
  refine⟨hS.below.trans (hbel.mono hS.below.size),hS.m0,fun b e sz d es he=> ?_,fun b b' k k' blk o z o' z' hk hk' hρ hρ'=> ?_⟩
  ·simp only at he
   rcases hlook he with⟨_,g1,g2⟩|⟨g0,gs,g1,g2⟩
   ·obtain⟨k1,k2⟩:=hS.row b e sz d es g1
    exact⟨.inl k1,k2.cH hle g2 fun blk _ _ _ hlt=>hbel.block blk hlt⟩
   ·obtain⟨k1,k2⟩:=hS'.row b e sz d es g1
    have ho:=(hSn b gs).2 e sz d es g1
    have hsz:=hS.below.size
    refine⟨.inr ⟨g0,k1⟩, ?_⟩
    rcases k2 with⟨z0,k2⟩|⟨z0,r,x,ms,clk,m1,m2,m3,rfl,m5,m6⟩
    ·refine .inl ⟨z0, ?_⟩
     rcases k2 with⟨q1,q2⟩|⟨blk,o,z,q1,q2,q3,q4,q5⟩
     ·exact .inl ⟨g2.trans q1,q2⟩
     ·exact .inr ⟨blk,o,z,g2.trans q1,Nat.le_trans hsz q2,q3,q4,dU.own (c:=⟨ρ,bk H',U,w',c.M0⟩) (c2:=⟨ρ2,bk H2,U2,w',c.M0⟩) rfl hpw ho q5⟩
    ·refine .inr ⟨z0,r,x,ms,clk,g2.trans m1,Nat.le_trans hsz m2,m3,rfl,VR.own (c:=⟨ρ,bk H',U,w',c.M0⟩) hpw ?_ m5,m6⟩
     rw[kA] at ho;exact ho.1
  ·simp only at hk hk' hρ hρ'
   rcases hlook hk with⟨_,g1,g2⟩|⟨_,_,g1,g2⟩<;>rcases hlook hk' with⟨_,k1,k2⟩|⟨_,_,k1,k2⟩<;>rw[g2] at hρ<;>rw[k2] at hρ'
   ·exact hS.inj b b' k k' blk o z o' z' g1 k1 hρ hρ'
   ·exact absurd (hS.JQ g1 hρ).2 (Nat.not_lt.2 (hS'.JQ (b:=b') k1 hρ').1)
   ·exact absurd (hS.JQ k1 hρ').2 (Nat.not_lt.2 (hS'.JQ (b:=b) g1 hρ).1)
   ·exact hS'.inj b b' k k' blk o z o' z' g1 k1 hρ hρ'
 refine⟨v,r,H2,nx',ρ2,U2,he,hR2 H2 (fun b hb=>by rw[look,if_pos hb]) (fun b hb=>by rw[look,if_neg (fun hs=>by have:=hlow b hs;omega)]), ?_,hS2,hle,VR.own (c:=⟨ρ,bk H',U,w',c.M0⟩) hpw hown hvr⟩
 rintro b (hb|⟨_,hb⟩)
 ·have:=hU b hb;omega
 ·exact hU' b hb
theorem tV {c:Cx}:∀{as bs:List AV} {vs:List Value},c9 c (as++bs) vs->∃v1 v2,vs=v1++v2/\c9 c as v1/\c9 c bs v2
 |[],bs,vs,h=>⟨[],vs,rfl,by rw[c9],h⟩
 |a::as,bs,vs,h=>by
  rw[List.cons_append,c9] at h
  obtain⟨v,vs',rfl,h1,h2⟩:=h
  obtain⟨v1,v2,rfl,h3,h4⟩:=tV h2
  exact⟨v::v1,v2,rfl,by rw[c9];exact⟨v,v1,rfl,h1,h3⟩,h4⟩
theorem vj {c:Cx}:∀{as bs:List AV} {v1 v2:List Value},c9 c as v1->c9 c bs v2->c9 c (as++bs) (v1++v2)
 |[],bs,v1,v2,h1,h2=>by rw[c9] at h1;subst h1;exact h2
 |a::as,bs,v1,v2,h1,h2=>by
  rw[c9] at h1
  obtain⟨v,vs',rfl,h3,h4⟩:=h1
  rw[List.cons_append,List.cons_append,c9]
  exact⟨v,vs'++v2,rfl,h3,vj h4 h2⟩
theorem cM.MB {P:Program} {f:FuncId} {args args2:List AV} {e:TypeId} {sz:Nat} {es cs:List AV} (yO:nN cs) (h:cM P f args2 [] 0 (fun r1 H1 _=>∃b d0,r1= .agg (cs++[.sl b es.length])/\bk H1 b=some (.row e sz d0 es))) (hfl:∀i,i<es.length->gL (es.getD i .any)) (d:AV) {H:Hp} {id:Nat} (ha:args.map (de H 6)=args2) (hfa:cL 0 args2):
 nH P f args H id (fun r' H''=>r'= .agg (cs++[.sl id es.length])/\H''=cu H (some (id, .row e sz d es))):=by
 refine⟨h.1,fun w0 c vs hS hH hid hv=> ?_⟩
 have hS0:dO c.w ⟨fun _=>none,bk [],fun _=>False,c.w,c.M0⟩:=⟨Below.refl _ _,hS.jx,fun b e sz d es he=>by simp[bk] at he,fun b b' k k' blk o z o' z' hk=>by simp[bk] at hk⟩
 subst ha
 have hv':c9 ⟨fun _=>none,bk [],fun _=>False,c.w,c.M0⟩ (args.map (de H 6)) vs:=jf hS hH hfa hv
 refine(h.2 c.w _ vs hS0 rfl (fun _ h=>h.elim) hv').mono ?_
 rintro en w' ⟨v,r1,H1,nx',ρ,U,he,⟨b,d0,rfl,hb⟩,hU,hS',_,hvr⟩
 rw[VR] at hvr
 obtain⟨us,hus,hvr⟩:=hvr
 obtain⟨v1,v2,hvv2,hv1,hv2⟩:=tV hvr
 rw[c9] at hv2
 obtain⟨x,v3,hx3,hvr,hv3⟩:=hv2
 rw[c9] at hv3
 subst hv3
 subst hx3
 rw[VR] at hvr
 obtain⟨_,ad,cap,hvv,hrr⟩:=hvr
 obtain⟨_,hr2⟩:=hrr _ _ _ _ hb
 have hr3:=hr2 rfl
 obtain⟨_,hz,hor⟩:=hS'.lz b _ _ _ _ hb (tN hr3)
 have hbel:=hS'.below
 obtain⟨s1,s2⟩:=hS.world hbel
 have hHeq:bk (cu H (some (id, .row e sz d es)))=gH c.H id (some (.row e sz d es)):=by rw[dL,hH]
 have fin:∀c2:Cx,VR c2 (.sl id es.length) x->VR c2 (.agg (cs++[.sl id es.length])) v:=fun c2 h2=>by
  rw[VR]
  refine⟨us,hus, ?_⟩
  rw[hvv2]
  refine vj (pM yO hv1) ?_
  rw[c9]
  exact⟨x,[],rfl,h2,by rw[c9]⟩
 rcases hor with⟨h0,hes⟩|⟨blk,o,z,hρ,hlow,⟨arr,harr,hsz⟩,hlz,hrow⟩
 ·subst hes
  obtain⟨p1,p2⟩:=s1.IW (b:=id) (e:=e) (sz:=sz) d hz hid
  refine⟨v,_,_,gH c.ρ id none,he,⟨rfl,rfl⟩, ?_, ?_,fin _ ?_⟩
  ·rw[hHeq];exact p1
  ·rw[hHeq];exact s2.trans p2
  ·rw[hHeq,VR]
   refine⟨.inr rfl,ad,cap,hvv,fun e' sz' d' es' he'=> ?_⟩
   simp only[hD,dF,Option.some.injEq,eO.row.injEq] at he'
   obtain⟨rfl,rfl,rfl,rfl⟩:=he'
   refine⟨Nat.le_refl _,fun _=> .inl ⟨by simp[hD], ?_⟩⟩
   rcases hr3 with⟨_,h2,h3⟩|⟨blk,o,z,h2,_⟩
   ·exact⟨h2,h3⟩
   ·rw[h0] at h2;cases h2
 ·obtain⟨p1,p2⟩:=hS.sS (b:=id) (e:=e) (sz:=sz) d (es:=es) (w':=w') (blk:=blk) (o:=o) (z:=z) hz (.inl hid) (.inl hlow) hbel.os hbel.tape hbel.output hbel.size (fun k hk _=>hbel.block k hk) harr hsz hlz (fun hle i hi=>by
   obtain⟨x,x1,x2⟩:=dw hrow i hi
   refine⟨x,x1,mI ?_ x2⟩
   have:=hfl i hi
   simpa[List.getD,hi] using this)
  refine⟨v,_,_,gH c.ρ id (some (blk,o,z)),he,⟨rfl,rfl⟩, ?_, ?_,fin _ ?_⟩
  ·rw[hHeq];exact p1
  ·rw[hHeq];exact p2
  ·rw[hHeq,VR]
   refine⟨.inr rfl,ad,cap,hvv,fun e' sz' d' es' he'=> ?_⟩
   simp only[hD,dF,Option.some.injEq,eO.row.injEq] at he'
   obtain⟨rfl,rfl,rfl,rfl⟩:=he'
   refine⟨by omega,fun _=> .inr ⟨blk,o,z,by simp[hD], ?_⟩⟩
   rcases hr3 with⟨h2,_,_⟩|⟨blk',o',z',h2,h3,h4,h5,h6⟩
   ·rw[hρ] at h2;cases h2
   ·rw[hρ] at h2;cases h2
    exact⟨h3,h4,h5,h6⟩
theorem aY {P:Program} {f:FuncId} {args args2:List AV} {e:TypeId} {sz:Nat} {es cs:List AV} {H:Hp} {id:Nat} {K:AV->Option (Nat×eO)->List Nat->Prop} (S:List Nat) (d:AV) (yO:nN cs)
 (h:cM P f args2 [] 0 (fun r1 H1 _=>∃b d0,r1= .agg (cs++[.sl b es.length])/\bk H1 b=some (.row e sz d0 es))) (hfl:∀i,i<es.length->gL (es.getD i .any)) (ha:∀H1,(∀b∈S,bk H1 b=bk H b)->args.map (de H1 6)=args2) (hfa:cL 0 args2)
 (hK:Go (K (.agg (cs++[.sl id es.length])) (some (id, .row e sz d es)) S)):l6 P id f args H K:=
 l6.fresh S (fun H1 h1=>h.MB yO hfl d (ha H1 h1) hfa) (fun b q hq=>by cases hq;rfl) hK
end Go.dD
end
