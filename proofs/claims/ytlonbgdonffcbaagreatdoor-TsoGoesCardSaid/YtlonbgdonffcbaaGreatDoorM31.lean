import Derived.Test.YtlonbgdonffcbaaGreatDoorM30
section
/- Calls that are handed values alone, and hand back a row of their own making, whatever values stand in it. -/
namespace Go.cY
open Go.RowKit
set_option linter.unusedSimpArgs false
set_option linter.unusedVariables false
theorem bz.oE {P:Program} {f:FuncId} {args:List AV} {e:TypeId} {sz:Nat} {es:List AV} (h:bz P f args [] 0 (fun r1 H1 _=>∃b d0,r1= .sl b es.length∧bf H1 b=some (.row e sz d0 es))) (hes:cJ 0 es) (d:AV) {H:Hp} {id:Nat} (hfa:cJ 0 args):
 mX P f args H id (fun r' H''=>r'= .sl id es.length∧H''=ch H (some (id, .row e sz d es))):=by
 refine⟨h.1,fun w0 c vs hS hH hid hv=> ?_⟩
 have hS0:dA c.w ⟨fun _=>none,bf [],fun _=>False,c.w,c.M⟩:=⟨Below.refl _ _,hS.fit,fun b e sz d es he=>by simp[bf] at he,fun b b' k k' blk o z o' z' hk=>by simp[bf] at hk⟩
 have hv':cR ⟨fun _=>none,bf [],fun _=>False,c.w,c.M⟩ args vs:=cR.lJ (fun _ h=>h) hfa hv
 refine(h.2 c.w _ vs hS0 rfl (fun _ h=>h.elim) hv').mono ?_
 rintro en w' ⟨v,r1,H1,nx',ρ,U,he,⟨b,d0,rfl,hb⟩,hU,hS',_,hvr⟩
 rw[VR] at hvr
 obtain⟨_,ad,cap,hvv,hrr⟩:=hvr
 obtain⟨_,hr2⟩:=hrr _ _ _ _ hb
 have hr3:=hr2 rfl
 obtain⟨_,hz,hor⟩:=hS'.jr b _ _ _ _ hb (sB hr3)
 have hbel:=hS'.below
 obtain⟨s1,s2⟩:=hS.world hbel
 have hHeq:bf (ch H (some (id, .row e sz d es)))=ef c.H id (some (.row e sz d es)):=by rw[ct,hH]
 rcases hor with⟨h0,hes0⟩|⟨blk,o,z,hρ,hlow,⟨arr,harr,hsz⟩,hlz,hrow⟩
 ·subst hes0
  obtain⟨p1,p2⟩:=s1.HM (b:=id) (e:=e) (sz:=sz) d hz hid
  refine⟨v,_,_,ef c.ρ id none,he,⟨rfl,rfl⟩, ?_, ?_, ?_⟩
  ·rw[hHeq];exact p1
  ·rw[hHeq];exact s2.trans p2
  ·rw[hHeq,VR]
   refine⟨.inr rfl,ad,cap,hvv,fun e' sz' d' es' he'=> ?_⟩
   simp only[iy,cp,Option.some.injEq,eB.row.injEq] at he'
   obtain⟨rfl,rfl,rfl,rfl⟩:=he'
   refine⟨Nat.le_refl _,fun _=> .inl ⟨by simp[iy], ?_⟩⟩
   rcases hr3 with⟨_,h2,h3⟩|⟨blk,o,z,h2,_⟩
   ·exact⟨h2,h3⟩
   ·rw[h0] at h2;cases h2
 ·obtain⟨p1,p2⟩:=hS.pM (b:=id) (e:=e) (sz:=sz) d (es:=es) (w':=w') (blk:=blk) (o:=o) (z:=z) hz (.inl hid) (.inl hlow) hbel.os hbel.tape hbel.output hbel.size (fun k hk _=>hbel.block k hk) harr hsz hlz (fun hle i hi=>by
   obtain⟨x,x1,x2⟩:=dN hrow i hi
   refine⟨x,x1, ?_⟩
   refine VR.fW (n:=0) ?_ ?_ x2
   ·refine⟨fun b hb=>absurd hb (Nat.not_lt_zero _),fun q hq _=>⟨rfl,fun hm=>hq ?_⟩,fun b hb=>absurd hb (Nat.not_lt_zero _)⟩
    rcases hm with hm|⟨b',k',o',z',h1,h2⟩
    ·exact Or.inl (show c.M q from Or.inl hm)
    ·dsimp only at h1 h2
     by_cases e:b'=id
     ·subst e
      rw[cp] at h2
      cases h2
      exact Or.inr ⟨b,_,_,_,hb,hρ⟩
     ·simp only[ef,if_neg e] at h1 h2
      exact Or.inl (show c.M q from Or.inr ⟨b',k',o',z',h1,h2⟩)
   ·have hx:es.getD i .any=es[i]:=by simp[List.getD,hi]
    rw[hx]
    exact ko hes _ (List.getElem_mem hi))
  refine⟨v,_,_,ef c.ρ id (some (blk,o,z)),he,⟨rfl,rfl⟩, ?_, ?_, ?_⟩
  ·rw[hHeq];exact p1
  ·rw[hHeq];exact p2
  ·rw[hHeq,VR]
   refine⟨.inr rfl,ad,cap,hvv,fun e' sz' d' es' he'=> ?_⟩
   simp only[iy,cp,Option.some.injEq,eB.row.injEq] at he'
   obtain⟨rfl,rfl,rfl,rfl⟩:=he'
   refine⟨by omega,fun _=> .inr ⟨blk,o,z,by simp[iy], ?_⟩⟩
   rcases hr3 with⟨h2,_,_⟩|⟨blk',o',z',h2,h3,h4,h5,h6⟩
   ·rw[hρ] at h2;cases h2
   ·rw[hρ] at h2;cases h2
    exact⟨h3,h4,h5,h6⟩
theorem aY {P:Program} {f:FuncId} {args:List AV} {e:TypeId} {sz:Nat} {es:List AV} {H:Hp} {id:Nat} {K:AV→Option (Nat×eB)→List Nat→Prop} (d:AV)
 (h:bz P f args [] 0 (fun r1 H1 _=>∃b d0,r1= .sl b es.length∧bf H1 b=some (.row e sz d0 es))) (hes:cJ 0 es) (hfa:cJ 0 args)
 (hK:Go (K (.sl id es.length) (some (id, .row e sz d es)) [])):kP P id f args H K:=
 kP.fresh [] (fun H1 _=>h.oE hes d hfa) (fun b q hq=>by cases hq;rfl) hK
end Go.cY
end
