import Derived.Test.YtjopoheligmmoaaGreatDoorM8
namespace Go.cw
def VY (P:Program) (n lo:Nat) (y:LC) (Q:QT) (fr:Fr) (H:Hp) (nx:Nat):Prop:=WL P n lo y fr H nx Q
theorem WL.cont {P:Program} {n lo:Nat} {y:LC} {fr:Fr} {H:Hp} {nx:Nat} {Q:QT} (h:WL P n lo y fr H nx Q):VY P n lo y Q fr H nx:=h
theorem ux (a b:AV):qa true a b=a:=by unfold qa;split<;>rfl
theorem sW (a b:AV):qa false a b=b:=by unfold qa;split<;>rfl
theorem WL.TG {P:Program} {n lo:Nat} {fr:Fr} {H:Hp} {nx:Nat} {Q:QT} {c:eO} {x y:LC} (hc:ev fr c= .ab) (h1:WL P n lo x fr H nx Q) (h2:WL P n lo y fr H nx Q):WL P n lo (.cond c x y) fr H nx Q:=by
 intro code hcode w0 M0 c0 a w hh
 have:∃c' c1 c2,code= .cond c' c1 c2/\cQ c'=some c/\dD P n c1=some x/\dD P n c2=some y:=by
  cases code<;>simp only[dD] at hcode
  case cond c' c1 c2=>
   split at hcode
   ·rename_i c'' x' y' g1 g2 g3
    simp only[Option.some.injEq,LC.cond.injEq] at hcode
    obtain⟨rfl,rfl,rfl⟩:=hcode
    exact⟨c',c1,c2,rfl,g1,g2,g3⟩
   ·simp at hcode
  all_goals (exfalso;repeat' (split at hcode))<;>simp at hcode
 obtain⟨c',c1,c2,rfl,g1,g2,g3⟩:=this
 have hh':=hh
 obtain⟨_,_,ρ,U,_,_,hF,_⟩:=hh'
 have hv:=gY hF g1
 rw[hc,VR] at hv
 obtain⟨t,hv⟩:=hv
 exact wp_cond_split hv (fun _=>h1 c1 g2 w0 M0 c0 a w hh) (fun _=>h2 c2 g3 w0 M0 c0 a w hh)
end Go.cw
namespace Go.cw
open Go.RowKit
/-! The same where the order is drawn: a call there must be one that only looks. -/
mutual
def mL:AV->Bool
 | .sc _| .any| .zc=>true
 | .im _ _ es=>qJ es
 | .ip _ _ es _ _=>qJ es
 | .sl _ _| .pt _ _ _ _| .mp _| .sv _ _ _ _=>false
 | .ab=>true
 | .agg cs=>qJ cs
 | .dI cs=>qJ cs
 | .fn _ p q=>qJ p&&qJ q
 | .nA _ x=>mL x
def qJ:List AV->Bool
 |[]=>true
 |a::r=>mL a&&qJ r
end
/-! Rows that are of no more use are laid aside. -/
mutual
def WB:AV->List Nat
 | .sl b _=>[b]
 | .pt b _ _ _=>[b]
 | .mp b=>[b]
 | .sv b _ _ _=>[b]
 | .agg cs=>zq cs
 | .dI cs=>zq cs
 | .fn _ p q=>zq p++zq q
 | .nA _ x=>WB x
 |_=>[]
def zq:List AV->List Nat
 |[]=>[]
 |a::r=>WB a++zq r
end
def pr (cc:Nat->Bool):List Nat->Hp->Hp
 |_,[]=>[]
 |seen,(b,k)::r=>if seen.contains b then pr cc seen r else if cc b then(b,k)::pr cc (b::seen) r else pr cc (b::seen) r
structure LF where
 f:FuncId
 n:Nat
 lc:LC
 res:List lA
 fz:Bool
/-! ## It is so. -/
mutual
theorem w3:∀{a:AV},mL a=true->cH 0 a
 | .sc _,_=>by rw[cH];trivial
 | .any,_=>by rw[cH];trivial
 | .zc,_=>by rw[cH];trivial
 | .im _ _ es,h=>by rw[mL] at h;rw[cH];exact iN h
 | .ip _ _ es _ _,h=>by rw[mL] at h;rw[cH];exact iN h
 | .sl _ _,h=>by simp[mL] at h
 | .pt _ _ _ _,h=>by simp[mL] at h
 | .mp _,h=>by simp[mL] at h
 | .sv _ _ _ _,h=>by simp[mL] at h
 | .ab,_=>by rw[cH];trivial
 | .agg cs,h=>by rw[mL] at h;rw[cH];exact iN h
 | .dI cs,h=>by rw[mL] at h;rw[cH];exact iN h
 | .fn _ p q,h=>by rw[mL,Bool.and_eq_true] at h;rw[cH];exact⟨iN h.1,iN h.2⟩
 | .nA _ x,h=>by rw[mL] at h;rw[cH];exact w3 h
theorem iN:∀{as:List AV},qJ as=true->c8 0 as
 |[],_=>by rw[c8];trivial
 |a::r,h=>by rw[qJ,Bool.and_eq_true] at h;rw[c8];exact⟨w3 h.1,iN h.2⟩
end
theorem cU.pure {P:Program} {f:FuncId} {args:List AV} {r:AV} {H':Hp} (h:cU P f args [] 0 (fun r1 H1 _=>r1=r/\H1=H')) (hf:cH 0 (dY H' 6 r)):Pure P f args (fun r'=>r'=dY H' 6 r):=by
 refine⟨h.1,fun M w vs hM hv=> ?_⟩
 have hS:dy w ⟨fun _=>none,bt [],fun _=>False,w,M⟩:=⟨Below.refl _ _,hM,fun b e sz d es he=>by simp[bt] at he,fun b b' k k' blk o z o' z' hk=>by simp[bt] at hk⟩
 have hv':cu ⟨fun _=>none,bt [],fun _=>False,w,M⟩ args vs:=hv
 refine(h.2 w _ vs hS rfl (fun _ h=>h.elim) hv').mono ?_
 rintro e w' ⟨v,r1,H1,nx',ρ,U,he,⟨rfl,rfl⟩,hU,hS',_,g2⟩
 exact⟨v,_,he,rfl,hf,l3 hS' rfl 6 hf g2,hS'.below⟩
theorem cU.fresh {P:Program} {f:FuncId} {args:List AV} {b n:Nat} {H':Hp} {e:TypeId} {sz:Nat} {d:AV} {es:List AV} (h:cU P f args [] 0 (fun r1 H1 _=>r1= .sl b n/\H1=H')) (hfa:c8 0 args) (hb:bt H' b=some (.row e sz d es)) (hl:es.length=n) (hf:c8 0 es) (H:Hp) (id:Nat):
 lO P f args H id (fun r' H''=>r'= .sl id n/\H''=dS H (some (id, .row e sz d es))):=by
 refine⟨h.1,fun w0 c vs hS hH hid hv=> ?_⟩
 have hS0:dy c.w ⟨fun _=>none,bt [],fun _=>False,c.w,c.M⟩:=⟨Below.refl _ _,hS.fit,fun b e sz d es he=>by simp[bt] at he,fun b b' k k' blk o z o' z' hk=>by simp[bt] at hk⟩
 have hv':cu ⟨fun _=>none,bt [],fun _=>False,c.w,c.M⟩ args vs:=hv.nr (fun _ h=>h) hfa
 refine(h.2 c.w _ vs hS0 rfl (fun _ h=>h.elim) hv').mono ?_
 rintro en w' ⟨v,r1,H1,nx',ρ,U,he,⟨rfl,rfl⟩,hU,hS',_,hvr⟩
 rw[VR] at hvr
 obtain⟨_,ad,cap,hvv,hrr⟩:=hvr
 obtain⟨_,hr2⟩:=hrr _ _ _ _ hb
 have hr3:=hr2 hl
 obtain⟨_,hz,hor⟩:=hS'.kO b _ _ _ _ hb (vI hr3)
 have hbel:=hS'.below
 obtain⟨s1,s2⟩:=hS.world hbel
 have hHeq:bt (dS H (some (id, .row e sz d es)))=fU c.H id (some (.row e sz d es)):=by rw[du,hH]
 rcases hor with⟨h0,hes⟩|⟨blk,o,z,hρ,hlow,⟨arr,harr,hsz⟩,hlz,hrow⟩
 ·subst hes
  simp only[List.length_nil] at hl
  subst hl
  obtain⟨p1,p2⟩:=s1.JM (b:=id) (e:=e) (sz:=sz) d hz hid
  refine⟨v,_,_,fU c.ρ id none,he,⟨rfl,rfl⟩, ?_, ?_, ?_⟩
  ·rw[hHeq];exact p1
  ·rw[hHeq];exact s2.trans p2
  ·rw[hHeq,VR]
   refine⟨.inr rfl,ad,cap,hvv,fun e' sz' d' es' he'=> ?_⟩
   simp only[j6,dV,Option.some.injEq,fH.row.injEq] at he'
   obtain⟨rfl,rfl,rfl,rfl⟩:=he'
   refine⟨Nat.le_refl _,fun _=> .inl ⟨by simp[j6], ?_⟩⟩
   rcases hr3 with⟨_,h2,h3⟩|⟨blk,o,z,h2,_⟩
   ·exact⟨h2,h3⟩
   ·rw[h0] at h2;cases h2
 ·obtain⟨p1,p2⟩:=hS.qc (b:=id) (e:=e) (sz:=sz) d (es:=es) (w':=w') (blk:=blk) (o:=o) (z:=z) hz (.inl hid) (.inl hlow) hbel.os hbel.tape hbel.output hbel.size (fun k hk _=>hbel.block k hk) harr hsz hlz (fun hle i hi=>by
   obtain⟨x,x1,x2⟩:=eC hrow i hi
   refine⟨x,x1,VR.gz (n:=0) (c:=⟨ρ,bt H1,U,w',c.M⟩) (c':={ c with ρ:=fU c.ρ id (some (blk,o,z)),H:=fU c.H id (some (.row e sz d es)),U:=fun x=>c.U x\/x=id,w:=w' }) ⟨fun b hb=>by omega,fun y hm _=>⟨rfl, ?_⟩,fun b hb=>by omega⟩ (zY.1 hf _ ?_) x2⟩
   ·rintro(h0|⟨y',k,o',z',hk,hρ'⟩)
    ·exact hm (.inl (.inl h0))
    ·by_cases hy:y'=id
     ·subst hy
      simp only[dV,Option.some.injEq,Prod.mk.injEq] at hρ'
      obtain⟨rfl,_,_⟩:=hρ'
      exact hm (.inr ⟨b,_,_,_,hb,hρ⟩)
     ·simp only[eV _ _ hy] at hk hρ'
      exact hm (.inl (.inr ⟨y',k,o',z',hk,hρ'⟩))
   ·simp[List.getD,hi])
  refine⟨v,_,_,fU c.ρ id (some (blk,o,z)),he,⟨rfl,rfl⟩, ?_, ?_, ?_⟩
  ·rw[hHeq];exact p1
  ·rw[hHeq];exact p2
  ·rw[hHeq,VR]
   refine⟨.inr rfl,ad,cap,hvv,fun e' sz' d' es' he'=> ?_⟩
   simp only[j6,dV,Option.some.injEq,fH.row.injEq] at he'
   obtain⟨rfl,rfl,rfl,rfl⟩:=he'
   refine⟨by omega,fun _=> .inr ⟨blk,o,z,by simp[j6], ?_⟩⟩
   rcases hr3 with⟨h2,_,_⟩|⟨blk',o',z',h2,h3,h4,h5,h6⟩
   ·rw[hρ] at h2;cases h2
   ·rw[hρ] at h2;cases h2
    exact⟨h3,h4,h5,h6⟩
theorem dy.drop {w0:World} {c:Cx} (h:dy w0 c) {H':Nat->Option fH} (hH:∀b,H' b=c.H b\/H' b=none):dy w0 { c with H:=H' }/\c.le { c with H:=H' }:=by
 have hs:∀b k,H' b=some k->c.H b=some k:=fun b k hk=>by
  rcases hH b with e|e
  ·rw[<-e];exact hk
  ·rw[e] at hk;cases hk
 have hle:c.le { c with H:=H' }:=by
  refine⟨fun _ h=>h,Nat.le_refl _,fun b hm _=>⟨rfl, ?_⟩,fun b _ e sz d es he=>⟨_,_,_,hs b _ he, .inl ⟨rfl,rfl⟩⟩⟩
  rintro(h0|⟨x,k,o,z,hk,hρ⟩)
  ·exact hm (.inl h0)
  ·exact hm (.inr ⟨x,k,o,z,hs x k hk,hρ⟩)
 refine⟨⟨h.below,h.m0,fun b e sz d es he=> ?_,fun b b' k k' blk o z o' z' hk hk'=>h.inj b b' k k' blk o z o' z' (hs _ _ hk) (hs _ _ hk')⟩,hle⟩
 obtain⟨p1,p3⟩:=h.row b e sz d es (hs _ _ he)
 exact⟨p1,p3.cc hle rfl fun _ _ _ _ _=>rfl⟩
theorem CC.drop {lo n:Nat} {fr fr':Fr} {H H':Hp} {nx:Nat} (h1:∀t,cq fr' t=cq fr t) (h2:∀b,bt H' b=bt H b\/bt H' b=none):CC lo n fr H nx fr' H' nx:=by
 rintro w0 M0 c0 a w ⟨hn,hd,ρ,U,hU,hS,hF,hT⟩
 obtain⟨s1,s2⟩:=hS.drop h2
 exact⟨hn,hd,ρ,U,hU,s1,fun t=>by rw[h1];exact VR.cc s2 (hF t),hT.to s2⟩
theorem cU.drop {P:Program} {f:FuncId} {args:List AV} {H:Hp} {nx:Nat} {r:AV} {H1 H2:Hp} {nx1:Nat} (h:cU P f args H nx (fun a b c=>a=r/\b=H1/\c=nx1)) (h2:∀b,bt H2 b=bt H1 b\/bt H2 b=none):
 cU P f args H nx (fun a b c=>a=r/\b=H2/\c=nx1):=by
 refine⟨h.1,fun w0 c vs a1 a2 a3 a4=>(h.2 w0 c vs a1 a2 a3 a4).mono ?_⟩
 rintro e w' ⟨v,r1,H3,nx3,ρ,U,he,⟨rfl,rfl,rfl⟩,hU,hS,hle,hv⟩
 obtain⟨s1,s2⟩:=hS.drop h2
 exact⟨v,_,_,_,ρ,U,he,⟨rfl,rfl,rfl⟩,hU,s1,hle.trans s2,VR.cc s2 hv⟩
theorem cU.mono {P:Program} {f:FuncId} {args:List AV} {H:Hp} {nx:Nat} {R R':AV->Hp->Nat->Prop} (h:cU P f args H nx R) (hr:∀r H n,R r H n->R' r H n):cU P f args H nx R':=
 ⟨h.1,fun w0 c vs a1 a2 a3 a4=>(h.2 w0 c vs a1 a2 a3 a4).mono fun _ _ ⟨v,r,H',nx',ρ,U,he,hR,hrest⟩=>⟨v,r,H',nx',ρ,U,he,hr _ _ _ hR,hrest⟩⟩
theorem wC.mono {P:Program} {t:TypeId} {v:AV} {nm:String} {args:List AV} {H:Hp} {nx:Nat} {R R':AV->Hp->Nat->Prop} (h:wC P t v nm args H nx R) (hr:∀r H n,R r H n->R' r H n):wC P t v nm args H nx R':=by
 obtain⟨f,md,hm,hc⟩:=h
 refine⟨f,md,hm, ?_⟩
 cases md with
 |none=>exact cU.mono hc hr
 |some p=>obtain⟨sz,e,off,r,h1,h2,h3⟩:=hc;exact⟨sz,e,off,r,h1,h2,cU.mono h3 hr⟩
theorem eL.mono {P:Program} {nx:Nat} {fr:Fr} {H:Hp} {op:df} {K K':AV->Hp->Nat->Prop} (h:eL P nx fr H op K) (hk:∀r H n,K r H n->K' r H n):eL P nx fr H op K':=by
 cases op
 case call f as=>
  simp only[eL,tM] at h ⊢
  split at h
  ·exact h.mono hk
  ·exact wC.mono h hk
  ·exact h.elim
 all_goals
  simp only[eL] at h ⊢
  generalize cM nx fr H _=x at h ⊢
  cases x with
  |none=>exact h
  |some p=>exact hk _ _ _ h
theorem fu.mono {P:Program}:∀{gs:List iY} {nx:Nat} {fr:Fr} {H:Hp} {K K':Fr->Hp->Nat->Prop},fu P nx gs fr H K->(∀fr H nx,K fr H nx->K' fr H nx)->fu P nx gs fr H K'
 |[],_,_,_,_,_,h,hk=>hk _ _ _ h
 |_::_,_,_,_,_,_,h,hk=>dj.mono h (fun h=>eL.mono h fun _ _ _ h=>fu.mono h hk) fun h=>fu.mono h hk
theorem jc.mono {P:Program}:∀{gs:List iY} {id:Nat} {fr:Fr} {H:Hp} {tr:Tr} {K K':Fr->Hp->Tr->Prop},jc P id gs fr H tr K->(∀fr H tr,K fr H tr->K' fr H tr)->jc P id gs fr H tr K'
 |[],_,_,_,_,_,_,h,hk=>hk _ _ _ h
 |_::_,_,_,_,_,_,_,h,hk=>dj.mono h (fun h=>h.mono fun _ _ _ h=>jc.mono h hk) fun h=>jc.mono h hk
theorem jJ.mono {P:Program}:∀{segs:List tS} {nx:Nat} {fr:Fr} {H:Hp} {K K':Fr->Hp->Nat->Prop},jJ P nx segs fr H K->(∀fr H nx,K fr H nx->K' fr H nx)->jJ P nx segs fr H K'
 |[],_,_,_,_,_,h,hk=>hk _ _ _ h
 |⟨[],ps⟩::rest,nx,fr,H,K,K',h,hk=>⟨h.1,jJ.mono h.2 hk⟩
 |⟨[g],ps⟩::rest,nx,fr,H,K,K',h,hk=>by
  simp only[jJ] at h ⊢
  exact dj.mono h (fun h=>eL.mono h fun _ _ _ h=>jJ.mono h hk) fun h=>jJ.mono h hk
 |⟨g1::g2::gs,ps⟩::rest,nx,fr,H,K,K',h,hk=>by
  simp only[jJ] at h ⊢
  exact jc.mono h fun _ _ _ ⟨h1,h2⟩=>⟨h1,jJ.mono h2 hk⟩
def Z3 (P:Program) (e:LF):Prop:=∃fn,P.funcs[e.f]?=some fn/\(fn.name== "runtime.NumGoroutine")=false/\(fn.body.bind (dD P fn.ntmps))=some e.lc/\iQ P fn.results.toList=some e.res/\e.n=fn.ntmps
end Go.cw
