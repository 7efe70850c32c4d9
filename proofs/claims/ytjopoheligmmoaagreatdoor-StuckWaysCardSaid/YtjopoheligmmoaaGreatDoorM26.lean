import Derived.Test.YtjopoheligmmoaaGreatDoorM19
section
/- Slots told anew at a loop's head: what is left of a slice gets a name of its own. -/
set_option linter.unusedSimpArgs false
set_option linter.unusedVariables false
namespace Go.cw
open Go.RowKit
theorem Holds.part {w0:World} {M0:Nat->Prop} {c0:Cx} {lo0 m:Nat} {fr:Fr} {H:Hp} {nx:Nat} {ac:Act} {w:World} (hh:Holds w0 M0 c0 lo0 m fr H nx ac w) {e:TypeId} {sz x t len lo n:Nat} {d2:AV} {l:List AV} (h2:cq fr t= .sv x len lo n) (h3:bt H x=some (.row e sz d2 l)) (hl:l.length=len) (hn:lo+n<=len) (hxt:e∉XT:=by decide):
 Holds w0 M0 c0 lo0 m ((t, .sl nx n)::fr) ((nx,some (.row e sz .any ((l.drop lo).take n)))::(x,none)::H) (nx+1) ac w:=by
 obtain⟨hz1,hz2,ρ,U,hU,hS,hF,hT⟩:=hh
 have hxU:=(hS.row x _ _ _ _ h3).1
 have hxn:=hU x hxU
 have hv:=hF t
 rw[h2] at hv
 generalize hvv:(ac.tmps.getD t undef)=v at hv
 rw[VR] at hv
 obtain⟨_,_,a,cap,rfl,hcn,hvr⟩:=hv
 obtain⟨_,hvr⟩:=hvr e sz d2 l h3
 obtain⟨hv1,hv2⟩:=hvr hl
 obtain⟨_,hsz,hxrow⟩:=hS.kO x _ _ _ _ h3 (KC hv2)
 let ρn:Option (Nat×Nat×Nat):=(ρ x).bind fun p=>a.map fun ad=>(p.1,ad.off,p.2.1+p.2.2 - ad.off)
 let ρ2:Nat->Option (Nat×Nat×Nat):=fun y=>if y=nx then ρn else ρ y
 let H2:Hp:=(nx,some (.row e sz .any ((l.drop lo).take n)))::(x,none)::H
 have look:∀y,bt H2 y=if y=nx then some (.row e sz .any ((l.drop lo).take n)) else if y=x then none else bt H y:=by
  intro y
  show bt ((nx,_)::(x,none)::H) y=_
  by_cases g1:y=nx
  ·subst g1;rw[ca,if_pos rfl]
  rw[cN g1,if_neg g1]
  by_cases g2:y=x
  ·subst g2;rw[ca,if_pos rfl]
  rw[cN g2,if_neg g2]
 have hρn:(ρ x=none/\a=none/\cap=0/\ρn=none)\/∃blk o z o2,ρ x=some (blk,o,z)/\a=some ⟨blk,o2,none⟩/\o<=o2/\o2+cap * sz<=o+z/\cap<=maxLen/\ρn=some (blk,o2,o+z - o2):=by
  rcases hv2 with⟨g1,g2,g3⟩|⟨blk,o,z,o2,g1,g2,g3,g4,g5,_⟩
  ·have g1:ρ x=none:=g1
   exact .inl ⟨g1,g2,g3,by simp[ρn,g1]⟩
  ·have g1:ρ x=some (blk,o,z):=g1
   exact .inr ⟨blk,o,z,o2,g1,g2,g3,g4,g5,by simp[ρn,g1,g2]⟩
 have hmono:∀blk,(⟨ρ2,bt H2,fun y=>U y\/y=nx,w,M0⟩:Cx).M blk->(⟨ρ,bt H,U,w,M0⟩:Cx).M blk:=by
  rintro blk (h0|⟨y,k,o,z,hk,hy⟩)
  ·exact .inl h0
  ·simp only at hk hy
   rw[look] at hk
   by_cases g1:y=nx
   ·simp only[ρ2] at hy
    rw[if_pos g1] at hy
    rcases hρn with⟨_,_,_,g2⟩|⟨blk',o',z',o2,g2,_,_,_,_,g3⟩
    ·rw[g2] at hy;cases hy
    ·rw[g3] at hy;cases hy
     exact .inr ⟨x,_,_,_,h3,g2⟩
   ·rw[if_neg g1] at hk
    simp only[ρ2] at hy
    rw[if_neg g1] at hy
    by_cases g2:y=x
    ·rw[if_pos g2] at hk;cases hk
    ·rw[if_neg g2] at hk
     exact .inr ⟨y,_,_,_,hk,hy⟩
 have hle:Cx.le ⟨ρ,bt H,U,w,M0⟩ ⟨ρ2,bt H2,fun y=>U y\/y=nx,w,M0⟩:=by
  refine⟨fun _ h=> .inl h,Nat.le_refl _,fun blk hm _=>⟨rfl,fun hh=>hm (hmono blk hh)⟩,fun y hy e' sz' d' es' he=> ?_⟩
  have hyn:=hU y hy
  simp only at he
  rw[look,if_neg (by omega)] at he
  have e2:ρ2 y=ρ y:=by simp only[ρ2];rw[if_neg (by omega)]
  by_cases g2:y=x
  ·rw[if_pos g2] at he;cases he
  ·rw[if_neg g2] at he
   exact⟨_,_,_,he, .inl ⟨rfl,e2⟩⟩
 have hdl:((l.drop lo).take n).length=n:=by simp;omega
 have e2n:ρ2 nx=ρn:=by simp only[ρ2];rw[if_pos trivial]
 have hval2:VR ⟨ρ2,bt H2,fun y=>U y\/y=nx,w,M0⟩ (.sl nx n) (.slice a n cap):=by
  rw[VR]
  refine⟨.inr rfl,a,cap,rfl,fun e' sz' d' es' he=> ?_⟩
  simp only at he
  rw[look,if_pos rfl] at he
  cases he
  refine⟨by omega,fun _=> ?_⟩
  simp only[e2n]
  rcases hρn with⟨_,g2,g3,g4⟩|⟨blk,o,z,o2,_,g2,g3,g4,g5,g6⟩
  ·exact .inl ⟨g4,g2,g3⟩
  ·exact .inr ⟨blk,o2,o+z - o2,g6,g2,hcn,by omega,g5,hsz⟩
 refine⟨hz1,hz2,ρ2,fun y=>U y\/y=nx, ?_,⟨hS.below,hS.m0,fun y e' sz' d' es' he=> ?_, ?_⟩,fun t'=> ?_,hT.to hle⟩
 ·rintro y (hy|rfl)
  ·have:=hU y hy;omega
  ·omega
 ·simp only at he
  rw[look] at he
  by_cases g1:y=nx
  ·rw[if_pos g1] at he
   cases he
   refine⟨.inr g1, .inl ⟨hsz, ?_⟩⟩
   rw[g1]
   simp only[e2n]
   rcases hρn with⟨g2,_,_,g4⟩|⟨blk,o,z,o2,g2,ga,g3,g4,g5,g6⟩
   ·rcases hxrow with⟨_,h0⟩|⟨_,_,_,hρ,_⟩
    ·exact .inl ⟨g4,by rw[h0];simp⟩
    ·simp only at hρ;rw[g2] at hρ;cases hρ
   ·rcases hxrow with⟨hρ,_⟩|⟨blk',o',z',hρ,k1,⟨arr,k2,k3⟩,k4,k5⟩
    ·simp only at hρ;rw[g2] at hρ;cases hρ
    ·simp only at hρ
     rw[g2] at hρ;cases hρ
     refine .inr ⟨blk,o2,o+z - o2,g6,k1,⟨arr,k2,by omega,fun he=>absurd he hxt⟩, ?_, ?_⟩
     ·rw[hdl]
      have:n * sz<=cap * sz:=Nat.mul_le_mul_right _ hcn
      omega
     ·rcases hv1 with h0|⟨blk',o',z',q1,q2⟩
      ·have:(l.drop lo).take n=[]:=by rw[h0];simp
       rw[this,eA];trivial
      ·simp only at q1
       rw[g2] at q1;cases q1
       rw[ga] at q2
       simp only[Option.some.injEq,Addr.mk.injEq,true_and,and_true] at q2
       subst q2
       have k6:=jK (eA.cc hle rfl k5) lo n (by omega)
       exact k6
  ·rw[if_neg g1] at he
   have e2:ρ2 y=ρ y:=by simp only[ρ2];rw[if_neg g1]
   by_cases g2:y=x
   ·rw[if_pos g2] at he;cases he
   ·rw[if_neg g2] at he
    obtain⟨k0,k2⟩:=hS.row y _ _ _ _ he
    exact⟨.inl k0,k2.cc hle e2 fun _ _ _ _ _=>rfl⟩
 ·intro y y' k k' blk o z o' z' hk hk' hρ hρ'
  have get:∀{y k},y≠nx->bt H2 y=some k->y≠x/\∃k2,bt H y=some k2:=by
   intro y k g1 hk
   rw[look,if_neg g1] at hk
   by_cases g2:y=x
   ·rw[if_pos g2] at hk;cases hk
   ·rw[if_neg g2] at hk
    exact⟨g2,_,hk⟩
  have nxρ:∀{blk o z},ρn=some (blk,o,z)->∃o1 z1,ρ x=some (blk,o1,z1):=by
   intro blk o z h
   rcases hρn with⟨_,_,_,g4⟩|⟨blk',o1,z1,o2,g2,_,_,_,_,g6⟩
   ·rw[g4] at h;cases h
   ·rw[g6] at h;cases h;exact⟨_,_,g2⟩
  simp only at hk hk' hρ hρ'
  by_cases g1:y=nx
  ·by_cases g2:y'=nx
   ·rw[g1,g2]
   ·obtain⟨g3,k2,g4⟩:=get g2 hk'
    rw[g1,e2n] at hρ
    obtain⟨o1,z1,g5⟩:=nxρ hρ
    have e2:ρ2 y'=ρ y':=by simp only[ρ2];rw[if_neg g2]
    rw[e2] at hρ'
    exact absurd (hS.inj y' x _ _ _ _ _ _ _ g4 h3 hρ' g5) g3
  ·have e1:ρ2 y=ρ y:=by simp only[ρ2];rw[if_neg g1]
   rw[e1] at hρ
   obtain⟨g3,k1,g4⟩:=get g1 hk
   by_cases g2:y'=nx
   ·rw[g2,e2n] at hρ'
    obtain⟨o1,z1,g5⟩:=nxρ hρ'
    exact absurd (hS.inj y x _ _ _ _ _ _ _ g4 h3 hρ g5) g3
   ·obtain⟨_,k2,g6⟩:=get g2 hk'
    have e2:ρ2 y'=ρ y':=by simp only[ρ2];rw[if_neg g2]
    rw[e2] at hρ'
    exact hS.inj y y' _ _ _ _ _ _ _ g4 g6 hρ hρ'
 ·show VR _ (if t'=t then .sl nx n else cq fr t') _
  by_cases g:t'=t
  ·rw[if_pos g,g,hvv];exact hval2
  ·rw[if_neg g];exact VR.cc hle (hF t')
def Rt (fr:Fr) (H:Hp) (nx:Nat) (fr2:Fr) (H2:Hp) (nx2:Nat):Prop:=
 ∀w0 M0 c0 lo n a w,Holds w0 M0 c0 lo n fr H nx a w->Holds w0 M0 c0 lo n fr2 H2 nx2 a w
theorem Rt.refl (fr:Fr) (H:Hp) (nx:Nat):Rt fr H nx fr H nx:=fun _ _ _ _ _ _ _ h=>h
theorem Rt.trans {a b c:Fr} {H1 H2 H3:Hp} {n1 n2 n3:Nat} (h:Rt a H1 n1 b H2 n2) (k:Rt b H2 n2 c H3 n3):Rt a H1 n1 c H3 n3:=fun w0 M0 c0 lo n ac w hh=>k w0 M0 c0 lo n ac w (h w0 M0 c0 lo n ac w hh)
theorem Rt.wk {fr:Fr} {H H2:Hp} {nx nx2:Nat} (h:Wk .any H nx .any H2 nx2):Rt fr H nx fr H2 nx2:=fun _ _ _ _ _ _ _ hh=>hh.EI h
theorem Rt.part {fr:Fr} {H:Hp} {nx:Nat} {e:TypeId} {sz x len lo n:Nat} {d2:AV} {l:List AV} (t:Nat) (h2:cq fr t= .sv x len lo n) (h3:bt H x=some (.row e sz d2 l)) (hl:l.length=len) (hn:lo+n<=len) (hxt:e∉XT:=by decide):
 Rt fr H nx ((t, .sl nx n)::fr) ((nx,some (.row e sz .any ((l.drop lo).take n)))::(x,none)::H) (nx+1):=fun _ _ _ _ _ _ _ hh=>hh.part h2 h3 hl hn hxt
theorem Rt.slot {fr:Fr} {H H2:Hp} {nx nx2:Nat} {v v2:AV} (t:Nat) (h:cq fr t=v) (hw:Wk v H nx v2 H2 nx2):Rt fr H nx ((t,v2)::fr) H2 nx2:=by
 rintro w0 M0 c0 lo n a w ⟨h1,h2,ρ,U,hU,hS,hF,hT⟩
 obtain⟨ρ2,U2,k1,k2,k3,k4⟩:=hw w0 ρ U w M0 hU hS
 refine⟨h1,h2,ρ2,U2,k1,k2,fun t'=> ?_,hT.to k3⟩
 show VR _ (if t'=t then v2 else cq fr t') _
 by_cases g:t'=t
 ·rw[if_pos g,g]
  have:=hF t
  rw[h] at this
  exact k4 _ this
 ·rw[if_neg g];exact VR.cc k3 (hF t')
theorem Rt.nil {fr:Fr} {H:Hp} {nx:Nat} (t:Nat) (e:TypeId) (sz:Nat) (hsz:0<sz) (h:cq fr t= .sc (.slice none 0 0)):Rt fr H nx ((t, .sl nx 0)::fr) ((nx,some (.row e sz .any []))::H) (nx+1):=Rt.slot t h (Wk.nil e sz .any hsz)
section
variable {P:Program}
theorem jU.aAG {n lo:Nat} {x:LC} {fr:Fr} {H:Hp} {nx:Nat} {Q:QT} {σ:Type} (I:σ->Fr->Hp->Nat->Prop) (μ:σ->Nat) (s0:σ)
 (h0:∃fr' H' nx',Rt fr H nx fr' H' nx'/\I s0 fr' H' nx')
 (round:∀s fr H nx,I s fr H nx->WL P n lo x fr H nx (jH (fun fr' H' nx'=>∃s',μ s'<μ s/\∃fr2 H2 nx2,Rt fr' H' nx' fr2 H2 nx2/\I s' fr2 H2 nx2) Q)):jU P n lo x fr H nx Q:=by
 refine⟨fun code hc w0 M0 c0 a w hh=> ?_⟩
 have:∃c1,code= .loop c1/\dD P n c1=some x:=by
  cases code<;>simp only[dD] at hc
  case loop c1=>
   simp only[Option.map_eq_some_iff,LC.loop.injEq] at hc
   obtain⟨x',h1,rfl⟩:=hc
   exact⟨c1,rfl,h1⟩
  all_goals (exfalso;repeat' (split at hc))<;>simp at hc
 obtain⟨c1,rfl,h1⟩:=this
 intro b k cs
 have key:∀m,∀s,μ s=m->∀fr H nx,I s fr H nx->∀a w,Holds w0 M0 c0 lo n fr H nx a w->
  ∃e a' w',LQ w0 M0 c0 lo n Q e a' w'/\Arrives P (lone (b.at a (.code c1:: .inLoop c1::k)) cs w) b k cs e a' w':=by
  intro m
  induction m using Nat.strongRecOn with
  |_ m ih=>
   intro s hs fr H nx hI a w hh
   obtain⟨e,a1,w1,hq,harr⟩:=round s fr H nx hI c1 h1 w0 M0 c0 a w hh b (.inLoop c1::k) cs
   obtain⟨x',fr',H',nx',rfl,hQ,hh'⟩:=hq
   cases x' with
   |normal=>
    obtain⟨s',hlt,fr2,H2,nx2,hwk,hI'⟩:=hQ
    obtain⟨e2,a2,w2,hq2,harr2⟩:=ih (μ s') (by omega) s' rfl fr2 H2 nx2 hI' a1 w1 (hwk _ _ _ _ _ _ _ hh')
    exact⟨e2,a2,w2,hq2, .of_steps (Steps.trans harr (.one step_inLoop)) harr2⟩
   |exit id=>exact⟨_,a1,w1,⟨.exit id,fr',H',nx',rfl,hQ,hh'⟩, .pass (x:= .inLoop c1) rfl (fun _ _=> .inl (by simp[Ex.to])) harr⟩
   |ret=>exact⟨_,a1,w1,⟨.ret,fr',H',nx',rfl,hQ,hh'⟩, .pass (x:= .inLoop c1) rfl (fun _ _=> .inl (by simp[Ex.to])) harr⟩
 obtain⟨fr',H',nx',hwk,hI⟩:=h0
 obtain⟨e,a',w',hq,harr⟩:=key _ s0 rfl fr' H' nx' hI a w (hwk _ _ _ _ _ _ _ hh)
 exact⟨e,a',w',hq, .of_steps (.one step_loop) harr⟩
theorem Rt.less {fr fr2:Fr} {H:Hp} {nx:Nat} (h:k7 fr fr2):Rt fr H nx fr2 H nx:=fun _ _ _ _ _ _ _ hh=>hh.less (iP h)
theorem aR {n lo:Nat} {x:LC} {fr:Fr} {H:Hp} {nx:Nat} {Q:QT} {σ:Type} (F:σ->Fr) (I:σ->Hp->Nat->Prop) (μ:σ->Nat) (s0:σ) (h0:∃fr' H' nx',Rt fr H nx fr' H' nx'/\k7 fr' (F s0)/\I s0 H' nx')
 (round:∀s H nx,I s H nx->Go (W P n lo x (F s) H nx (jH (fun fr' H' nx'=>∃s',μ s'<μ s/\∃fr2 H2 nx2,Rt fr' H' nx' fr2 H2 nx2/\k7 fr2 (F s')/\I s' H2 nx2) Q))):jU P n lo x fr H nx Q:=by
 obtain⟨fr1,H1,nx1,hw1,hl1,hI1⟩:=h0
 refine jU.aAG (fun s fr H nx=>fr=F s/\I s H nx) μ s0 ⟨F s0,H1,nx1,hw1.trans (Rt.less hl1),rfl,hI1⟩ ?_
 rintro s fr H nx ⟨rfl,hI⟩
 refine(fX (round s H nx hI)).mono ?_
 intro e fr' H' nx' hh
 cases e with
 |normal=>
  obtain⟨s',h2,fr2,H2,nx2,h4,h3,h5⟩:=hh
  exact⟨s',h2,F s',H2,nx2,h4.trans (Rt.less h3),rfl,h5⟩
 |exit id=>exact hh
 |ret=>exact hh
end
end Go.cw
end
