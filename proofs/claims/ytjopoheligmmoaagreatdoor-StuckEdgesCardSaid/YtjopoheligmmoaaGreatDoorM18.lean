import Derived.Test.YtjopoheligmmoaaGreatDoorM16
import Derived.Test.YtjopoheligmmoaaGreatDoorM17
import Derived.IntWalk
namespace Go.dA
open Go.RowKit
section
def Go (p:Prop):Prop:=p
theorem bg {p:Prop} (h:p):Go p:=h
theorem aB {p q:Prop} (h1:Go p) (h2:Go q):p/\q:=⟨h1,h2⟩
theorem aA {es:List AV} {i:Nat} {d:AV} {K:AV->Prop} {e:AV} (h:es.getD i d=e) (k:Go (K e)):qx es i d K:=qx.of h k
theorem bh {H:Hp} {b:Nat} {K:TypeId->Nat->AV->List AV->Prop} {e:TypeId} {sz:Nat} {d:AV} {es:List AV} (h:cC H b=some (.row e sz d es)) (k:Go (K e sz d es)):gn H b K:=gn.of h k
theorem aZ {α:Type} {x:Option α} {K:α->Prop} {a:α} (h:x=some a) (k:Go (K a)):kE x K:=kE.of h k
theorem wrap64 {n:Int} (h1:-9223372036854775808<=n) (h2:n<9223372036854775808):IntKind.i64.wrap n=n:=IntWalk.i64_in _ (by omega)
theorem UP {n:Int} (h1:0<=n) (h2:n<256):IntKind.u8.wrap n=n:=by
 simp only[IntKind.wrap,IntKind.signed,IntKind.bits]
 first|omega|(simp;omega)
theorem bV {g:Option Bool} {k:IntKind} {n:Int} {K:Int->Prop} (hK:Go (K (k.wrap n))):vA g k n K:=vA.of (fun _=>rfl) hK
theorem bJ {g:Option Bool} {n:Int} {K:Int->Prop} (h1:Gd g->-9223372036854775808<=n) (h2:Gd g->n<9223372036854775808) (hK:Go (K n)):vA g .i64 n K:=vA.of (fun hg=>wrap64 (h1 hg) (h2 hg)) hK
theorem bK {g:Option Bool} {n:Int} {K:Int->Prop} (h1:Gd g->0<=n) (h2:Gd g->n<256) (hK:Go (K n)):vA g .u8 n K:=vA.of (fun hg=>UP (h1 hg) (h2 hg)) hK
theorem bd {t:Bool} {A B:Prop} (ht:t=true) (h:Go A):fb t A B:=by subst ht;exact fb.lt h
theorem bc {t:Bool} {A B:Prop} (ht:t=false) (h:Go B):fb t A B:=by subst ht;exact fb.lf h
theorem bu {t w:Bool} {A B J:Prop} (ht:t=w) (h:Go A):ez t w A B J:=by subst ht;exact⟨.inl ⟨fun _=>h,fun h=>absurd rfl h⟩⟩
theorem bt {t w:Bool} {A B J:Prop} (ht:t= !w) (h:Go B):ez t w A B J:=⟨.inl ⟨fun h2=>(by subst h2;cases t<;>cases ht),fun _=>h⟩⟩
theorem cA {A B:Prop} (h:Go A):fb true A B:=fb.lt h
theorem bz {A B:Prop} (h:Go B):fb false A B:=fb.lf h
theorem aY {t:Bool} {A B:Prop} (h1:t=true->Go A) (h2:t=false->Go B):fb t A B:=fb.of h1 h2
theorem cB {A B J:Prop} (h:Go A):ez true true A B J:=ez.tt h
theorem bY {t want:Bool} {A B J:Prop} (h:Go J):ez t want A B J:=ez.join h
theorem bw {t want:Bool} {A B J:Prop} (h1:t=want->Go A) (h2:t= !want->Go B):ez t want A B J:=ez.split h1 h2
def CY (K:List AV->Prop):Prop:=K []
def zL (a:AV) (_:List AV) (ih:(List AV->Prop)->Prop) (K:List AV->Prop):Prop:=gU a fun a=>ih fun r'=>K (a::r')
noncomputable def CX (l:List AV):(List AV->Prop)->Prop:=List.rec (motive:=fun _=>(List AV->Prop)->Prop) CY zL l
theorem wJ:∀(l:List AV) (K:List AV->Prop),CX l K=K l
 |[],_=>rfl
 |a::r,K=>by
  show gU a (fun a=>CX r fun r'=>K (a::r'))=_
  rw[fP,wJ r]
noncomputable def CV (v:AV) (K:AV->Prop):Prop:=
 match v with
 | .dQ l=>CX l fun l=>K (.dQ l)
 |v=>gU v K
theorem wI (v:AV) (K:AV->Prop):CV v K=K v:=by
 cases v<;>first|rfl|exact wJ _ _
structure KS (R:AV->Prop) (r:AV):Prop where
 ok:cP 0 r/\R r
theorem KS.eq {u:AV} {r:AV} (hf:cP 0 u) (h:r=u):KS (fun x=>x=u) r:=⟨by rw[h];exact hf,h⟩
structure KT (R:AV->Hp->Nat->Prop) (r:AV) (H:Hp) (nx:Nat):Prop where
 ok:R r H nx
noncomputable def T8 (lrs:List lA) (R:AV->Prop):QT
 | .exit _,_,_,_=>False
 |_,fr,H,_=>kE (jm fr H lrs) fun rs=>CV (df H 6 (pack rs)) (KS R)
theorem T9 {lrs:List lA} {R:AV->Prop} {e:Ex} {fr:Fr} {H:Hp} {nx:Nat} (h:T8 lrs R e fr H nx):QZ lrs R e fr H nx:=by
 cases e
 case exit=>exact h
 all_goals
  obtain⟨rs,h1,h2⟩:=h.ok
  rw[wI] at h2
  simp only[QZ,h1,nc]
  exact h2.ok
noncomputable def ua (lrs:List lA) (R:AV->Hp->Nat->Prop):QT
 | .exit _,_,_,_=>False
 |_,fr,H,nx=>kE (jm fr H lrs) fun rs=>CV (pack rs) fun r=>KT R r H nx
theorem yB {lrs:List lA} {R:AV->Hp->Nat->Prop} {e:Ex} {fr:Fr} {H:Hp} {nx:Nat} (h:ua lrs R e fr H nx):T7 lrs R e fr H nx:=by
 cases e
 case exit=>exact h
 all_goals
  obtain⟨rs,h1,h2⟩:=h.ok
  rw[wI] at h2
  simp only[T7,h1,nc]
  exact h2.ok
section
variable {P:Program} {f:FuncId} {args:List AV} {H:Hp} {nx:Nat}
theorem aP {r:AV} {K:AV->Hp->Nat->Prop} (h:Pure P f args (fun x=>x=r)) (hf:cg 0 args) (hK:Go (K r H nx)):jL P f args H nx K:=jL.O8 h hf hK
theorem aJ {R K:AV->Hp->Nat->Prop} (h:cT P f args H nx R) (hK:∀r H' nx',R r H' nx'->Go (K r H' nx')):jL P f args H nx K:=jL.of h hK
theorem aL {g:Bool} {r:AV} {K:AV->Prop} (h:g=true->Pure P f args (fun x=>x=r)) (hf:cg 0 args) (hK:Go (K r)):oh P g f args H nx K:=oh.O8 h hf hK
theorem aN {id:Nat} {r:AV} {K:AV->Option (Nat×fD)->List Nat->Prop} (h:Pure P f args (fun x=>x=r)) (hf:cg 0 args) (hK:Go (K r none [])):kR P id f args H K:=kR.O8 h hf hK
theorem aO {g:Bool} {id:Nat} {r:AV} {K:AV->List Nat->Prop} (h:g=true->Pure P f args (fun x=>x=r)) (hf:cg 0 args) (hK:Go (K r [])):vX P g id f args H K:=vX.O8 h hf hK
theorem bZ {fn:Func} {lc:LC} {lrs:List lA} {R:AV->Prop} (hf:P.funcs[f]?=some fn) (hname:(fn.name== "runtime.NumGoroutine")=false)
 (hl:(fn.body.bind (dE P fn.ntmps))=some lc) (hr:iE P fn.results.toList=some lrs) {n:Nat} (hn:n=fn.ntmps) (ha:Nat.ble args.length n=true)
 (h:Go (W P n 0 lc (kI 0 args) [] 0 (T8 lrs R))):Pure P f args R:=by
 subst hn
 exact Pure.q8 hf hname hl hr (Nat.le_of_ble_eq_true ha) ((fV h).mono fun _ _ _ _=>T9)
theorem br {fn:Func} {lc:LC} {lrs:List lA} {R:AV->Hp->Nat->Prop} (hf:P.funcs[f]?=some fn) (hname:(fn.name== "runtime.NumGoroutine")=false)
 (hl:(fn.body.bind (dE P fn.ntmps))=some lc) (hr:iE P fn.results.toList=some lrs) {n:Nat} (hn:n=fn.ntmps) (ha:Nat.ble args.length n=true)
 (h:Go (W P n nx lc (kI 0 args) H nx (ua lrs R))):cT P f args H nx R:=by
 subst hn
 exact cT.q8 hf hname hl hr (Nat.le_of_ble_eq_true ha) ((fV h).mono fun _ _ _ _=>yB)
theorem bL {segs:List vD} {fr:Fr} {H:Hp} {nx:Nat} {Q:QT} (h:Go (WS P nx segs [] fr H fun ov H' nx'=>Q .normal (iV ov fr) H' nx')):jC P segs fr H nx Q:=jC.of h
theorem aI {n lo:Nat} {x:LC} {fr:Fr} {Q:QT} {σ:Type} (F:σ->Fr) (I:σ->Hp->Nat->Prop) (μ:σ->Nat) (s0:σ) (h0:kb fr (F s0)) (h1:I s0 H nx)
 (round:∀s H nx,I s H nx->Go (W P n lo x (F s) H nx (jA (fun fr' H' nx'=>∃s',μ s'<μ s/\kb fr' (F s')/\I s' H' nx') Q))):jM P n lo x fr H nx Q:=jM.fr F I μ s0 h0 h1 round
structure pd (P:Program) (n lo:Nat) (x:LC) (fr:Fr) (H:Hp) (nx:Nat) (Q:QT):Prop where
 ok:∀c1,dE P n c1=some x->∀w0 M0 c0 a w,Holds w0 M0 c0 lo n fr H nx a w->∀b k cs,∃e a' w',LQ w0 M0 c0 lo n Q e a' w'/\Arrives P (lone (b.at a (.code c1:: .inLoop c1::k)) cs w) b k cs e a' w'
theorem bx {n lo:Nat} {x:LC} {fr:Fr} {Q:QT} (h:pd P n lo x fr H nx Q):jM P n lo x fr H nx Q:=by
 refine⟨fun code hc w0 M0 c0 a w hh=> ?_⟩
 have:∃c1,code= .loop c1/\dE P n c1=some x:=by
  cases code<;>simp only[dE] at hc
  case loop c1=>
   simp only[Option.map_eq_some_iff,LC.loop.injEq] at hc
   obtain⟨x',h1,rfl⟩:=hc
   exact⟨c1,rfl,h1⟩
  all_goals (exfalso;repeat' (split at hc))<;>simp at hc
 obtain⟨c1,rfl,h1⟩:=this
 intro b k cs
 obtain⟨e,a',w',hq,harr⟩:=h.ok c1 h1 w0 M0 c0 a w hh b k cs
 exact⟨e,a',w',hq, .of_steps (.one step_loop) harr⟩
theorem bF {n lo:Nat} {x:LC} {fr:Fr} {Q:QT} (h:Go (W P n lo x fr H nx (jA (fun fr H nx=>pd P n lo x fr H nx Q) Q))):pd P n lo x fr H nx Q:=by
 refine⟨fun c1 h1 w0 M0 c0 a w hh b k cs=> ?_⟩
 obtain⟨e,a1,w1,hq,harr⟩:=fV h c1 h1 w0 M0 c0 a w hh b (.inLoop c1::k) cs
 obtain⟨x',fr',H',nx',rfl,hQ,hh'⟩:=hq
 cases x' with
 |normal=>
  obtain⟨e2,a2,w2,hq2,harr2⟩:=hQ.ok c1 h1 w0 M0 c0 a1 w1 hh' b k cs
  exact⟨e2,a2,w2,hq2, .of_steps (Steps.trans harr (.one step_inLoop)) harr2⟩
 |exit id=>exact⟨_,a1,w1,⟨.exit id,fr',H',nx',rfl,hQ,hh'⟩, .pass (x:= .inLoop c1) rfl (fun _ _=> .inl (by simp[Ex.to])) harr⟩
 |ret=>exact⟨_,a1,w1,⟨.ret,fr',H',nx',rfl,hQ,hh'⟩, .pass (x:= .inLoop c1) rfl (fun _ _=> .inl (by simp[Ex.to])) harr⟩
end
theorem dI {α:Type} [Inhabited α] (f:α->AV) (l:List α) (i:Nat) (d:AV) (h:i<l.length):(l.map f).getD i d=f (l.getD i default):=by simp[List.getD,h]
theorem cx (H:Hp) (b:Nat) (k:Option fD):cC ((b,k)::H) b=k:=by simp[cC]
theorem H9 {H:Hp} {b d:Nat} {v k:Option fD} (hne:b≠d) (h:cC H b=k):cC ((d,v)::H) b=k:=by simp[cC,hne,h]
end
def dY (c c2:Cx) (a a2:AV):Prop:=∀v,VR c a v->VR c2 a2 v
theorem dY.cd {c c2:Cx} (h:c.le c2) (a:AV):dY c c2 a a:=fun _ hv=>VR.cd h hv
theorem dY.any (c c2:Cx) (a:AV):dY c c2 a .any:=fun _ _=>by rw[VR];trivial
theorem dY.nil {c c2:Cx} {b:Nat} {e:TypeId} {sz:Nat} {d:AV} (hU:c2.U b) (hH:c2.H b=some (.row e sz d [])) (hρ:c2.ρ b=none):dY c c2 (.sc (.slice none 0 0)) (.sl b 0):=by
 intro v hv
 rw[VR] at hv
 subst hv
 rw[VR]
 refine⟨hU,none,0,rfl,fun e' sz' d' es' he=> ?_⟩
 rw[hH] at he
 cases he
 exact⟨by simp,fun _=> .inl ⟨hρ,rfl,rfl⟩⟩
theorem dY.im {w0:World} {c c2:Cx} (hS:du w0 c) (hle:c.le c2) {b:Nat} {e:TypeId} {sz:Nat} {d:AV} {es:List AV} (d2:AV) (hw:c2.w=c.w) (hH:c.H b=some (.row e sz d es)) (hM:∀blk o z,c.ρ b=some (blk,o,z)->¬c2.M blk):dY c c2 (.sl b es.length) (.im sz d2 es):=by
 intro v hv
 rw[VR] at hv
 obtain⟨_,a,cap,rfl,hr⟩:=hv
 obtain⟨_,hr⟩:=hr _ _ _ _ hH
 obtain⟨_,hz,hrow⟩:=hS.jo b _ _ _ _ hH (sa (hr rfl))
 rw[VR]
 rcases hr rfl with⟨hρ,rfl,rfl⟩|⟨blk,o,z,hρ,rfl,hc1,_,_⟩
 ·rcases hrow with⟨_,rfl⟩|⟨_,_,_,hρ',_⟩
  ·exact⟨none,0,rfl,by simp, .inl rfl⟩
  ·rw[hρ] at hρ';cases hρ'
 ·rcases hrow with⟨hρ',_⟩|⟨blk1,o1,z1,hρ1,_,_,_,hrow⟩
  ·rw[hρ] at hρ';cases hρ'
  ·rw[hρ] at hρ1;cases hρ1
   exact⟨_,cap,rfl,hc1, .inr ⟨blk,o,rfl,hz,hM _ _ _ hρ,dz.cd hle (by rw[hw]) hrow⟩⟩
inductive dZ (c c2:Cx):List AV->List AV->Prop where
 |nil:dZ c c2 [] []
 |cons {a a2:AV} {as as2:List AV} (h:dY c c2 a a2) (hs:dZ c c2 as as2):dZ c c2 (a::as) (a2::as2)
theorem dZ.length {c c2:Cx} {as as2:List AV} (h:dZ c c2 as as2):as.length=as2.length:=by
 induction h with
 |nil=>rfl
 |cons _ _ ih=>simp[ih]
theorem dZ.cd {c c2:Cx} (h:c.le c2):∀(as:List AV),dZ c c2 as as
 |[]=> .nil
 |a::as=> .cons (dY.cd h a) (dZ.cd h as)
theorem dZ.ZQ {c c2:Cx} {as as2:List AV} (h:dZ c c2 as as2):∀{vs:List Value},ct c as vs->ct c2 as2 vs:=by
 induction h with
 |nil=>intro vs hv;rw[ct] at hv ⊢;exact hv
 |cons h1 _ ih=>
  intro vs hv
  rw[ct] at hv
  obtain⟨v,vs',rfl,g1,g2⟩:=hv
  rw[ct]
  exact⟨v,vs',rfl,h1 v g1,ih g2⟩
theorem dZ.append {c c2:Cx} {as as2 bs bs2:List AV} (h:dZ c c2 as as2) (h2:dZ c c2 bs bs2):dZ c c2 (as++bs) (as2++bs2):=by
 induction h with
 |nil=>exact h2
 |cons h1 _ ih=>exact .cons h1 ih
theorem dZ.DP {c c2:Cx}:∀{as as2:List AV},as.length=as2.length->(∀i,i<as.length->dY c c2 (as.getD i .any) (as2.getD i .any))->dZ c c2 as as2
 |[],[],_,_=> .nil
 |[],_::_,h,_=>by simp at h
 |_::_,[],h,_=>by simp at h
 |a::as,b::bs,hl,h=> .cons (by simpa using h 0 (by simp)) (dZ.DP (by simpa using hl) fun i hi=>by simpa using h (i+1) (by simpa using hi))
theorem dY.agg {c c2:Cx} {as as2:List AV} (h:dZ c c2 as as2):dY c c2 (.agg as) (.agg as2):=by
 intro v hv
 rw[VR] at hv ⊢
 obtain⟨vs,rfl,hr⟩:=hv
 exact⟨vs,rfl,h.ZQ hr⟩
theorem dY.dQ {c c2:Cx} {as as2:List AV} (h:dZ c c2 as as2):dY c c2 (.dQ as) (.dQ as2):=by
 intro v hv
 rw[VR] at hv ⊢
 obtain⟨vs,rfl,hr⟩:=hv
 exact⟨vs,rfl,h.ZQ hr⟩
theorem dZ.row {c c2:Cx} (hw:c2.w=c.w) {sz:Nat} {blk:Nat} {as as2:List AV} (h:dZ c c2 as as2):∀{o:Nat},dz c sz as blk o->dz c2 sz as2 blk o:=by
 induction h with
 |nil=>intro o _;rw[dz];trivial
 |cons h1 _ ih=>
  intro o hr
  rw[dz] at hr ⊢
  obtain⟨⟨v,g1,g2⟩,g3⟩:=hr
  exact⟨⟨v,by rw[hw];exact g1,h1 v g2⟩,ih g3⟩
structure tA (c c2:Cx):Prop where
 w:c2.w=c.w
 m0:c2.M0=c.M0
 U:∀b,c.U b->c2.U b
 gx:∀b,c.U b->c2.ρ b=c.ρ b
 row:∀b e sz d es,c2.H b=some (.row e sz d es)->c2.U b/\((∃d0 es0,c.H b=some (.row e sz d0 es0)/\c.U b/\es0.length=es.length)\/(es=[]/\¬c.U b/\c2.ρ b=none/\0<sz))
theorem tA.le {c c2:Cx} (h:tA c c2):c.le c2:=by
 refine⟨h.U,by rw[h.w];exact Nat.le_refl _,fun b hm _=>⟨by rw[h.w], ?_⟩,fun b hu e sz d es he=> ?_⟩
 ·rintro(h0|⟨x,k,o,z,hk,hρ⟩)
  ·exact hm (.inl (by rw[<-h.m0];exact h0))
  ·obtain⟨e,sz,d,es⟩:=k
   obtain⟨_,⟨d0,es0,h1,h2,_⟩|⟨_,_,h3,_⟩⟩:=h.row x e sz d es hk
   ·exact hm (.inr ⟨x,_,o,z,h1,by rw[<-h.gx x h2];exact hρ⟩)
   ·rw[h3] at hρ;cases hρ
 ·obtain⟨_,⟨d0,es0,h1,h2,h3⟩|⟨_,h2,_⟩⟩:=h.row b e sz d es he
  ·exact⟨e,d0,es0,h1, .inl ⟨h3,h.gx b hu⟩⟩
  ·exact absurd hu h2
theorem tA.UB {w0:World} {c c2:Cx} (h:tA c c2) (hS:du w0 c) (hv:∀b e sz d es d0 es0,c2.H b=some (.row e sz d es)->c.H b=some (.row e sz d0 es0)->dZ c c2 es0 es):du w0 c2:=by
 refine⟨by rw[h.w];exact hS.below,by rw[h.m0];exact hS.m0,fun b e sz d es he=> ?_,fun b b' k k' blk o z o' z' hk hk' hρ hρ'=> ?_⟩
 ·obtain⟨hU,⟨d0,es0,h1,h2,h3⟩|⟨rfl,h2,h3,h4⟩⟩:=h.row b e sz d es he
  ·have hav:=hv b e sz d es d0 es0 he h1
   obtain⟨_,⟨g2,g3⟩|⟨g2,g3⟩⟩:=hS.row b e sz d0 es0 h1
   ·refine⟨hU, .inl ⟨g2, ?_⟩⟩
    rw[h.gx b h2,h.w]
    rcases g3 with⟨g4,g5⟩|⟨blk,o,z,g4,g5,g6,g7,g8⟩
    ·subst g5
     exact .inl ⟨g4,List.eq_nil_of_length_eq_zero (by simpa using h3.symm)⟩
    ·exact .inr ⟨blk,o,z,g4,g5,g6,by rw[<-h3];exact g7,hav.row h.w g8⟩
   ·obtain⟨r,x,ms,clk,g4,g5,g6,rfl,g8,g9⟩:=g3
    cases hav with
    |cons k1 k2=>
     cases k2
     exact⟨hU, .inr ⟨g2,r,_,ms,clk,(h.gx b h2).trans g4,g5,by rw[h.w];exact g6,rfl,k1 _ g8,g9⟩⟩
  ·exact⟨hU, .inl ⟨h4, .inl ⟨h3,rfl⟩⟩⟩
 ·obtain⟨e,sz,d,es⟩:=k
  obtain⟨e',sz',d',es'⟩:=k'
  obtain⟨_,⟨_,_,h1,h2,_⟩|⟨_,_,h3,_⟩⟩:=h.row b _ _ _ _ hk
  ·obtain⟨_,⟨_,_,g1,g2,_⟩|⟨_,_,g3,_⟩⟩:=h.row b' _ _ _ _ hk'
   ·exact hS.inj b b' _ _ blk o z o' z' h1 g1 (by rw[<-h.gx b h2];exact hρ) (by rw[<-h.gx b' g2];exact hρ')
   ·rw[g3] at hρ';cases hρ'
  ·rw[h3] at hρ;cases hρ
def Wk (r:AV) (H:Hp) (nx:Nat) (r2:AV) (H2:Hp) (nx2:Nat):Prop:=
 ∀w0 ρ U w M0,(∀b,U b->b<nx)->du w0 ⟨ρ,cC H,U,w,M0⟩->
  ∃ρ2 U2,(∀b,U2 b->b<nx2)/\du w0 ⟨ρ2,cC H2,U2,w,M0⟩/\Cx.le ⟨ρ,cC H,U,w,M0⟩ ⟨ρ2,cC H2,U2,w,M0⟩/\dY ⟨ρ,cC H,U,w,M0⟩ ⟨ρ2,cC H2,U2,w,M0⟩ r r2
theorem cT.wk {P:Program} {f:FuncId} {args:List AV} {H:Hp} {nx:Nat} {R R2:AV->Hp->Nat->Prop} (h:cT P f args H nx R) (hR:∀r H' nx',R r H' nx'->∃r2 H2 nx2,Wk r H' nx' r2 H2 nx2/\R2 r2 H2 nx2):cT P f args H nx R2:=by
 refine⟨h.1,fun w0 c vs a1 a2 a3 a4=>(h.2 w0 c vs a1 a2 a3 a4).mono ?_⟩
 rintro e w' ⟨v,r,H',nx',ρ,U,rfl,hRr,hU,hS,hle,hv⟩
 obtain⟨r2,H2,nx2,hw,hR2⟩:=hR r H' nx' hRr
 obtain⟨ρ2,U2,k1,k2,k3,k4⟩:=hw w0 ρ U w' c.M0 hU hS
 exact⟨v,r2,H2,nx2,ρ2,U2,rfl,hR2,k1,k2,hle.trans k3,k4 v hv⟩
def kY:List AV->Prop
 |[]=>True
 | .sc _::r=>kY r
 |_::_=>False
def fu:AV->Prop
 | .sc _=>True
 | .agg cs=>kY cs
 | .dQ cs=>∀a∈cs,(∃u,a= .sc u)\/∃ds,a= .agg ds/\kY ds
 |_=>False
theorem lX {c c2:Cx}:∀{cs:List AV} {vs:List Value},kY cs->ct c cs vs->ct c2 cs vs
 |[],vs,_,h=>by rw[ct] at h ⊢;exact h
 | .sc u::r,vs,hf,h=>by
  rw[ct] at h ⊢
  obtain⟨v,vs',rfl,h1,h2⟩:=h
  exact⟨v,vs',rfl,by rw[VR] at h1 ⊢;exact h1,lX hf h2⟩
theorem lY {c c2:Cx} {r:AV} {v:Value} (hf:fu r) (h:VR c r v):VR c2 r v:=by
 have one:∀{a:AV} {v:Value},((∃u,a= .sc u)\/∃ds,a= .agg ds/\kY ds)->VR c a v->VR c2 a v:=by
  rintro a v (⟨u,rfl⟩|⟨ds,rfl,hd⟩) h
  ·rw[VR] at h ⊢;exact h
  ·rw[VR] at h ⊢;obtain⟨vs,rfl,hr⟩:=h;exact⟨vs,rfl,lX hd hr⟩
 cases r<;>simp only[fu] at hf
 case sc u=>exact one (.inl ⟨u,rfl⟩) h
 case agg cs=>exact one (.inr ⟨cs,rfl,hf⟩) h
 case dQ cs=>
  rw[VR] at h ⊢
  obtain⟨vs,rfl,hr⟩:=h
  refine⟨vs,rfl, ?_⟩
  generalize vs.toList=l at hr
  induction cs generalizing l with
  |nil=>rw[ct] at hr ⊢;exact hr
  |cons a cs ih=>
   rw[ct] at hr ⊢
   obtain⟨v,vs',rfl,h1,h2⟩:=hr
   exact⟨v,vs',rfl,one (hf a (by simp)) h1,ih (fun b hb=>hf b (by simp[hb])) _ h2⟩
theorem jz {w0:World} {c:Cx} {H:Hp} (h:du w0 c) (hH:c.H=cC H):∀{as:List AV} {vs:List Value},cg 0 (as.map (df H 6))->ct c as vs->ct (base c.w c.M0) (as.map (df H 6)) vs
 |[],vs,_,hv=>by rw[ct] at hv;subst hv;simp only[List.map_nil];rw[ct]
 |a::as,vs,hf,hv=>by
  rw[ct] at hv
  obtain⟨v,vs',rfl,h1,h2⟩:=hv
  simp only[List.map_cons,cg] at hf ⊢
  rw[ct]
  exact⟨v,vs',rfl,l3 h hH 6 hf.1 h1,jz h hH hf.2 h2⟩
theorem Pure.view {P:Program} {f:FuncId} {args args2:List AV} {r:AV} {H:Hp} {nx:Nat} {K:AV->Hp->Nat->Prop} (h:Pure P f args2 (fun x=>x=r)) (ha:args.map (df H 6)=args2) (hf:cg 0 args2) (hr:fu r) (hK:K r H nx):cT P f args H nx K:=by
 refine⟨h.1,fun w0 c vs hS hH hU hv=> ?_⟩
 subst ha
 refine(h.2 c.M0 c.w vs hS.lW (jz hS hH hf hv)).mono fun e w' hh=> ?_
 obtain⟨v,r',rfl,rfl,_,hvr,hb⟩:=hh
 obtain⟨s1,s2⟩:=hS.world hb
 refine⟨v,r',H,nx,c.ρ,c.U,rfl,hK,hU, ?_, ?_,lY hr hvr⟩
 ·rw[<-hH];exact s1
 ·rw[<-hH];exact s2
theorem Pure.ZC {P:Program} {f:FuncId} {args args2:List AV} {r:AV} {H:Hp} {id:Nat} (h:Pure P f args2 (fun x=>x=r)) (ha:args.map (df H 6)=args2) (hf:cg 0 args2) (hr:fu r):kS P f args H id (fun r' H'=>r'=r/\H'=H):=by
 refine⟨h.1,fun w0 c vs hS hH hU hv=> ?_⟩
 subst ha
 refine(h.2 c.M0 c.w vs hS.lW (jz hS hH hf hv)).mono fun e w' hh=> ?_
 obtain⟨v,r',rfl,rfl,_,hvr,hb⟩:=hh
 obtain⟨s1,s2⟩:=hS.world hb
 obtain⟨t1,t2⟩:=s1.used (U:=fun x=>c.U x\/x=id) fun _ h=> .inl h
 refine⟨v,r',H,c.ρ,rfl,⟨rfl,rfl⟩, ?_, ?_,lY hr hvr⟩
 ·rw[<-hH];exact t1
 ·rw[<-hH];exact s2.trans t2
theorem aW {P:Program} {f:FuncId} {args:List AV} {H:Hp} {nx:Nat} {args2:List AV} {r:AV} {K:AV->Hp->Nat->Prop} (h:Pure P f args2 (fun x=>x=r)) (ha:args.map (df H 6)=args2) (hf:cg 0 args2) (hr:fu r) (hK:Go (K r H nx)):jL P f args H nx K:=⟨h.view ha hf hr hK⟩
theorem bM {P:Program} {f:FuncId} {args:List AV} {H:Hp} {nx:Nat} {g:Bool} {args2:List AV} {r:AV} {K:AV->Prop} (h:g=true->Pure P f args2 (fun x=>x=r)) (ha:args.map (df H 6)=args2) (hf:cg 0 args2) (hr:fu r) (hK:Go (K r)):oh P g f args H nx K:=
 ⟨⟨r,fun hg K' hK'=>by
   have:=(h hg).view (H:=H) (nx:=nx) (K:=fun r' H' n=>∃n',n<=n'/\K' r' H' n') ha hf hr ⟨_,Nat.le_succ _,hK'⟩
   refine⟨this.1,fun w0 c vs a1 a2 a3 a4=>(this.2 w0 c vs a1 a2 a3 a4).mono ?_⟩
   rintro e w' ⟨v,r,H',nx',ρ,U,he,⟨n',hn,hR⟩,hU,hrest⟩
   exact⟨v,r,H',n',ρ,U,he,hR,fun b hb=>Nat.lt_of_lt_of_le (hU b hb) hn,hrest⟩,hK⟩⟩
theorem ah {P:Program} {f:FuncId} {args:List AV} {H:Hp} {id:Nat} (S:List Nat) {args2:List AV} {r:AV} {K:AV->Option (Nat×fD)->List Nat->Prop} (h:Pure P f args2 (fun x=>x=r)) (ha:∀H1,(∀b∈S,cC H1 b=cC H b)->args.map (df H1 6)=args2) (hf:cg 0 args2) (hr:fu r) (hK:Go (K r none S)):kR P id f args H K:=
 kR.fresh S (fun H1 h1=>h.ZC (ha H1 h1) hf hr) (fun _ _ h=>by cases h) hK
mutual
/-- Every name in it is one of these. -/
def iq (p:Nat->Prop):AV->Prop
 | .sc _=>True
 | .any=>True
 | .im _ _ es=>jj p es
 | .ip _ _ es _ _=>jj p es
 | .sl b _=>p b
 | .pt b _ _ _=>p b
 | .zc=>True
 | .agg cs=>jj p cs
 | .dQ cs=>jj p cs
 | .fn _ x q=>jj p x/\jj p q
 | .nC _ x=>iq p x
 | .mp b=>p b
 | .ab=>True
 | .sv b _ _ _=>p b
def jj (p:Nat->Prop):List AV->Prop
 |[]=>True
 |a::as=>iq p a/\jj p as
end
mutual
theorem VR.DM {c:Cx}:∀{a:AV} {v:Value},VR c a v->iq c.U a
 | .sc u,v,_=>by rw[iq];trivial
 | .any,_,_=>by rw[iq];trivial
 | .im sz d es,v,hv=>by
  rw[VR] at hv
  rw[iq]
  obtain⟨_,_,_,_,h0|⟨blk,o,_,_,_,hr⟩⟩:=hv
  ·subst h0;rw[jj];trivial
  ·exact dz.DM hr
 | .ip sz d es i off,v,hv=>by
  rw[VR] at hv
  rw[iq]
  obtain⟨_,_,blk,o,_,_,hr⟩:=hv
  exact dz.DM hr
 | .sl b len,v,hv=>by rw[VR] at hv;rw[iq];exact hv.1
 | .pt b len i off,v,hv=>by rw[VR] at hv;rw[iq];exact hv.1
 | .zc,v,_=>by rw[iq];trivial
 | .agg cs,v,hv=>by rw[VR] at hv;rw[iq];obtain⟨_,_,hr⟩:=hv;exact ct.DM hr
 | .dQ cs,v,hv=>by rw[VR] at hv;rw[iq];obtain⟨_,_,hr⟩:=hv;exact ct.DM hr
 | .fn f p q,v,hv=>by rw[VR] at hv;rw[iq];obtain⟨_,_,_,h1,h2⟩:=hv;exact⟨ct.DM h1,ct.DM h2⟩
 | .nC t x,v,hv=>by rw[VR] at hv;rw[iq];obtain⟨_,_,h1⟩:=hv;exact VR.DM h1
 | .mp b,v,hv=>by rw[VR] at hv;rw[iq];exact hv.1
 | .ab,v,_=>by rw[iq];trivial
 | .sv b len lo n,v,hv=>by rw[VR] at hv;rw[iq];exact hv.1
theorem dz.DM {c:Cx} {sz blk:Nat}:∀{es:List AV} {o:Nat},dz c sz es blk o->jj c.U es
 |[],_,_=>by rw[jj];trivial
 |e::es,o,hr=>by
  rw[dz] at hr
  rw[jj]
  obtain⟨⟨v,_,h2⟩,h3⟩:=hr
  exact⟨VR.DM h2,dz.DM h3⟩
theorem ct.DM {c:Cx}:∀{as:List AV} {vs:List Value},ct c as vs->jj c.U as
 |[],vs,_=>by rw[jj];trivial
 |a::as,vs,hv=>by
  rw[ct] at hv
  rw[jj]
  obtain⟨v,vs',_,h1,h2⟩:=hv
  exact⟨VR.DM h1,ct.DM h2⟩
end
mutual
theorem VR.D1 {c:Cx} {U:Nat->Prop}:∀{a:AV} {v:Value},iq U a->VR c a v->VR { c with U:=U } a v
 | .sc u,v,_,hv=>by rw[VR] at hv ⊢;exact hv
 | .any,_,_,_=>by rw[VR];trivial
 | .im sz d es,v,hn,hv=>by
  rw[iq] at hn
  rw[VR] at hv ⊢
  obtain⟨a,cap,h1,h2,h3⟩:=hv
  refine⟨a,cap,h1,h2, ?_⟩
  rcases h3 with h3|⟨blk,o,h4,h5,h6,h7⟩
  ·exact .inl h3
  ·exact .inr ⟨blk,o,h4,h5,h6,dz.D1 hn h7⟩
 | .ip sz d es i off,v,hn,hv=>by
  rw[iq] at hn
  rw[VR] at hv ⊢
  obtain⟨h1,h2,blk,o,h3,h4,h5⟩:=hv
  exact⟨h1,h2,blk,o,h3,h4,dz.D1 hn h5⟩
 | .sl b len,v,hn,hv=>by rw[iq] at hn;rw[VR] at hv ⊢;exact⟨hn,hv.2⟩
 | .pt b len i off,v,hn,hv=>by rw[iq] at hn;rw[VR] at hv ⊢;exact⟨hn,hv.2⟩
 | .zc,v,_,hv=>by rw[VR] at hv ⊢;exact hv
 | .agg cs,v,hn,hv=>by rw[iq] at hn;rw[VR] at hv ⊢;obtain⟨vs,h1,h2⟩:=hv;exact⟨vs,h1,ct.D1 hn h2⟩
 | .dQ cs,v,hn,hv=>by rw[iq] at hn;rw[VR] at hv ⊢;obtain⟨vs,h1,h2⟩:=hv;exact⟨vs,h1,ct.D1 hn h2⟩
 | .fn f p q,v,hn,hv=>by rw[iq] at hn;rw[VR] at hv ⊢;obtain⟨ps,qs,h1,h2,h3⟩:=hv;exact⟨ps,qs,h1,ct.D1 hn.1 h2,ct.D1 hn.2 h3⟩
 | .nC t x,v,hn,hv=>by rw[iq] at hn;rw[VR] at hv ⊢;obtain⟨u,h1,h2⟩:=hv;exact⟨u,h1,VR.D1 hn h2⟩
 | .mp b,v,hn,hv=>by rw[iq] at hn;rw[VR] at hv ⊢;exact⟨hn,hv.2⟩
 | .ab,v,_,hv=>by rw[VR] at hv ⊢;exact hv
 | .sv b len lo n,v,hn,hv=>by rw[iq] at hn;rw[VR] at hv ⊢;exact⟨hn,hv.2⟩
theorem dz.D1 {c:Cx} {U:Nat->Prop} {sz blk:Nat}:∀{es:List AV} {o:Nat},jj U es->dz c sz es blk o->dz { c with U:=U } sz es blk o
 |[],_,_,_=>by rw[dz];trivial
 |e::es,o,hn,hr=>by
  rw[jj] at hn
  rw[dz] at hr ⊢
  obtain⟨⟨v,h1,h2⟩,h3⟩:=hr
  exact⟨⟨v,h1,VR.D1 hn.1 h2⟩,dz.D1 hn.2 h3⟩
theorem ct.D1 {c:Cx} {U:Nat->Prop}:∀{as:List AV} {vs:List Value},jj U as->ct c as vs->ct { c with U:=U } as vs
 |[],vs,_,hv=>by rw[ct] at hv ⊢;exact hv
 |a::as,vs,hn,hv=>by
  rw[jj] at hn
  rw[ct] at hv ⊢
  obtain⟨v,vs',h0,h1,h2⟩:=hv
  exact⟨v,vs',h0,VR.D1 hn.1 h1,ct.D1 hn.2 h2⟩
end
theorem cT.O8 {P:Program} {f:FuncId} {args:List AV} {r:AV} {H:Hp} {nx:Nat} {K:AV->Hp->Nat->Prop} (h:cT P f args H nx (fun r' H' _=>r'=r/\H'=H)) (hr:fu r) (hK:K r H nx):cT P f args H nx K:=by
 refine⟨h.1,fun w0 c vs hS hH hU hv=>(h.2 w0 c vs hS hH hU hv).mono ?_⟩
 rintro e w' ⟨v,r',H',nx',ρ,U,rfl,⟨rfl,rfl⟩,_,hS',hle,hvr⟩
 have hrows:∀b e sz d es,cC H' b=some (.row e sz d es)->c.U b/\(∀blk o z,c.ρ b=some (blk,o,z)->jj c.U es)/\(c.ρ b=none->es=[]):=by
  intro b e sz d es he
  obtain⟨g1,⟨_,g3⟩|⟨_,r,x,ms,clk,g3,_,_,rfl,g5,_⟩⟩:=hS.row b e sz d es (by rw[hH];exact he)
  ·refine⟨g1,fun blk o z hρ=> ?_,fun hρ=> ?_⟩
   ·rcases g3 with⟨g4,rfl⟩|⟨_,_,_,_,_,_,_,g5⟩
    ·rw[jj];trivial
    ·exact g5.DM
   ·rcases g3 with⟨_,g4⟩|⟨_,_,_,g4,_⟩
    ·exact g4
    ·rw[hρ] at g4;cases g4
  ·refine⟨g1,fun blk o z hρ=> ?_,fun hρ=> ?_⟩
   ·simp only[jj,and_true];exact g5.DM
   ·rw[hρ] at g3;cases g3
 have hnam:∀b e sz d es,cC H' b=some (.row e sz d es)->jj c.U es:=by
  intro b e sz d es he
  obtain⟨_,h2,h3⟩:=hrows b e sz d es he
  cases hρ:c.ρ b with
  |none=>rw[h3 hρ,jj];trivial
  |some x=>exact h2 _ _ _ hρ
 refine⟨v,r',H',nx,ρ,c.U,rfl,hK,hU,⟨hS'.below,hS'.m0,fun b e sz d es he=> ?_,hS'.inj⟩,⟨fun _ h=>h,hle.sz,hle.blk,hle.row⟩,lY hr hvr⟩
 obtain⟨_,⟨g2,g3⟩|⟨g2,r,x,ms,clk,g4,g5,g6,rfl,g8,g9⟩⟩:=hS'.row b e sz d es he
 ·refine⟨(hrows b e sz d es he).1, .inl ⟨g2, ?_⟩⟩
  rcases g3 with g3|⟨blk,o,z,g4,g5,g6,g7,g8⟩
  ·exact .inl g3
  ·exact .inr ⟨blk,o,z,g4,g5,g6,g7,dz.D1 (hnam b e sz d es he) g8⟩
 ·have hn:=hnam b e sz d _ he
  simp only[jj,and_true] at hn
  exact⟨(hrows b e sz d _ he).1, .inr ⟨g2,r,x,ms,clk,g4,g5,g6,rfl,VR.D1 hn g8,g9⟩⟩
theorem cT.more {P:Program} {f:FuncId} {args:List AV} {H:Hp} {nx:Nat} {K K':AV->Hp->Nat->Prop} (h:cT P f args H nx K) (hk:∀r H n,K r H n->∃n',n<=n'/\K' r H n'):cT P f args H nx K':=by
 refine⟨h.1,fun w0 c vs a1 a2 a3 a4=>(h.2 w0 c vs a1 a2 a3 a4).mono ?_⟩
 rintro e w' ⟨v,r,H',nx',ρ,U,he,hR,hU,hrest⟩
 obtain⟨n',hn,hR'⟩:=hk _ _ _ hR
 exact⟨v,r,H',n',ρ,U,he,hR',fun b hb=>Nat.lt_of_lt_of_le (hU b hb) hn,hrest⟩
theorem bW {P:Program} {f:FuncId} {args:List AV} {H:Hp} {nx:Nat} {g:Bool} {r:AV} {K:AV->Prop} (h:g=true->cT P f args H nx (fun r' H' _=>r'=r/\H'=H)) (hr:fu r) (hK:Go (K r)):oh P g f args H nx K:=
 ⟨⟨r,fun hg K' hK'=>((h hg).O8 (K:=fun r' H' n=>r'=r/\H'=H/\n=nx) hr ⟨rfl,rfl,rfl⟩).more (by rintro _ _ _ ⟨rfl,rfl,rfl⟩;exact⟨_,Nat.le_succ _,hK'⟩),hK⟩⟩
theorem bX {P:Program} {f:FuncId} {args:List AV} {H:Hp} {nx:Nat} {r:AV} {K:AV->Hp->Nat->Prop} (h:cT P f args H nx (fun r' H' _=>r'=r/\H'=H)) (hr:fu r) (hK:Go (K r H nx)):jL P f args H nx K:=⟨h.O8 hr hK⟩
def xD (P:Program) (f:FuncId) (args:List AV) (H:Hp) (nx:Nat) (r:AV):Prop:=cT P f args H nx (fun r' H' _=>r'=r/\∀b,b<nx->cC H' b=cC H b)
theorem xD.exact {P:Program} {f:FuncId} {args:List AV} {H:Hp} {nx:Nat} {r:AV} (h:xD P f args H nx r):cT P f args H nx (fun r' H' _=>r'=r/\H'=H):=by
 refine⟨h.1,fun w0 c vs hS hH hU hv=>(h.2 w0 c vs hS hH hU hv).mono ?_⟩
 rintro e w' ⟨v,r',H',nx',ρ,U,rfl,⟨rfl,hk⟩,hU',hS',hle,hvr⟩
 have h2:∀b,cC H b=cC H' b\/cC H b=none:=by
  intro b
  by_cases hb:b<nx
  ·exact .inl (hk b hb).symm
  ·cases hg:cC H b with
   |none=>exact .inr rfl
   |some k=>
    exfalso
    obtain⟨e,sz,d,es⟩:=k
    exact hb (hU b (hS.row b e sz d es (by rw[hH];exact hg)).1)
 obtain⟨s1,s2⟩:=hS'.drop h2
 exact⟨v,_,_,nx',ρ,U,rfl,⟨rfl,rfl⟩,hU',s1,hle.trans s2,VR.cd s2 hvr⟩
theorem af {P:Program} {f:FuncId} {args:List AV} {H:Hp} {nx:Nat} {r:AV} {K:AV->Hp->Nat->Prop} (h:xD P f args H nx r) (hr:fu r) (hK:Go (K r H nx)):jL P f args H nx K:=bX h.exact hr hK
theorem aa {P:Program} {f:FuncId} {args:List AV} {H:Hp} {nx:Nat} {g:Bool} {r:AV} {K:AV->Prop} (h:g=true->xD P f args H nx r) (hr:fu r) (hK:Go (K r)):oh P g f args H nx K:=bW (fun hg=>(h hg).exact) hr hK
theorem cc {H:Hp} {b d:Nat} {v:Option fD} (hne:b≠d):cC ((d,v)::H) b=cC H b:=by simp[cC,hne]
theorem KT.look {r r':AV} {H H':Hp} {nx nx':Nat} (h:r'=r) (hk:∀b,b<nx->cC H' b=cC H b):KT (fun r' H' _=>r'=r/\∀b,b<nx->cC H' b=cC H b) r' H' nx':=⟨⟨h,hk⟩⟩
theorem PL (d:Nat) (k:IntKind) (i:Nat):lB d (some (.sc (.int k (i:Int))))=some i:=by
 simp only[lB];rw[if_pos (by omega)];simp
theorem UD {H:Hp} {s:Nat} {d:AV} {es:List AV} {lo hi:Option AV} {l h:Nat} (h1:lB 0 lo=some l) (h2:lB es.length hi=some h) (h3:l<=h/\h<=es.length):uh H s lo hi (.im s d es)=some (.im s d ((es.drop l).take (h - l))):=by
 simp only[uh,h1,h2];rw[if_pos ⟨trivial,h3⟩]
structure ZI (a b:Nat):Prop where
 ne:a≠b
def w3 (b:Nat):List Nat->Prop
 |[]=>True
 |x::l=>ZI b x/\w3 b l
def TE (s t:List Nat×Option Nat):Prop:=match s.2,t.2 with
 |none,none=>True
 |some b,none=>w3 b t.1
 |none,some b=>w3 b s.1
 |some b,some b'=>w3 b t.1/\w3 b' s.1/\ZI b b'
def CN (tr:Tr):List (Nat×Nat)->Prop
 |[]=>True
 |p::ps=>TE (tr.getD p.1 ([],none)) (tr.getD p.2 ([],none))/\CN tr ps
theorem ll {b:Nat}:∀{l:List Nat},w3 b l->b∉l
 |[],_=>by simp
 |x::l,h=>by
  have h1:=h.1.ne
  have h2:=ll h.2
  simp[h1,h2]
theorem HN {s t:List Nat×Option Nat} (h:TE s t):CO s t:=by
 obtain⟨s1,s2⟩:=s
 obtain⟨t1,t2⟩:=t
 cases s2<;>cases t2<;>simp only[TE] at h<;>simp only[CO]
 ·simp
 ·refine⟨by simp, ?_,by simp⟩
  rintro b ⟨⟩;exact ll h
 ·refine⟨?_,by simp,by simp⟩
  rintro b ⟨⟩;exact ll h
 ·refine⟨?_, ?_, ?_⟩
  ·rintro b ⟨⟩;exact ll h.1
  ·rintro b ⟨⟩;exact ll h.2.1
  ·rintro b ⟨h1,h2⟩
   cases h1;cases h2;exact h.2.2.ne rfl
theorem tm {tr:Tr}:∀{ps:List (Nat×Nat)},CN tr ps->j3 tr ps
 |[],_=>by intro p hp;cases hp
 |q::ps,h=>by
  intro p hp
  rcases List.mem_cons.1 hp with rfl|hp
  ·exact HN h.1
  ·exact tm h.2 p hp
noncomputable def D7 (tr:Tr):Tr->(Tr->Prop)->Prop:=List.rec (motive:=fun _=>Tr->(Tr->Prop)->Prop) (fun acc K=>K acc) (fun x _ ih acc K=>ih (x::acc) K) tr
theorem GJ:∀(tr acc:Tr) (K:Tr->Prop),D7 tr acc K=K (tr.reverse++acc)
 |[],acc,K=>rfl
 |x::tr,acc,K=>by
  show D7 tr (x::acc) K=_
  rw[GJ tr];simp
theorem bC {tr:Tr} {ps:List (Nat×Nat)} (h:Go (D7 tr [] fun t=>CN t ps)):Ask (j3 tr.reverse ps):=⟨tm (by have h2:D7 tr [] fun t=>CN t ps:=h;rw[GJ,List.append_nil] at h2;exact h2)⟩
theorem N6 {fr:Fr} {H:Hp}:jm fr H []=some []:=rfl
theorem N7 {fr:Fr} {H:Hp} {t:Nat} {r:List lA} {q:List AV} (h:jm fr H r=some q):jm fr H (.tmp t::r)=some (cu fr t::q):=by simp only[jm,h]
theorem JO {fr:Fr} {H:Hp} {t k b len i off sz:Nat} {ag:Bool} {e:TypeId} {d x:AV} {es q:List AV} {r:List lA} (h1:cu fr t= .pt b len i off) (h2:cC H b=some (.row e sz d es)) (h3:es.length=len)
 (h4:zq ag k (es.getD i d) sz off=some x) (h5:jm fr H r=some q):jm fr H (.cell t ag k::r)=some (x::q):=by
 have:kd H (.pt b len i off)=some (sz,es.getD i d,off):=by simp only[kd,h2,h3];simp
 simp only[jm,h1,this,h4,h5]
theorem jZ {l:List AV} {n k m:Nat} (hl:l.length=m) (h:(n+m) * k<=175921860444160):(n+l.length) * k<=gX:=by rw[hl];exact h
theorem yG {H:Hp} {s b len:Nat} {e:TypeId} {d:AV} {es:List AV} {lo hi:Option AV} {l h:Nat} (h0:cC H b=some (.row e s d es)) (hl:es.length=len) (h1:lB 0 lo=some l) (h2:lB len hi=some h) (h3:l<=h/\h<=len):uh H s lo hi (.sl b len)=some (.sv b len l (h - l)):=by
 simp only[uh,h0,h1,h2];rw[if_pos ⟨hl,trivial,h3⟩]
theorem xo {H:Hp} {b len sz:Nat} {e:TypeId} {d:AV} {es:List AV} (h:cC H b=some (.row e sz d es)) (h2:es.length=len/\0<len):uV H (.sl b len)=some (some false):=by
 simp only[uV,h];rw[if_pos h2]
theorem NT {H:Hp} {b:Nat}:uV H (.sl b 0)=some none:=by
 simp only[uV]
 split
 ·rw[if_neg (by omega)]
 ·rfl
theorem eu {α:Type} {l:List α} {i:Nat} {v d:α} (h:i<l.length):(l.set i v).getD i d=v:=by simp[List.getD,h]
theorem ot:(∀n:Nat,(n:Int).toNat=n)/\(∀(p:Prop) [Decidable p] (b:Bool),(if p then true else b)=(decide p||b))/\(∀(p:Prop) [Decidable p] (b:Bool),(if p then b else false)=(decide p&&b))/\(∀(p:Prop) [Decidable p] (b:Bool),(if p then false else b)=(!decide p&&b))/\(∀(p:Prop) [Decidable p] (b:Bool),(if p then b else true)=(!decide p||b))/\
 (∀b:Bool,decide (b=true)=b)/\(∀(p:Prop) [Decidable p],(decide p=true)=p)/\(∀(p:Prop) [Decidable p],(decide p=false)=¬p)/\(∀a b:Bool,((a&&b)=true)=(a=true/\b=true))/\(∀a b:Bool,((a||b)=true)=(a=true\/b=true))/\(∀b:Bool,((!b)=true)=(b=false))/\(∀b:Bool,((!b)=false)=(b=true))/\
 (∀a b:Bool,((a&&b)=false)=(a=false\/b=false))/\(∀a b:Bool,((a||b)=false)=(a=false/\b=false))/\(∀a b:Int,(¬a<b)=(b<=a))/\(∀a b:Int,(¬a<=b)=(b<a))/\(∀(p:Prop) [Decidable p],(¬¬p)=p):=by
 refine⟨by simp,fun p _ b=> ?_,fun p _ b=> ?_,fun p _ b=> ?_,fun p _ b=> ?_,by simp,by simp,by simp,by simp,by simp,by simp,by simp,by simp,by simp,fun a b=>propext Int.not_lt,fun a b=>propext Int.not_le,fun p _=>propext Decidable.not_not⟩
 all_goals by_cases h:p<;>simp[h]
theorem cE {p:Prop} (h:p:=by(repeat(first|exact cx _ _ _|assumption|refine H9 (by first|omega|(simp only[List.length_cons,List.length_nil];omega)) ?_))<;>fail):p:=h
theorem cZ {p:Prop} (h:p:=by first|omega|(simp only[List.length_cons,List.length_nil];omega)):p:=h
theorem y9 {p:Prop} (h:p:=by intro _b _hb;repeat(first|exact rfl|(refine Eq.trans (cc (by first|omega|(simp only[List.length_cons,List.length_nil];omega))) ?_))):p:=h
theorem cJ {p:Prop} (h:p:=by repeat' (first|exact True.intro|refine And.intro ?_ ?_|exact rfl|((conv=>lhs;whnf);(first|(simp<;>fail)|(simp;omega))))):p:=h
theorem ZV {p:Prop} (h:p:=by first|exact rfl|(simp only[List.length_set,List.length_map,List.length_append,List.length_cons,List.length_nil,List.length_take,List.length_drop,List.length_replicate,Int.toNat_natCast]<;>fail)|(simp only[List.length_set,List.length_map,List.length_append,List.length_cons,List.length_nil,List.length_take,List.length_drop,List.length_replicate,Int.toNat_natCast];omega)):p:=h
theorem cw {p:Prop} (h:p:=by first|exact rfl|omega|assumption|exact id|(intro h;exact h▸rfl)|(intro h;rw[h]<;>rfl)|(intros;exact rfl)|(intro h;(try simp only[List.length_map,ne_eq,ot] at h);omega)|(simp only[List.length_set,List.length_map,List.length_append,List.length_cons,List.length_nil,List.length_take,List.length_drop,List.length_replicate,Int.toNat_natCast];omega)|(intro _;constructor<;>first|exact rfl|exact Nat.le_of_ble_eq_true rfl|omega)):p:=h
theorem cX {p:Prop} (h:p:=by first|(intro h;simp_all<;>fail)|(refine jZ (m:=1) rfl ?_;omega)|(show(_:Nat)<=175921860444160;first|omega|(simp only[List.length_set,List.length_map,List.length_append,List.length_cons,List.length_nil,List.length_take,List.length_drop,List.length_replicate,Int.toNat_natCast];omega))|(exact Nat.le_of_ble_eq_true rfl)|(constructor<;>first|exact rfl|exact Nat.le_of_ble_eq_true rfl|omega)|(simp_all<;>fail)):p:=h
theorem sX {p:Prop} (h:p:=by first|omega|(intro hg;simp only[Gd,List.length_map,ne_eq,ot] at hg;omega)|(intros;simp only[List.length_map,Int.toNat_natCast];omega)):p:=h
theorem cK {p:Prop} (h:p:=by first|assumption|(refine eu ?_;first|omega|(simp only[List.length_set,List.length_map,List.length_append,List.length_cons,List.length_nil,List.length_take,List.length_drop,List.length_replicate,Int.toNat_natCast];omega))|(refine dI _ _ _ _ ?_;first|omega|(simp only[List.length_map,Int.toNat_natCast];omega))|exact rfl):p:=h
theorem ZW {p:Prop} (h:p:=by constructor<;>first|exact rfl|omega|(simp only[List.length_set,List.length_map,List.length_append,List.length_cons,List.length_nil,List.length_take,List.length_drop,List.length_replicate,Int.toNat_natCast];omega)):p:=h
theorem ym (d:Nat) (k:IntKind) (i:Nat):lB d (some (.sc (.int k (((i+1:Nat):Int) - 1))))=some i:=by
 simp only[lB];rw[if_pos (by omega)];congr 1;omega
theorem vF {p:Prop} (h:p:=by first|exact rfl|exact PL _ _ _|exact ym _ _ _|((simp only[List.length_map,List.length_append,List.length_cons,List.length_nil,Nat.zero_add]);exact ym _ _ _)|(conv=>lhs;whnf);exact rfl):p:=h
theorem SS {p:Prop} (h:p:=by(try simp only[List.length_set,List.length_map,List.length_append,List.length_cons,List.length_nil,List.length_take,List.length_drop,List.length_replicate,Int.toNat_natCast]);omega):p:=h
theorem UE {s:Nat} {k k2:IntKind} {i:Int} {d:AV} {es:List AV} (h1:0<=i) (h2:i.toNat<=es.length):JZ s (.sc (.int k i)) (.sc (.int k2 i)) (.im s d es)=some (.im s d (es.take i.toNat)):=by
 simp only[JZ];rw[if_pos ⟨trivial,trivial,h1,h2⟩]
theorem tB {p:Prop} (h:p:=by first|exact rfl|exact UE SS SS|exact NT|exact xo cE ZW|exact yG cE ZV vF vF SS|exact UD vF vF SS):p:=h
theorem SU {p:Prop} (h:p:=by(repeat(first|exact N6|(apply N7)|(apply JO;(·exact rfl);(·exact cE);(·exact rfl);(·exact rfl))))<;>fail):p:=h
theorem cN {p:Prop} (h:p:=by first|(simp[cg,cP,cL]<;>fail)):p:=h
theorem Wk.tell {r r2:AV} {H H2:Hp} {nx nx2:Nat} (hn:nx<=nx2)
 (hrow:∀b e sz d es,cC H2 b=some (.row e sz d es)->(∃d0 es0,cC H b=some (.row e sz d0 es0)/\es0.length=es.length)\/(nx<=b/\b<nx2/\es=[]/\0<sz))
 (hval:∀(w0:World) (c c2:Cx),du w0 c->(∀b,c.U b->b<nx)->c.H=cC H->c2.H=cC H2->c2.w=c.w->c.le c2->
  (∀b e sz d,nx<=b->cC H2 b=some (.row e sz d [])->c2.U b/\c2.ρ b=none)->
  (∀b k blk o z,cC H b=some k->cC H2 b=none->c.ρ b=some (blk,o,z)->¬c2.M blk)->
  dY c c2 r r2/\∀b e sz d es d0 es0,cC H2 b=some (.row e sz d es)->cC H b=some (.row e sz d0 es0)->dZ c c2 es0 es):
 Wk r H nx r2 H2 nx2:=by
 intro w0 ρ U w M0 hU hS
 let ρ2:Nat->Option (Nat×Nat×Nat):=fun b=>if b<nx then ρ b else none
 let U2:Nat->Prop:=fun b=>U b\/(nx<=b/\b<nx2)
 have hR:tA ⟨ρ,cC H,U,w,M0⟩ ⟨ρ2,cC H2,U2,w,M0⟩:=by
  refine⟨rfl,rfl,fun b hb=> .inl hb,fun b hb=> ?_,fun b e sz d es he=> ?_⟩
  ·show(if b<nx then ρ b else none)=ρ b
   rw[if_pos (hU b hb)]
  ·rcases hrow b e sz d es he with⟨d0,es0,h2,h3⟩|⟨h1,h2,h3,h4⟩
   ·have hu:U b:=(hS.row b e sz d0 es0 h2).1
    exact⟨.inl hu, .inl ⟨d0,es0,h2,hu,h3⟩⟩
   ·refine⟨.inr ⟨h1,h2⟩, .inr ⟨h3,fun hu=> ?_, ?_,h4⟩⟩
    ·have:=hU b hu;omega
    ·show(if b<nx then ρ b else none)=none
     rw[if_neg (by omega)]
 have hle:=hR.le
 have hv:=hval w0 ⟨ρ,cC H,U,w,M0⟩ ⟨ρ2,cC H2,U2,w,M0⟩ hS hU rfl rfl rfl hle
  (fun b e sz d hb he=>by
   rcases hrow b e sz d [] he with⟨d0,es0,h2,_⟩|⟨h1,h2,_⟩
   ·have h1:b<nx:=hU b (hS.row b e sz d0 es0 h2).1
    omega
   ·refine⟨.inr ⟨h1,h2⟩, ?_⟩
    show(if b<nx then ρ b else none)=none
    rw[if_neg (by omega)])
  (fun b k blk o z hb hb2 hρ hm=>by
   have hlt:=hS.U9 hb hρ
   rcases hm with h0|⟨x,k2,o2,z2,hx,hρ2⟩
   ·have:=hS.m0.lt blk h0
    simp only at hlt
    omega
   ·obtain⟨e,sz,d,es⟩:=k2
    have hρ2:(if x<nx then ρ x else none)=some (blk,o2,z2):=hρ2
    have hx:cC H2 x=some (.row e sz d es):=hx
    rcases hrow x e sz d es hx with⟨d0,es0,h2,_⟩|⟨h1,_⟩
    ·have h1:x<nx:=hU x (hS.row x e sz d0 es0 h2).1
     rw[if_pos h1] at hρ2
     have:=hS.inj b x _ _ blk o z o2 z2 hb h2 hρ hρ2
     subst this
     rw[hx] at hb2;cases hb2
    ·rw[if_neg (by omega)] at hρ2;cases hρ2)
 refine⟨ρ2,U2, ?_,hR.UB hS hv.2,hle,hv.1⟩
 rintro b (hb|⟨_,hb⟩)
 ·have:=hU b hb;omega
 ·exact hb
theorem Wk.refl (r:AV) (H:Hp) (nx:Nat):Wk r H nx r H nx:=by
 intro w0 ρ U w M0 hU hS
 exact⟨ρ,U,hU,hS,Cx.le.refl _,fun v hv=>hv⟩
theorem Wk.nil {H:Hp} {nx:Nat} (e:TypeId) (sz:Nat) (d:AV) (hsz:0<sz):Wk (.sc (.slice none 0 0)) H nx (.sl nx 0) ((nx,some (.row e sz d []))::H) (nx+1):=by
 refine Wk.tell (Nat.le_succ _) (fun b e' sz' d' es he=> ?_) (fun w0 c c2 hS hU hc hc2 hw hle hnew _=>⟨?_,fun b e' sz' d' es d0 es0 h1 h2=> ?_⟩)
 ·by_cases hb:b=nx
  ·subst hb
   rw[cx] at he
   cases he
   exact .inr ⟨Nat.le_refl _,Nat.lt_succ_self _,rfl,hsz⟩
  ·rw[cc hb] at he
   exact .inl ⟨d',es,he,rfl⟩
 ·have h:=hnew nx e sz d (Nat.le_refl _) (cx _ _ _)
  exact dY.nil (e:=e) (sz:=sz) (d:=d) h.1 (by rw[hc2,cx]) h.2
 ·by_cases hb:b=nx
  ·subst hb
   rw[cx] at h1
   cases h1
   have h3:c.H b=some (.row e sz d0 es0):=by rw[hc];exact h2
   exact absurd (hU _ (hS.row _ _ _ _ _ h3).1) (Nat.lt_irrefl _)
  ·rw[cc hb] at h1
   rw[h1] at h2
   cases h2
   exact dZ.cd hle _
theorem cT.MB {P:Program} {f:FuncId} {args args2:List AV} {e:TypeId} {sz:Nat} {es:List AV} (h:cT P f args2 [] 0 (fun r1 H1 _=>∃b d0,r1= .sl b es.length/\cC H1 b=some (.row e sz d0 es))) (hfl:∀i,i<es.length->fu (es.getD i .any)) (d:AV) {H:Hp} {id:Nat} (ha:args.map (df H 6)=args2) (hfa:cg 0 args2):
 kS P f args H id (fun r' H''=>r'= .sl id es.length/\H''=dW H (some (id, .row e sz d es))):=by
 refine⟨h.1,fun w0 c vs hS hH hid hv=> ?_⟩
 have hS0:du c.w ⟨fun _=>none,cC [],fun _=>False,c.w,c.M0⟩:=⟨Below.refl _ _,hS.lW,fun b e sz d es he=>by simp[cC] at he,fun b b' k k' blk o z o' z' hk=>by simp[cC] at hk⟩
 subst ha
 have hv':ct ⟨fun _=>none,cC [],fun _=>False,c.w,c.M0⟩ (args.map (df H 6)) vs:=jz hS hH hfa hv
 refine(h.2 c.w _ vs hS0 rfl (fun _ h=>h.elim) hv').mono ?_
 rintro en w' ⟨v,r1,H1,nx',ρ,U,he,⟨b,d0,rfl,hb⟩,hU,hS',_,hvr⟩
 rw[VR] at hvr
 obtain⟨_,ad,cap,hvv,hrr⟩:=hvr
 obtain⟨_,hr2⟩:=hrr _ _ _ _ hb
 have hr3:=hr2 rfl
 obtain⟨_,hz,hor⟩:=hS'.jo b _ _ _ _ hb (sa hr3)
 have hbel:=hS'.below
 obtain⟨s1,s2⟩:=hS.world hbel
 have hHeq:cC (dW H (some (id, .row e sz d es)))=fR c.H id (some (.row e sz d es)):=by rw[dh,hH]
 rcases hor with⟨h0,hes⟩|⟨blk,o,z,hρ,hlow,⟨arr,harr,hsz⟩,hlz,hrow⟩
 ·subst hes
  obtain⟨p1,p2⟩:=s1.DZ (b:=id) (e:=e) (sz:=sz) d hz hid
  refine⟨v,_,_,fR c.ρ id none,he,⟨rfl,rfl⟩, ?_, ?_, ?_⟩
  ·rw[hHeq];exact p1
  ·rw[hHeq];exact s2.trans p2
  ·rw[hHeq,VR]
   refine⟨.inr rfl,ad,cap,hvv,fun e' sz' d' es' he'=> ?_⟩
   simp only[jJ,dS,Option.some.injEq,fD.row.injEq] at he'
   obtain⟨rfl,rfl,rfl,rfl⟩:=he'
   refine⟨Nat.le_refl _,fun _=> .inl ⟨by simp[jJ], ?_⟩⟩
   rcases hr3 with⟨_,h2,h3⟩|⟨blk,o,z,h2,_⟩
   ·exact⟨h2,h3⟩
   ·rw[h0] at h2;cases h2
 ·obtain⟨p1,p2⟩:=hS.p6 (b:=id) (e:=e) (sz:=sz) d (es:=es) (w':=w') (blk:=blk) (o:=o) (z:=z) hz (.inl hid) (.inl hlow) hbel.os hbel.tape hbel.output hbel.size (fun k hk _=>hbel.block k hk) harr hsz hlz (fun hle i hi=>by
   obtain⟨x,x1,x2⟩:=dv hrow i hi
   refine⟨x,x1,lY ?_ x2⟩
   have:=hfl i hi
   simpa[List.getD,hi] using this)
  refine⟨v,_,_,fR c.ρ id (some (blk,o,z)),he,⟨rfl,rfl⟩, ?_, ?_, ?_⟩
  ·rw[hHeq];exact p1
  ·rw[hHeq];exact p2
  ·rw[hHeq,VR]
   refine⟨.inr rfl,ad,cap,hvv,fun e' sz' d' es' he'=> ?_⟩
   simp only[jJ,dS,Option.some.injEq,fD.row.injEq] at he'
   obtain⟨rfl,rfl,rfl,rfl⟩:=he'
   refine⟨by omega,fun _=> .inr ⟨blk,o,z,by simp[jJ], ?_⟩⟩
   rcases hr3 with⟨h2,_,_⟩|⟨blk',o',z',h2,h3,h4,h5,h6⟩
   ·rw[hρ] at h2;cases h2
   ·rw[hρ] at h2;cases h2
    exact⟨h3,h4,h5,h6⟩
theorem bE {P:Program} {f:FuncId} {args args2:List AV} {e:TypeId} {sz:Nat} {es:List AV} {H:Hp} {id:Nat} {K:AV->Option (Nat×fD)->List Nat->Prop} (S:List Nat) (d:AV)
 (h:cT P f args2 [] 0 (fun r1 H1 _=>∃b d0,r1= .sl b es.length/\cC H1 b=some (.row e sz d0 es))) (hfl:∀i,i<es.length->fu (es.getD i .any)) (ha:∀H1,(∀b∈S,cC H1 b=cC H b)->args.map (df H1 6)=args2) (hfa:cg 0 args2)
 (hK:Go (K (.sl id es.length) (some (id, .row e sz d es)) S)):kR P id f args H K:=
 kR.fresh S (fun H1 h1=>h.MB hfl d (ha H1 h1) hfa) (fun b q hq=>by cases hq;rfl) hK
theorem qF {n:Nat}:∀{as:List AV},cg n as->∀a∈as,cP n a
 |[],_,a,h=>by cases h
 |b::as,hf,a,h=>by
  rw[cg] at hf
  rcases List.mem_cons.1 h with rfl|h
  ·exact hf.1
  ·exact qF hf.2 a h
theorem AI {f:AV->AV} {l:List AV} (h:∀a∈l,f a=a):l.map f=l:=by
 induction l with
 |nil=>rfl
 |cons a l ih=>rw[List.map_cons,h a (by simp),ih fun b hb=>h b (by simp[hb])]
theorem dX {H:Hp}:∀(k:Nat) {a:AV},cP 0 a->df H k a=a
 |0,a,hf=>by cases a<;>simp only[df]
 |k+1,a,hf=>by
  have ih:=fun {l:List AV} (hl:cg 0 l)=>AI (f:=df H k) (fun a ha=>dX k (qF hl a ha))
  cases a<;>simp only[cP] at hf<;>simp only[df]
  case sl=>omega
  case sv=>omega
  case pt=>omega
  case agg cs=>rw[ih hf]
  case dQ cs=>rw[ih hf]
  case fn f p q=>rw[ih hf.1,ih hf.2]
  case nC t x=>rw[dX k hf]
end Go.dA
