import Derived.Test.YtjopoheligmmoaaGreatDoorM16
import Derived.Test.YtjopoheligmmoaaGreatDoorM17
import Derived.IntWalk
namespace Go.cw
open Go.RowKit
section
def Go (p:Prop):Prop:=p
theorem bY {p:Prop} (h:p):Go p:=h
theorem aB {p q:Prop} (h1:Go p) (h2:Go q):p/\q:=⟨h1,h2⟩
theorem aA {es:List AV} {i:Nat} {d:AV} {K:AV->Prop} {e:AV} (h:es.getD i d=e) (k:Go (K e)):qt es i d K:=qt.of h k
theorem bZ {H:Hp} {b:Nat} {K:TypeId->Nat->AV->List AV->Prop} {e:TypeId} {sz:Nat} {d:AV} {es:List AV} (h:bt H b=some (.row e sz d es)) (k:Go (K e sz d es)):gx H b K:=gx.of h k
theorem aT {α:Type} {x:Option α} {K:α->Prop} {a:α} (h:x=some a) (k:Go (K a)):jx x K:=jx.of h k
theorem wrap64 {n:Int} (h1:-9223372036854775808<=n) (h2:n<9223372036854775808):IntKind.i64.wrap n=n:=IntWalk.i64_in _ (by omega)
theorem U4 {n:Int} (h1:0<=n) (h2:n<256):IntKind.u8.wrap n=n:=by
 simp only[IntKind.wrap,IntKind.signed,IntKind.bits]
 first|omega|(simp;omega)
theorem bP {g:Option Bool} {k:IntKind} {n:Int} {K:Int->Prop} (hK:Go (K (k.wrap n))):vZ g k n K:=vZ.of (fun _=>rfl) hK
theorem bD {g:Option Bool} {n:Int} {K:Int->Prop} (h1:Gd g->-9223372036854775808<=n) (h2:Gd g->n<9223372036854775808) (hK:Go (K n)):vZ g .i64 n K:=vZ.of (fun hg=>wrap64 (h1 hg) (h2 hg)) hK
theorem bE {g:Option Bool} {n:Int} {K:Int->Prop} (h1:Gd g->0<=n) (h2:Gd g->n<256) (hK:Go (K n)):vZ g .u8 n K:=vZ.of (fun hg=>U4 (h1 hg) (h2 hg)) hK
theorem bW {t:Bool} {A B:Prop} (ht:t=true) (h:Go A):fj t A B:=by subst ht;exact fj.lt h
theorem bV {t:Bool} {A B:Prop} (ht:t=false) (h:Go B):fj t A B:=by subst ht;exact fj.lf h
theorem bj {t w:Bool} {A B J:Prop} (ht:t=w) (h:Go A):eu t w A B J:=by subst ht;exact⟨.inl ⟨fun _=>h,fun h=>absurd rfl h⟩⟩
theorem bh {t w:Bool} {A B J:Prop} (ht:t= !w) (h:Go B):eu t w A B J:=⟨.inl ⟨fun h2=>(by subst h2;cases t<;>cases ht),fun _=>h⟩⟩
theorem bq {A B:Prop} (h:Go A):fj true A B:=fj.lt h
theorem bo {A B:Prop} (h:Go B):fj false A B:=fj.lf h
theorem aV {t:Bool} {A B:Prop} (h1:t=true->Go A) (h2:t=false->Go B):fj t A B:=fj.of h1 h2
theorem br {A B J:Prop} (h:Go A):eu true true A B J:=eu.tt h
theorem bS {t want:Bool} {A B J:Prop} (h:Go J):eu t want A B J:=eu.join h
theorem bk {t want:Bool} {A B J:Prop} (h1:t=want->Go A) (h2:t= !want->Go B):eu t want A B J:=eu.split h1 h2
def C9 (K:List AV->Prop):Prop:=K []
def z7 (a:AV) (_:List AV) (ih:(List AV->Prop)->Prop) (K:List AV->Prop):Prop:=gk a fun a=>ih fun r'=>K (a::r')
noncomputable def C8 (l:List AV):(List AV->Prop)->Prop:=List.rec (motive:=fun _=>(List AV->Prop)->Prop) C9 z7 l
theorem w9:∀(l:List AV) (K:List AV->Prop),C8 l K=K l
 |[],_=>rfl
 |a::r,K=>by
  show gk a (fun a=>C8 r fun r'=>K (a::r'))=_
  rw[fN,w9 r]
noncomputable def C6 (v:AV) (K:AV->Prop):Prop:=
 match v with
 | .dI l=>C8 l fun l=>K (.dI l)
 |v=>gk v K
theorem w8 (v:AV) (K:AV->Prop):C6 v K=K v:=by
 cases v<;>first|rfl|exact w9 _ _
structure PF (R:AV->Prop) (r:AV):Prop where
 ok:cH 0 r/\R r
theorem PF.eq {u:AV} {r:AV} (hf:cH 0 u) (h:r=u):PF (fun x=>x=u) r:=⟨by rw[h];exact hf,h⟩
structure KX (R:AV->Hp->Nat->Prop) (r:AV) (H:Hp) (nx:Nat):Prop where
 ok:R r H nx
noncomputable def UI (lrs:List lA) (R:AV->Prop):QT
 | .exit _,_,_,_=>False
 |_,fr,H,_=>jx (ji fr H lrs) fun rs=>C6 (dY H 6 (pack rs)) (PF R)
theorem UJ {lrs:List lA} {R:AV->Prop} {e:Ex} {fr:Fr} {H:Hp} {nx:Nat} (h:UI lrs R e fr H nx):RA lrs R e fr H nx:=by
 cases e
 case exit=>exact h
 all_goals
  obtain⟨rs,h1,h2⟩:=h.ok
  rw[w8] at h2
  simp only[RA,h1,ng]
  exact h2.ok
noncomputable def vD (lrs:List lA) (R:AV->Hp->Nat->Prop):QT
 | .exit _,_,_,_=>False
 |_,fr,H,nx=>jx (ji fr H lrs) fun rs=>C6 (pack rs) fun r=>KX R r H nx
theorem yP {lrs:List lA} {R:AV->Hp->Nat->Prop} {e:Ex} {fr:Fr} {H:Hp} {nx:Nat} (h:vD lrs R e fr H nx):UH lrs R e fr H nx:=by
 cases e
 case exit=>exact h
 all_goals
  obtain⟨rs,h1,h2⟩:=h.ok
  rw[w8] at h2
  simp only[UH,h1,ng]
  exact h2.ok
section
variable {P:Program} {f:FuncId} {args:List AV} {H:Hp} {nx:Nat}
theorem aN {r:AV} {K:AV->Hp->Nat->Prop} (h:Pure P f args (fun x=>x=r)) (hf:c8 0 args) (hK:Go (K r H nx)):iR P f args H nx K:=iR.PA h hf hK
theorem aG {R K:AV->Hp->Nat->Prop} (h:cU P f args H nx R) (hK:∀r H' nx',R r H' nx'->Go (K r H' nx')):iR P f args H nx K:=iR.of h hK
theorem aI {g:Bool} {r:AV} {K:AV->Prop} (h:g=true->Pure P f args (fun x=>x=r)) (hf:c8 0 args) (hK:Go (K r)):oo P g f args H nx K:=oo.PA h hf hK
theorem aL {id:Nat} {r:AV} {K:AV->Option (Nat×fH)->List Nat->Prop} (h:Pure P f args (fun x=>x=r)) (hf:c8 0 args) (hK:Go (K r none [])):kU P id f args H K:=kU.PA h hf hK
theorem aM {g:Bool} {id:Nat} {r:AV} {K:AV->List Nat->Prop} (h:g=true->Pure P f args (fun x=>x=r)) (hf:c8 0 args) (hK:Go (K r [])):wB P g id f args H K:=wB.PA h hf hK
theorem bT {fn:Func} {lc:LC} {lrs:List lA} {R:AV->Prop} (hf:P.funcs[f]?=some fn) (hname:(fn.name== "runtime.NumGoroutine")=false)
 (hl:(fn.body.bind (dD P fn.ntmps))=some lc) (hr:iQ P fn.results.toList=some lrs) {n:Nat} (hn:n=fn.ntmps) (ha:Nat.ble args.length n=true)
 (h:Go (W P n 0 lc (kG 0 args) [] 0 (UI lrs R))):Pure P f args R:=by
 subst hn
 exact Pure.qZ hf hname hl hr (Nat.le_of_ble_eq_true ha) ((fX h).mono fun _ _ _ _=>UJ)
theorem bg {fn:Func} {lc:LC} {lrs:List lA} {R:AV->Hp->Nat->Prop} (hf:P.funcs[f]?=some fn) (hname:(fn.name== "runtime.NumGoroutine")=false)
 (hl:(fn.body.bind (dD P fn.ntmps))=some lc) (hr:iQ P fn.results.toList=some lrs) {n:Nat} (hn:n=fn.ntmps) (ha:Nat.ble args.length n=true)
 (h:Go (W P n nx lc (kG 0 args) H nx (vD lrs R))):cU P f args H nx R:=by
 subst hn
 exact cU.qZ hf hname hl hr (Nat.le_of_ble_eq_true ha) ((fX h).mono fun _ _ _ _=>yP)
theorem bF {segs:List tS} {fr:Fr} {H:Hp} {nx:Nat} {Q:QT} (h:Go (WS P nx segs [] fr H fun ov H' nx'=>Q .normal (iy ov fr) H' nx')):gZ P segs fr H nx Q:=gZ.of h
theorem aF {n lo:Nat} {x:LC} {fr:Fr} {Q:QT} {σ:Type} (F:σ->Fr) (I:σ->Hp->Nat->Prop) (μ:σ->Nat) (s0:σ) (h0:k7 fr (F s0)) (h1:I s0 H nx)
 (round:∀s H nx,I s H nx->Go (W P n lo x (F s) H nx (jH (fun fr' H' nx'=>∃s',μ s'<μ s/\k7 fr' (F s')/\I s' H' nx') Q))):jU P n lo x fr H nx Q:=jU.fr F I μ s0 h0 h1 round
structure ph (P:Program) (n lo:Nat) (x:LC) (fr:Fr) (H:Hp) (nx:Nat) (Q:QT):Prop where
 ok:∀c1,dD P n c1=some x->∀w0 M0 c0 a w,Holds w0 M0 c0 lo n fr H nx a w->∀b k cs,∃e a' w',LQ w0 M0 c0 lo n Q e a' w'/\Arrives P (lone (b.at a (.code c1:: .inLoop c1::k)) cs w) b k cs e a' w'
theorem bn {n lo:Nat} {x:LC} {fr:Fr} {Q:QT} (h:ph P n lo x fr H nx Q):jU P n lo x fr H nx Q:=by
 refine⟨fun code hc w0 M0 c0 a w hh=> ?_⟩
 have:∃c1,code= .loop c1/\dD P n c1=some x:=by
  cases code<;>simp only[dD] at hc
  case loop c1=>
   simp only[Option.map_eq_some_iff,LC.loop.injEq] at hc
   obtain⟨x',h1,rfl⟩:=hc
   exact⟨c1,rfl,h1⟩
  all_goals (exfalso;repeat' (split at hc))<;>simp at hc
 obtain⟨c1,rfl,h1⟩:=this
 intro b k cs
 obtain⟨e,a',w',hq,harr⟩:=h.ok c1 h1 w0 M0 c0 a w hh b k cs
 exact⟨e,a',w',hq, .of_steps (.one step_loop) harr⟩
theorem ax {n lo:Nat} {x:LC} {fr:Fr} {Q:QT} (h:Go (W P n lo x fr H nx (jH (fun fr H nx=>ph P n lo x fr H nx Q) Q))):ph P n lo x fr H nx Q:=by
 refine⟨fun c1 h1 w0 M0 c0 a w hh b k cs=> ?_⟩
 obtain⟨e,a1,w1,hq,harr⟩:=fX h c1 h1 w0 M0 c0 a w hh b (.inLoop c1::k) cs
 obtain⟨x',fr',H',nx',rfl,hQ,hh'⟩:=hq
 cases x' with
 |normal=>
  obtain⟨e2,a2,w2,hq2,harr2⟩:=hQ.ok c1 h1 w0 M0 c0 a1 w1 hh' b k cs
  exact⟨e2,a2,w2,hq2, .of_steps (Steps.trans harr (.one step_inLoop)) harr2⟩
 |exit id=>exact⟨_,a1,w1,⟨.exit id,fr',H',nx',rfl,hQ,hh'⟩, .pass (x:= .inLoop c1) rfl (fun _ _=> .inl (by simp[Ex.to])) harr⟩
 |ret=>exact⟨_,a1,w1,⟨.ret,fr',H',nx',rfl,hQ,hh'⟩, .pass (x:= .inLoop c1) rfl (fun _ _=> .inl (by simp[Ex.to])) harr⟩
end
theorem cx {α:Type} [Inhabited α] (f:α->AV) (l:List α) (i:Nat) (d:AV) (h:i<l.length):(l.map f).getD i d=f (l.getD i default):=by simp[List.getD,h]
theorem ca (H:Hp) (b:Nat) (k:Option fH):bt ((b,k)::H) b=k:=by simp[bt]
theorem IA {H:Hp} {b d:Nat} {v k:Option fH} (hne:b≠d) (h:bt H b=k):bt ((d,v)::H) b=k:=by simp[bt,hne,h]
end
def db (c c2:Cx) (a a2:AV):Prop:=∀v,VR c a v->VR c2 a2 v
theorem db.cc {c c2:Cx} (h:c.le c2) (a:AV):db c c2 a a:=fun _ hv=>VR.cc h hv
theorem db.any (c c2:Cx) (a:AV):db c c2 a .any:=fun _ _=>by rw[VR];trivial
theorem db.nil {c c2:Cx} {b:Nat} {e:TypeId} {sz:Nat} {d:AV} (hU:c2.U b) (hH:c2.H b=some (.row e sz d [])) (hρ:c2.ρ b=none):db c c2 (.sc (.slice none 0 0)) (.sl b 0):=by
 intro v hv
 rw[VR] at hv
 subst hv
 rw[VR]
 refine⟨hU,none,0,rfl,fun e' sz' d' es' he=> ?_⟩
 rw[hH] at he
 cases he
 exact⟨by simp,fun _=> .inl ⟨hρ,rfl,rfl⟩⟩
theorem db.im {w0:World} {c c2:Cx} (hS:dy w0 c) (hle:c.le c2) {b:Nat} {e:TypeId} {sz:Nat} {d:AV} {es:List AV} (d2:AV) (hw:c2.w=c.w) (hH:c.H b=some (.row e sz d es)) (hM:∀blk o z,c.ρ b=some (blk,o,z)->¬c2.M blk):db c c2 (.sl b es.length) (.im sz d2 es):=by
 intro v hv
 rw[VR] at hv
 obtain⟨_,a,cap,rfl,hr⟩:=hv
 obtain⟨_,hr⟩:=hr _ _ _ _ hH
 obtain⟨_,hz,hrow⟩:=hS.kO b _ _ _ _ hH (vI (hr rfl))
 rw[VR]
 rcases hr rfl with⟨hρ,rfl,rfl⟩|⟨blk,o,z,hρ,rfl,hc1,_,_⟩
 ·rcases hrow with⟨_,rfl⟩|⟨_,_,_,hρ',_⟩
  ·exact⟨none,0,rfl,by simp, .inl rfl⟩
  ·rw[hρ] at hρ';cases hρ'
 ·rcases hrow with⟨hρ',_⟩|⟨blk1,o1,z1,hρ1,_,_,_,hrow⟩
  ·rw[hρ] at hρ';cases hρ'
  ·rw[hρ] at hρ1;cases hρ1
   exact⟨_,cap,rfl,hc1, .inr ⟨blk,o,rfl,hz,hM _ _ _ hρ,eA.cc hle (by rw[hw]) hrow⟩⟩
inductive dW (c c2:Cx):List AV->List AV->Prop where
 |nil:dW c c2 [] []
 |cons {a a2:AV} {as as2:List AV} (h:db c c2 a a2) (hs:dW c c2 as as2):dW c c2 (a::as) (a2::as2)
theorem dW.length {c c2:Cx} {as as2:List AV} (h:dW c c2 as as2):as.length=as2.length:=by
 induction h with
 |nil=>rfl
 |cons _ _ ih=>simp[ih]
theorem dW.cc {c c2:Cx} (h:c.le c2):∀(as:List AV),dW c c2 as as
 |[]=> .nil
 |a::as=> .cons (db.cc h a) (dW.cc h as)
theorem dW.Z2 {c c2:Cx} {as as2:List AV} (h:dW c c2 as as2):∀{vs:List Value},cu c as vs->cu c2 as2 vs:=by
 induction h with
 |nil=>intro vs hv;rw[cu] at hv ⊢;exact hv
 |cons h1 _ ih=>
  intro vs hv
  rw[cu] at hv
  obtain⟨v,vs',rfl,g1,g2⟩:=hv
  rw[cu]
  exact⟨v,vs',rfl,h1 v g1,ih g2⟩
theorem dW.append {c c2:Cx} {as as2 bs bs2:List AV} (h:dW c c2 as as2) (h2:dW c c2 bs bs2):dW c c2 (as++bs) (as2++bs2):=by
 induction h with
 |nil=>exact h2
 |cons h1 _ ih=>exact .cons h1 ih
theorem dW.DY {c c2:Cx}:∀{as as2:List AV},as.length=as2.length->(∀i,i<as.length->db c c2 (as.getD i .any) (as2.getD i .any))->dW c c2 as as2
 |[],[],_,_=> .nil
 |[],_::_,h,_=>by simp at h
 |_::_,[],h,_=>by simp at h
 |a::as,b::bs,hl,h=> .cons (by simpa using h 0 (by simp)) (dW.DY (by simpa using hl) fun i hi=>by simpa using h (i+1) (by simpa using hi))
theorem db.agg {c c2:Cx} {as as2:List AV} (h:dW c c2 as as2):db c c2 (.agg as) (.agg as2):=by
 intro v hv
 rw[VR] at hv ⊢
 obtain⟨vs,rfl,hr⟩:=hv
 exact⟨vs,rfl,h.Z2 hr⟩
theorem db.dI {c c2:Cx} {as as2:List AV} (h:dW c c2 as as2):db c c2 (.dI as) (.dI as2):=by
 intro v hv
 rw[VR] at hv ⊢
 obtain⟨vs,rfl,hr⟩:=hv
 exact⟨vs,rfl,h.Z2 hr⟩
theorem dW.row {c c2:Cx} (hw:c2.w=c.w) {sz:Nat} {blk:Nat} {as as2:List AV} (h:dW c c2 as as2):∀{o:Nat},eA c sz as blk o->eA c2 sz as2 blk o:=by
 induction h with
 |nil=>intro o _;rw[eA];trivial
 |cons h1 _ ih=>
  intro o hr
  rw[eA] at hr ⊢
  obtain⟨⟨v,g1,g2⟩,g3⟩:=hr
  exact⟨⟨v,by rw[hw];exact g1,h1 v g2⟩,ih g3⟩
structure tQ (c c2:Cx):Prop where
 w:c2.w=c.w
 m0:c2.M0=c.M0
 U:∀b,c.U b->c2.U b
 iB:∀b,c.U b->c2.ρ b=c.ρ b
 row:∀b e sz d es,c2.H b=some (.row e sz d es)->c2.U b/\((∃d0 es0,c.H b=some (.row e sz d0 es0)/\c.U b/\es0.length=es.length)\/(es=[]/\¬c.U b/\c2.ρ b=none/\0<sz))
theorem tQ.le {c c2:Cx} (h:tQ c c2):c.le c2:=by
 refine⟨h.U,by rw[h.w];exact Nat.le_refl _,fun b hm _=>⟨by rw[h.w], ?_⟩,fun b hu e sz d es he=> ?_⟩
 ·rintro(h0|⟨x,k,o,z,hk,hρ⟩)
  ·exact hm (.inl (by rw[<-h.m0];exact h0))
  ·obtain⟨e,sz,d,es⟩:=k
   obtain⟨_,⟨d0,es0,h1,h2,_⟩|⟨_,_,h3,_⟩⟩:=h.row x e sz d es hk
   ·exact hm (.inr ⟨x,_,o,z,h1,by rw[<-h.iB x h2];exact hρ⟩)
   ·rw[h3] at hρ;cases hρ
 ·obtain⟨_,⟨d0,es0,h1,h2,h3⟩|⟨_,h2,_⟩⟩:=h.row b e sz d es he
  ·exact⟨e,d0,es0,h1, .inl ⟨h3,h.iB b hu⟩⟩
  ·exact absurd hu h2
theorem tQ.UL {w0:World} {c c2:Cx} (h:tQ c c2) (hS:dy w0 c) (hv:∀b e sz d es d0 es0,c2.H b=some (.row e sz d es)->c.H b=some (.row e sz d0 es0)->dW c c2 es0 es):dy w0 c2:=by
 refine⟨by rw[h.w];exact hS.below,by rw[h.m0];exact hS.m0,fun b e sz d es he=> ?_,fun b b' k k' blk o z o' z' hk hk' hρ hρ'=> ?_⟩
 ·obtain⟨hU,⟨d0,es0,h1,h2,h3⟩|⟨rfl,h2,h3,h4⟩⟩:=h.row b e sz d es he
  ·have hav:=hv b e sz d es d0 es0 he h1
   obtain⟨_,⟨g2,g3⟩|⟨g2,g3⟩⟩:=hS.row b e sz d0 es0 h1
   ·refine⟨hU, .inl ⟨g2, ?_⟩⟩
    rw[h.iB b h2,h.w]
    rcases g3 with⟨g4,g5⟩|⟨blk,o,z,g4,g5,g6,g7,g8⟩
    ·subst g5
     exact .inl ⟨g4,List.eq_nil_of_length_eq_zero (by simpa using h3.symm)⟩
    ·exact .inr ⟨blk,o,z,g4,g5,g6,by rw[<-h3];exact g7,hav.row h.w g8⟩
   ·obtain⟨r,x,ms,clk,g4,g5,g6,rfl,g8,g9⟩:=g3
    cases hav with
    |cons k1 k2=>
     cases k2
     exact⟨hU, .inr ⟨g2,r,_,ms,clk,(h.iB b h2).trans g4,g5,by rw[h.w];exact g6,rfl,k1 _ g8,g9⟩⟩
  ·exact⟨hU, .inl ⟨h4, .inl ⟨h3,rfl⟩⟩⟩
 ·obtain⟨e,sz,d,es⟩:=k
  obtain⟨e',sz',d',es'⟩:=k'
  obtain⟨_,⟨_,_,h1,h2,_⟩|⟨_,_,h3,_⟩⟩:=h.row b _ _ _ _ hk
  ·obtain⟨_,⟨_,_,g1,g2,_⟩|⟨_,_,g3,_⟩⟩:=h.row b' _ _ _ _ hk'
   ·exact hS.inj b b' _ _ blk o z o' z' h1 g1 (by rw[<-h.iB b h2];exact hρ) (by rw[<-h.iB b' g2];exact hρ')
   ·rw[g3] at hρ';cases hρ'
  ·rw[h3] at hρ;cases hρ
def Wk (r:AV) (H:Hp) (nx:Nat) (r2:AV) (H2:Hp) (nx2:Nat):Prop:=
 ∀w0 ρ U w M0,(∀b,U b->b<nx)->dy w0 ⟨ρ,bt H,U,w,M0⟩->
  ∃ρ2 U2,(∀b,U2 b->b<nx2)/\dy w0 ⟨ρ2,bt H2,U2,w,M0⟩/\Cx.le ⟨ρ,bt H,U,w,M0⟩ ⟨ρ2,bt H2,U2,w,M0⟩/\db ⟨ρ,bt H,U,w,M0⟩ ⟨ρ2,bt H2,U2,w,M0⟩ r r2
theorem cU.wk {P:Program} {f:FuncId} {args:List AV} {H:Hp} {nx:Nat} {R R2:AV->Hp->Nat->Prop} (h:cU P f args H nx R) (hR:∀r H' nx',R r H' nx'->∃r2 H2 nx2,Wk r H' nx' r2 H2 nx2/\R2 r2 H2 nx2):cU P f args H nx R2:=by
 refine⟨h.1,fun w0 c vs a1 a2 a3 a4=>(h.2 w0 c vs a1 a2 a3 a4).mono ?_⟩
 rintro e w' ⟨v,r,H',nx',ρ,U,rfl,hRr,hU,hS,hle,hv⟩
 obtain⟨r2,H2,nx2,hw,hR2⟩:=hR r H' nx' hRr
 obtain⟨ρ2,U2,k1,k2,k3,k4⟩:=hw w0 ρ U w' c.M0 hU hS
 exact⟨v,r2,H2,nx2,ρ2,U2,rfl,hR2,k1,k2,hle.trans k3,k4 v hv⟩
def mi:List AV->Prop
 |[]=>True
 | .sc _::r=>mi r
 |_::_=>False
def gT:AV->Prop
 | .sc _=>True
 | .agg cs=>mi cs
 | .dI cs=>∀a∈cs,(∃u,a= .sc u)\/∃ds,a= .agg ds/\mi ds
 |_=>False
theorem oJ {c c2:Cx}:∀{cs:List AV} {vs:List Value},mi cs->cu c cs vs->cu c2 cs vs
 |[],vs,_,h=>by rw[cu] at h ⊢;exact h
 | .sc u::r,vs,hf,h=>by
  rw[cu] at h ⊢
  obtain⟨v,vs',rfl,h1,h2⟩:=h
  exact⟨v,vs',rfl,by rw[VR] at h1 ⊢;exact h1,oJ hf h2⟩
theorem nR {c c2:Cx} {r:AV} {v:Value} (hf:gT r) (h:VR c r v):VR c2 r v:=by
 have one:∀{a:AV} {v:Value},((∃u,a= .sc u)\/∃ds,a= .agg ds/\mi ds)->VR c a v->VR c2 a v:=by
  rintro a v (⟨u,rfl⟩|⟨ds,rfl,hd⟩) h
  ·rw[VR] at h ⊢;exact h
  ·rw[VR] at h ⊢;obtain⟨vs,rfl,hr⟩:=h;exact⟨vs,rfl,oJ hd hr⟩
 cases r<;>simp only[gT] at hf
 case sc u=>exact one (.inl ⟨u,rfl⟩) h
 case agg cs=>exact one (.inr ⟨cs,rfl,hf⟩) h
 case dI cs=>
  rw[VR] at h ⊢
  obtain⟨vs,rfl,hr⟩:=h
  refine⟨vs,rfl, ?_⟩
  generalize vs.toList=l at hr
  induction cs generalizing l with
  |nil=>rw[cu] at hr ⊢;exact hr
  |cons a cs ih=>
   rw[cu] at hr ⊢
   obtain⟨v,vs',rfl,h1,h2⟩:=hr
   exact⟨v,vs',rfl,one (hf a (by simp)) h1,ih (fun b hb=>hf b (by simp[hb])) _ h2⟩
theorem lZ {w0:World} {c:Cx} {H:Hp} (h:dy w0 c) (hH:c.H=bt H):∀{as:List AV} {vs:List Value},c8 0 (as.map (dY H 6))->cu c as vs->cu (base c.w c.M0) (as.map (dY H 6)) vs
 |[],vs,_,hv=>by rw[cu] at hv;subst hv;simp only[List.map_nil];rw[cu]
 |a::as,vs,hf,hv=>by
  rw[cu] at hv
  obtain⟨v,vs',rfl,h1,h2⟩:=hv
  simp only[List.map_cons,c8] at hf ⊢
  rw[cu]
  exact⟨v,vs',rfl,l3 h hH 6 hf.1 h1,lZ h hH hf.2 h2⟩
theorem Pure.view {P:Program} {f:FuncId} {args args2:List AV} {r:AV} {H:Hp} {nx:Nat} {K:AV->Hp->Nat->Prop} (h:Pure P f args2 (fun x=>x=r)) (ha:args.map (dY H 6)=args2) (hf:c8 0 args2) (hr:gT r) (hK:K r H nx):cU P f args H nx K:=by
 refine⟨h.1,fun w0 c vs hS hH hU hv=> ?_⟩
 subst ha
 refine(h.2 c.M0 c.w vs hS.mL (lZ hS hH hf hv)).mono fun e w' hh=> ?_
 obtain⟨v,r',rfl,rfl,_,hvr,hb⟩:=hh
 obtain⟨s1,s2⟩:=hS.world hb
 refine⟨v,r',H,nx,c.ρ,c.U,rfl,hK,hU, ?_, ?_,nR hr hvr⟩
 ·rw[<-hH];exact s1
 ·rw[<-hH];exact s2
theorem Pure.ZQ {P:Program} {f:FuncId} {args args2:List AV} {r:AV} {H:Hp} {id:Nat} (h:Pure P f args2 (fun x=>x=r)) (ha:args.map (dY H 6)=args2) (hf:c8 0 args2) (hr:gT r):lO P f args H id (fun r' H'=>r'=r/\H'=H):=by
 refine⟨h.1,fun w0 c vs hS hH hU hv=> ?_⟩
 subst ha
 refine(h.2 c.M0 c.w vs hS.mL (lZ hS hH hf hv)).mono fun e w' hh=> ?_
 obtain⟨v,r',rfl,rfl,_,hvr,hb⟩:=hh
 obtain⟨s1,s2⟩:=hS.world hb
 obtain⟨t1,t2⟩:=s1.used (U:=fun x=>c.U x\/x=id) fun _ h=> .inl h
 refine⟨v,r',H,c.ρ,rfl,⟨rfl,rfl⟩, ?_, ?_,nR hr hvr⟩
 ·rw[<-hH];exact t1
 ·rw[<-hH];exact s2.trans t2
theorem aP {P:Program} {f:FuncId} {args:List AV} {H:Hp} {nx:Nat} {args2:List AV} {r:AV} {K:AV->Hp->Nat->Prop} (h:Pure P f args2 (fun x=>x=r)) (ha:args.map (dY H 6)=args2) (hf:c8 0 args2) (hr:gT r) (hK:Go (K r H nx)):iR P f args H nx K:=⟨h.view ha hf hr hK⟩
theorem bG {P:Program} {f:FuncId} {args:List AV} {H:Hp} {nx:Nat} {g:Bool} {args2:List AV} {r:AV} {K:AV->Prop} (h:g=true->Pure P f args2 (fun x=>x=r)) (ha:args.map (dY H 6)=args2) (hf:c8 0 args2) (hr:gT r) (hK:Go (K r)):oo P g f args H nx K:=
 ⟨⟨r,fun hg K' hK'=>by
   have:=(h hg).view (H:=H) (nx:=nx) (K:=fun r' H' n=>∃n',n<=n'/\K' r' H' n') ha hf hr ⟨_,Nat.le_succ _,hK'⟩
   refine⟨this.1,fun w0 c vs a1 a2 a3 a4=>(this.2 w0 c vs a1 a2 a3 a4).mono ?_⟩
   rintro e w' ⟨v,r,H',nx',ρ,U,he,⟨n',hn,hR⟩,hU,hrest⟩
   exact⟨v,r,H',n',ρ,U,he,hR,fun b hb=>Nat.lt_of_lt_of_le (hU b hb) hn,hrest⟩,hK⟩⟩
theorem aU {P:Program} {f:FuncId} {args:List AV} {H:Hp} {id:Nat} (S:List Nat) {args2:List AV} {r:AV} {K:AV->Option (Nat×fH)->List Nat->Prop} (h:Pure P f args2 (fun x=>x=r)) (ha:∀H1,(∀b∈S,bt H1 b=bt H b)->args.map (dY H1 6)=args2) (hf:c8 0 args2) (hr:gT r) (hK:Go (K r none S)):kU P id f args H K:=
 kU.fresh S (fun H1 h1=>h.ZQ (ha H1 h1) hf hr) (fun _ _ h=>by cases h) hK
mutual
/-- Every name in it is one of these. -/
def jC (p:Nat->Prop):AV->Prop
 | .sc _=>True
 | .any=>True
 | .im _ _ es=>jg p es
 | .ip _ _ es _ _=>jg p es
 | .sl b _=>p b
 | .pt b _ _ _=>p b
 | .zc=>True
 | .agg cs=>jg p cs
 | .dI cs=>jg p cs
 | .fn _ x q=>jg p x/\jg p q
 | .nA _ x=>jC p x
 | .mp b=>p b
 | .ab=>True
 | .sv b _ _ _=>p b
def jg (p:Nat->Prop):List AV->Prop
 |[]=>True
 |a::as=>jC p a/\jg p as
end
mutual
theorem VR.DV {c:Cx}:∀{a:AV} {v:Value},VR c a v->jC c.U a
 | .sc u,v,_=>by rw[jC];trivial
 | .any,_,_=>by rw[jC];trivial
 | .im sz d es,v,hv=>by
  rw[VR] at hv
  rw[jC]
  obtain⟨_,_,_,_,h0|⟨blk,o,_,_,_,hr⟩⟩:=hv
  ·subst h0;rw[jg];trivial
  ·exact eA.DV hr
 | .ip sz d es i off,v,hv=>by
  rw[VR] at hv
  rw[jC]
  obtain⟨_,_,blk,o,_,_,hr⟩:=hv
  exact eA.DV hr
 | .sl b len,v,hv=>by rw[VR] at hv;rw[jC];exact hv.1
 | .pt b len i off,v,hv=>by rw[VR] at hv;rw[jC];exact hv.1
 | .zc,v,_=>by rw[jC];trivial
 | .agg cs,v,hv=>by rw[VR] at hv;rw[jC];obtain⟨_,_,hr⟩:=hv;exact cu.DV hr
 | .dI cs,v,hv=>by rw[VR] at hv;rw[jC];obtain⟨_,_,hr⟩:=hv;exact cu.DV hr
 | .fn f p q,v,hv=>by rw[VR] at hv;rw[jC];obtain⟨_,_,_,h1,h2⟩:=hv;exact⟨cu.DV h1,cu.DV h2⟩
 | .nA t x,v,hv=>by rw[VR] at hv;rw[jC];obtain⟨_,_,h1⟩:=hv;exact VR.DV h1
 | .mp b,v,hv=>by rw[VR] at hv;rw[jC];exact hv.1
 | .ab,v,_=>by rw[jC];trivial
 | .sv b len lo n,v,hv=>by rw[VR] at hv;rw[jC];exact hv.1
theorem eA.DV {c:Cx} {sz blk:Nat}:∀{es:List AV} {o:Nat},eA c sz es blk o->jg c.U es
 |[],_,_=>by rw[jg];trivial
 |e::es,o,hr=>by
  rw[eA] at hr
  rw[jg]
  obtain⟨⟨v,_,h2⟩,h3⟩:=hr
  exact⟨VR.DV h2,eA.DV h3⟩
theorem cu.DV {c:Cx}:∀{as:List AV} {vs:List Value},cu c as vs->jg c.U as
 |[],vs,_=>by rw[jg];trivial
 |a::as,vs,hv=>by
  rw[cu] at hv
  rw[jg]
  obtain⟨v,vs',_,h1,h2⟩:=hv
  exact⟨VR.DV h1,cu.DV h2⟩
end
mutual
theorem VR.ED {c:Cx} {U:Nat->Prop}:∀{a:AV} {v:Value},jC U a->VR c a v->VR { c with U:=U } a v
 | .sc u,v,_,hv=>by rw[VR] at hv ⊢;exact hv
 | .any,_,_,_=>by rw[VR];trivial
 | .im sz d es,v,hn,hv=>by
  rw[jC] at hn
  rw[VR] at hv ⊢
  obtain⟨a,cap,h1,h2,h3⟩:=hv
  refine⟨a,cap,h1,h2, ?_⟩
  rcases h3 with h3|⟨blk,o,h4,h5,h6,h7⟩
  ·exact .inl h3
  ·exact .inr ⟨blk,o,h4,h5,h6,eA.ED hn h7⟩
 | .ip sz d es i off,v,hn,hv=>by
  rw[jC] at hn
  rw[VR] at hv ⊢
  obtain⟨h1,h2,blk,o,h3,h4,h5⟩:=hv
  exact⟨h1,h2,blk,o,h3,h4,eA.ED hn h5⟩
 | .sl b len,v,hn,hv=>by rw[jC] at hn;rw[VR] at hv ⊢;exact⟨hn,hv.2⟩
 | .pt b len i off,v,hn,hv=>by rw[jC] at hn;rw[VR] at hv ⊢;exact⟨hn,hv.2⟩
 | .zc,v,_,hv=>by rw[VR] at hv ⊢;exact hv
 | .agg cs,v,hn,hv=>by rw[jC] at hn;rw[VR] at hv ⊢;obtain⟨vs,h1,h2⟩:=hv;exact⟨vs,h1,cu.ED hn h2⟩
 | .dI cs,v,hn,hv=>by rw[jC] at hn;rw[VR] at hv ⊢;obtain⟨vs,h1,h2⟩:=hv;exact⟨vs,h1,cu.ED hn h2⟩
 | .fn f p q,v,hn,hv=>by rw[jC] at hn;rw[VR] at hv ⊢;obtain⟨ps,qs,h1,h2,h3⟩:=hv;exact⟨ps,qs,h1,cu.ED hn.1 h2,cu.ED hn.2 h3⟩
 | .nA t x,v,hn,hv=>by rw[jC] at hn;rw[VR] at hv ⊢;obtain⟨u,h1,h2⟩:=hv;exact⟨u,h1,VR.ED hn h2⟩
 | .mp b,v,hn,hv=>by rw[jC] at hn;rw[VR] at hv ⊢;exact⟨hn,hv.2⟩
 | .ab,v,_,hv=>by rw[VR] at hv ⊢;exact hv
 | .sv b len lo n,v,hn,hv=>by rw[jC] at hn;rw[VR] at hv ⊢;exact⟨hn,hv.2⟩
theorem eA.ED {c:Cx} {U:Nat->Prop} {sz blk:Nat}:∀{es:List AV} {o:Nat},jg U es->eA c sz es blk o->eA { c with U:=U } sz es blk o
 |[],_,_,_=>by rw[eA];trivial
 |e::es,o,hn,hr=>by
  rw[jg] at hn
  rw[eA] at hr ⊢
  obtain⟨⟨v,h1,h2⟩,h3⟩:=hr
  exact⟨⟨v,h1,VR.ED hn.1 h2⟩,eA.ED hn.2 h3⟩
theorem cu.ED {c:Cx} {U:Nat->Prop}:∀{as:List AV} {vs:List Value},jg U as->cu c as vs->cu { c with U:=U } as vs
 |[],vs,_,hv=>by rw[cu] at hv ⊢;exact hv
 |a::as,vs,hn,hv=>by
  rw[jg] at hn
  rw[cu] at hv ⊢
  obtain⟨v,vs',h0,h1,h2⟩:=hv
  exact⟨v,vs',h0,VR.ED hn.1 h1,cu.ED hn.2 h2⟩
end
theorem cU.PA {P:Program} {f:FuncId} {args:List AV} {r:AV} {H:Hp} {nx:Nat} {K:AV->Hp->Nat->Prop} (h:cU P f args H nx (fun r' H' _=>r'=r/\H'=H)) (hr:gT r) (hK:K r H nx):cU P f args H nx K:=by
 refine⟨h.1,fun w0 c vs hS hH hU hv=>(h.2 w0 c vs hS hH hU hv).mono ?_⟩
 rintro e w' ⟨v,r',H',nx',ρ,U,rfl,⟨rfl,rfl⟩,_,hS',hle,hvr⟩
 have hrows:∀b e sz d es,bt H' b=some (.row e sz d es)->c.U b/\(∀blk o z,c.ρ b=some (blk,o,z)->jg c.U es)/\(c.ρ b=none->es=[]):=by
  intro b e sz d es he
  obtain⟨g1,⟨_,g3⟩|⟨_,r,x,ms,clk,g3,_,_,rfl,g5,_⟩⟩:=hS.row b e sz d es (by rw[hH];exact he)
  ·refine⟨g1,fun blk o z hρ=> ?_,fun hρ=> ?_⟩
   ·rcases g3 with⟨g4,rfl⟩|⟨_,_,_,_,_,_,_,g5⟩
    ·rw[jg];trivial
    ·exact g5.DV
   ·rcases g3 with⟨_,g4⟩|⟨_,_,_,g4,_⟩
    ·exact g4
    ·rw[hρ] at g4;cases g4
  ·refine⟨g1,fun blk o z hρ=> ?_,fun hρ=> ?_⟩
   ·simp only[jg,and_true];exact g5.DV
   ·rw[hρ] at g3;cases g3
 have hnam:∀b e sz d es,bt H' b=some (.row e sz d es)->jg c.U es:=by
  intro b e sz d es he
  obtain⟨_,h2,h3⟩:=hrows b e sz d es he
  cases hρ:c.ρ b with
  |none=>rw[h3 hρ,jg];trivial
  |some x=>exact h2 _ _ _ hρ
 refine⟨v,r',H',nx,ρ,c.U,rfl,hK,hU,⟨hS'.below,hS'.m0,fun b e sz d es he=> ?_,hS'.inj⟩,⟨fun _ h=>h,hle.sz,hle.blk,hle.row⟩,nR hr hvr⟩
 obtain⟨_,⟨g2,g3⟩|⟨g2,r,x,ms,clk,g4,g5,g6,rfl,g8,g9⟩⟩:=hS'.row b e sz d es he
 ·refine⟨(hrows b e sz d es he).1, .inl ⟨g2, ?_⟩⟩
  rcases g3 with g3|⟨blk,o,z,g4,g5,g6,g7,g8⟩
  ·exact .inl g3
  ·exact .inr ⟨blk,o,z,g4,g5,g6,g7,eA.ED (hnam b e sz d es he) g8⟩
 ·have hn:=hnam b e sz d _ he
  simp only[jg,and_true] at hn
  exact⟨(hrows b e sz d _ he).1, .inr ⟨g2,r,x,ms,clk,g4,g5,g6,rfl,VR.ED hn g8,g9⟩⟩
theorem cU.more {P:Program} {f:FuncId} {args:List AV} {H:Hp} {nx:Nat} {K K':AV->Hp->Nat->Prop} (h:cU P f args H nx K) (hk:∀r H n,K r H n->∃n',n<=n'/\K' r H n'):cU P f args H nx K':=by
 refine⟨h.1,fun w0 c vs a1 a2 a3 a4=>(h.2 w0 c vs a1 a2 a3 a4).mono ?_⟩
 rintro e w' ⟨v,r,H',nx',ρ,U,he,hR,hU,hrest⟩
 obtain⟨n',hn,hR'⟩:=hk _ _ _ hR
 exact⟨v,r,H',n',ρ,U,he,hR',fun b hb=>Nat.lt_of_lt_of_le (hU b hb) hn,hrest⟩
theorem bQ {P:Program} {f:FuncId} {args:List AV} {H:Hp} {nx:Nat} {g:Bool} {r:AV} {K:AV->Prop} (h:g=true->cU P f args H nx (fun r' H' _=>r'=r/\H'=H)) (hr:gT r) (hK:Go (K r)):oo P g f args H nx K:=
 ⟨⟨r,fun hg K' hK'=>((h hg).PA (K:=fun r' H' n=>r'=r/\H'=H/\n=nx) hr ⟨rfl,rfl,rfl⟩).more (by rintro _ _ _ ⟨rfl,rfl,rfl⟩;exact⟨_,Nat.le_succ _,hK'⟩),hK⟩⟩
theorem bR {P:Program} {f:FuncId} {args:List AV} {H:Hp} {nx:Nat} {r:AV} {K:AV->Hp->Nat->Prop} (h:cU P f args H nx (fun r' H' _=>r'=r/\H'=H)) (hr:gT r) (hK:Go (K r H nx)):iR P f args H nx K:=⟨h.PA hr hK⟩
def xT (P:Program) (f:FuncId) (args:List AV) (H:Hp) (nx:Nat) (r:AV):Prop:=cU P f args H nx (fun r' H' _=>r'=r/\∀b,b<nx->bt H' b=bt H b)
theorem xT.exact {P:Program} {f:FuncId} {args:List AV} {H:Hp} {nx:Nat} {r:AV} (h:xT P f args H nx r):cU P f args H nx (fun r' H' _=>r'=r/\H'=H):=by
 refine⟨h.1,fun w0 c vs hS hH hU hv=>(h.2 w0 c vs hS hH hU hv).mono ?_⟩
 rintro e w' ⟨v,r',H',nx',ρ,U,rfl,⟨rfl,hk⟩,hU',hS',hle,hvr⟩
 have h2:∀b,bt H b=bt H' b\/bt H b=none:=by
  intro b
  by_cases hb:b<nx
  ·exact .inl (hk b hb).symm
  ·cases hg:bt H b with
   |none=>exact .inr rfl
   |some k=>
    exfalso
    obtain⟨e,sz,d,es⟩:=k
    exact hb (hU b (hS.row b e sz d es (by rw[hH];exact hg)).1)
 obtain⟨s1,s2⟩:=hS'.drop h2
 exact⟨v,_,_,nx',ρ,U,rfl,⟨rfl,rfl⟩,hU',s1,hle.trans s2,VR.cc s2 hvr⟩
theorem aX {P:Program} {f:FuncId} {args:List AV} {H:Hp} {nx:Nat} {r:AV} {K:AV->Hp->Nat->Prop} (h:xT P f args H nx r) (hr:gT r) (hK:Go (K r H nx)):iR P f args H nx K:=bR h.exact hr hK
theorem aW {P:Program} {f:FuncId} {args:List AV} {H:Hp} {nx:Nat} {g:Bool} {r:AV} {K:AV->Prop} (h:g=true->xT P f args H nx r) (hr:gT r) (hK:Go (K r)):oo P g f args H nx K:=bQ (fun hg=>(h hg).exact) hr hK
theorem cN {H:Hp} {b d:Nat} {v:Option fH} (hne:b≠d):bt ((d,v)::H) b=bt H b:=by simp[bt,hne]
theorem KX.look {r r':AV} {H H':Hp} {nx nx':Nat} (h:r'=r) (hk:∀b,b<nx->bt H' b=bt H b):KX (fun r' H' _=>r'=r/\∀b,b<nx->bt H' b=bt H b) r' H' nx':=⟨⟨h,hk⟩⟩
theorem PS (d:Nat) (k:IntKind) (i:Nat):lB d (some (.sc (.int k (i:Int))))=some i:=by
 simp only[lB];rw[if_pos (by omega)];simp
theorem UN {H:Hp} {s:Nat} {d:AV} {es:List AV} {lo hi:Option AV} {l h:Nat} (h1:lB 0 lo=some l) (h2:lB es.length hi=some h) (h3:l<=h/\h<=es.length):vJ H s lo hi (.im s d es)=some (.im s d ((es.drop l).take (h - l))):=by
 simp only[vJ,h1,h2];rw[if_pos ⟨trivial,h3⟩]
structure ZW (a b:Nat):Prop where
 ne:a≠b
def xC (b:Nat):List Nat->Prop
 |[]=>True
 |x::l=>ZW b x/\xC b l
def TO (s t:List Nat×Option Nat):Prop:=match s.2,t.2 with
 |none,none=>True
 |some b,none=>xC b t.1
 |none,some b=>xC b s.1
 |some b,some b'=>xC b t.1/\xC b' s.1/\ZW b b'
def C2 (tr:Tr):List (Nat×Nat)->Prop
 |[]=>True
 |p::ps=>TO (tr.getD p.1 ([],none)) (tr.getD p.2 ([],none))/\C2 tr ps
theorem lj {b:Nat}:∀{l:List Nat},xC b l->b∉l
 |[],_=>by simp
 |x::l,h=>by
  have h1:=h.1.ne
  have h2:=lj h.2
  simp[h1,h2]
theorem HU {s t:List Nat×Option Nat} (h:TO s t):C3 s t:=by
 obtain⟨s1,s2⟩:=s
 obtain⟨t1,t2⟩:=t
 cases s2<;>cases t2<;>simp only[TO] at h<;>simp only[C3]
 ·simp
 ·refine⟨by simp, ?_,by simp⟩
  rintro b ⟨⟩;exact lj h
 ·refine⟨?_,by simp,by simp⟩
  rintro b ⟨⟩;exact lj h
 ·refine⟨?_, ?_, ?_⟩
  ·rintro b ⟨⟩;exact lj h.1
  ·rintro b ⟨⟩;exact lj h.2.1
  ·rintro b ⟨h1,h2⟩
   cases h1;cases h2;exact h.2.2.ne rfl
theorem uM {tr:Tr}:∀{ps:List (Nat×Nat)},C2 tr ps->j5 tr ps
 |[],_=>by intro p hp;cases hp
 |q::ps,h=>by
  intro p hp
  rcases List.mem_cons.1 hp with rfl|hp
  ·exact HU h.1
  ·exact uM h.2 p hp
noncomputable def EJ (tr:Tr):Tr->(Tr->Prop)->Prop:=List.rec (motive:=fun _=>Tr->(Tr->Prop)->Prop) (fun acc K=>K acc) (fun x _ ih acc K=>ih (x::acc) K) tr
theorem GN:∀(tr acc:Tr) (K:Tr->Prop),EJ tr acc K=K (tr.reverse++acc)
 |[],acc,K=>rfl
 |x::tr,acc,K=>by
  show EJ tr (x::acc) K=_
  rw[GN tr];simp
theorem aq {tr:Tr} {ps:List (Nat×Nat)} (h:Go (EJ tr [] fun t=>C2 t ps)):Ask (j5 tr.reverse ps):=⟨uM (by have h2:EJ tr [] fun t=>C2 t ps:=h;rw[GN,List.append_nil] at h2;exact h2)⟩
theorem N9 {fr:Fr} {H:Hp}:ji fr H []=some []:=rfl
theorem OA {fr:Fr} {H:Hp} {t:Nat} {r:List lA} {q:List AV} (h:ji fr H r=some q):ji fr H (.tmp t::r)=some (cq fr t::q):=by simp only[ji,h]
theorem JP {fr:Fr} {H:Hp} {t k b len i off sz:Nat} {ag:Bool} {e:TypeId} {d x:AV} {es q:List AV} {r:List lA} (h1:cq fr t= .pt b len i off) (h2:bt H b=some (.row e sz d es)) (h3:es.length=len)
 (h4:AF ag k (es.getD i d) sz off=some x) (h5:ji fr H r=some q):ji fr H (.cell t ag k::r)=some (x::q):=by
 have:k9 H (.pt b len i off)=some (sz,es.getD i d,off):=by simp only[k9,h2,h3];simp
 simp only[ji,h1,this,h4,h5]
theorem mC {l:List AV} {n k m:Nat} (hl:l.length=m) (h:(n+m) * k<=175921860444160):(n+l.length) * k<=iA:=by rw[hl];exact h
theorem OL {H:Hp} {s b len:Nat} {e:TypeId} {d:AV} {es:List AV} {lo hi:Option AV} {l h:Nat} (h0:bt H b=some (.row e s d es)) (hl:es.length=len) (h1:lB 0 lo=some l) (h2:lB len hi=some h) (h3:l<=h/\h<=len):vJ H s lo hi (.sl b len)=some (.sv b len l (h - l)):=by
 simp only[vJ,h0,h1,h2];rw[if_pos ⟨hl,trivial,h3⟩]
theorem yE {H:Hp} {b len sz:Nat} {e:TypeId} {d:AV} {es:List AV} (h:bt H b=some (.row e sz d es)) (h2:es.length=len/\0<len):uo H (.sl b len)=some (some false):=by
 simp only[uo,h];rw[if_pos h2]
theorem NU {H:Hp} {b:Nat}:uo H (.sl b 0)=some none:=by
 simp only[uo]
 split
 ·rw[if_neg (by omega)]
 ·rfl
theorem eM {α:Type} {l:List α} {i:Nat} {v d:α} (h:i<l.length):(l.set i v).getD i d=v:=by simp[List.getD,h]
theorem qq:(∀n:Nat,(n:Int).toNat=n)/\(∀(p:Prop) [Decidable p] (b:Bool),(if p then true else b)=(decide p||b))/\(∀(p:Prop) [Decidable p] (b:Bool),(if p then b else false)=(decide p&&b))/\(∀(p:Prop) [Decidable p] (b:Bool),(if p then false else b)=(!decide p&&b))/\(∀(p:Prop) [Decidable p] (b:Bool),(if p then b else true)=(!decide p||b))/\
 (∀b:Bool,decide (b=true)=b)/\(∀(p:Prop) [Decidable p],(decide p=true)=p)/\(∀(p:Prop) [Decidable p],(decide p=false)=¬p)/\(∀a b:Bool,((a&&b)=true)=(a=true/\b=true))/\(∀a b:Bool,((a||b)=true)=(a=true\/b=true))/\(∀b:Bool,((!b)=true)=(b=false))/\(∀b:Bool,((!b)=false)=(b=true))/\
 (∀a b:Bool,((a&&b)=false)=(a=false\/b=false))/\(∀a b:Bool,((a||b)=false)=(a=false/\b=false))/\(∀a b:Int,(¬a<b)=(b<=a))/\(∀a b:Int,(¬a<=b)=(b<a))/\(∀(p:Prop) [Decidable p],(¬¬p)=p):=by
 refine⟨by simp,fun p _ b=> ?_,fun p _ b=> ?_,fun p _ b=> ?_,fun p _ b=> ?_,by simp,by simp,by simp,by simp,by simp,by simp,by simp,by simp,by simp,fun a b=>propext Int.not_lt,fun a b=>propext Int.not_le,fun p _=>propext Decidable.not_not⟩
 all_goals by_cases h:p<;>simp[h]
theorem bu {p:Prop} (h:p:=by(repeat(first|exact ca _ _ _|assumption|refine IA (by first|omega|(simp only[List.length_cons,List.length_nil];omega)) ?_))<;>fail):p:=h
theorem cX {p:Prop} (h:p:=by first|omega|(simp only[List.length_cons,List.length_nil];omega)):p:=h
theorem yp {p:Prop} (h:p:=by intro _b _hb;repeat(first|exact rfl|(refine Eq.trans (cN (by first|omega|(simp only[List.length_cons,List.length_nil];omega))) ?_))):p:=h
theorem cC {p:Prop} (h:p:=by repeat' (first|exact True.intro|refine And.intro ?_ ?_|exact rfl|((conv=>lhs;whnf);(first|(simp<;>fail)|(simp;omega))))):p:=h
theorem Z7 {p:Prop} (h:p:=by first|exact rfl|(simp only[List.length_set,List.length_map,List.length_append,List.length_cons,List.length_nil,List.length_take,List.length_drop,List.length_replicate,Int.toNat_natCast]<;>fail)|(simp only[List.length_set,List.length_map,List.length_append,List.length_cons,List.length_nil,List.length_take,List.length_drop,List.length_replicate,Int.toNat_natCast];omega)):p:=h
theorem dJ {p:Prop} (h:p:=by first|exact rfl|omega|assumption|exact id|(intro h;exact h▸rfl)|(intro h;rw[h]<;>rfl)|(intros;exact rfl)|(intro h;(try simp only[List.length_map,ne_eq,qq] at h);omega)|(simp only[List.length_set,List.length_map,List.length_append,List.length_cons,List.length_nil,List.length_take,List.length_drop,List.length_replicate,Int.toNat_natCast];omega)|(intro _;constructor<;>first|exact rfl|exact Nat.le_of_ble_eq_true rfl|omega)):p:=h
theorem cj {p:Prop} (h:p:=by first|(intro h;simp_all<;>fail)|(refine mC (m:=1) rfl ?_;omega)|(show(_:Nat)<=175921860444160;first|omega|(simp only[List.length_set,List.length_map,List.length_append,List.length_cons,List.length_nil,List.length_take,List.length_drop,List.length_replicate,Int.toNat_natCast];omega))|(exact Nat.le_of_ble_eq_true rfl)|(constructor<;>first|exact rfl|exact Nat.le_of_ble_eq_true rfl|omega)|(simp_all<;>fail)):p:=h
theorem sf {p:Prop} (h:p:=by first|omega|(intro hg;simp only[Gd,List.length_map,ne_eq,qq] at hg;omega)|(intros;simp only[List.length_map,Int.toNat_natCast];omega)):p:=h
theorem cL {p:Prop} (h:p:=by first|assumption|(refine eM ?_;first|omega|(simp only[List.length_set,List.length_map,List.length_append,List.length_cons,List.length_nil,List.length_take,List.length_drop,List.length_replicate,Int.toNat_natCast];omega))|(refine cx _ _ _ _ ?_;first|omega|(simp only[List.length_map,Int.toNat_natCast];omega))|exact rfl):p:=h
theorem Z8 {p:Prop} (h:p:=by constructor<;>first|exact rfl|omega|(simp only[List.length_set,List.length_map,List.length_append,List.length_cons,List.length_nil,List.length_take,List.length_drop,List.length_replicate,Int.toNat_natCast];omega)):p:=h
theorem zC (d:Nat) (k:IntKind) (i:Nat):lB d (some (.sc (.int k (((i+1:Nat):Int) - 1))))=some i:=by
 simp only[lB];rw[if_pos (by omega)];congr 1;omega
theorem G5 {p:Prop} (h:p:=by first|exact rfl|exact PS _ _ _|exact zC _ _ _|((simp only[List.length_map,List.length_append,List.length_cons,List.length_nil,Nat.zero_add]);exact zC _ _ _)|(conv=>lhs;whnf);exact rfl):p:=h
theorem VP {p:Prop} (h:p:=by(try simp only[List.length_set,List.length_map,List.length_append,List.length_cons,List.length_nil,List.length_take,List.length_drop,List.length_replicate,Int.toNat_natCast]);omega):p:=h
theorem UO {s:Nat} {k k2:IntKind} {i:Int} {d:AV} {es:List AV} (h1:0<=i) (h2:i.toNat<=es.length):J3 s (.sc (.int k i)) (.sc (.int k2 i)) (.im s d es)=some (.im s d (es.take i.toNat)):=by
 simp only[J3];rw[if_pos ⟨trivial,trivial,h1,h2⟩]
theorem tT {p:Prop} (h:p:=by first|exact rfl|exact UO VP VP|exact NU|exact yE bu Z8|exact OL bu Z7 G5 G5 VP|exact UN G5 G5 VP):p:=h
theorem S5 {p:Prop} (h:p:=by(repeat(first|exact N9|(apply OA)|(apply JP;(·exact rfl);(·exact bu);(·exact rfl);(·exact rfl))))<;>fail):p:=h
theorem cJ {p:Prop} (h:p:=by first|(simp[c8,cH,cD]<;>fail)):p:=h
theorem Wk.tell {r r2:AV} {H H2:Hp} {nx nx2:Nat} (hn:nx<=nx2)
 (hrow:∀b e sz d es,bt H2 b=some (.row e sz d es)->(∃d0 es0,bt H b=some (.row e sz d0 es0)/\es0.length=es.length)\/(nx<=b/\b<nx2/\es=[]/\0<sz))
 (hval:∀(w0:World) (c c2:Cx),dy w0 c->(∀b,c.U b->b<nx)->c.H=bt H->c2.H=bt H2->c2.w=c.w->c.le c2->
  (∀b e sz d,nx<=b->bt H2 b=some (.row e sz d [])->c2.U b/\c2.ρ b=none)->
  (∀b k blk o z,bt H b=some k->bt H2 b=none->c.ρ b=some (blk,o,z)->¬c2.M blk)->
  db c c2 r r2/\∀b e sz d es d0 es0,bt H2 b=some (.row e sz d es)->bt H b=some (.row e sz d0 es0)->dW c c2 es0 es):
 Wk r H nx r2 H2 nx2:=by
 intro w0 ρ U w M0 hU hS
 let ρ2:Nat->Option (Nat×Nat×Nat):=fun b=>if b<nx then ρ b else none
 let U2:Nat->Prop:=fun b=>U b\/(nx<=b/\b<nx2)
 have hR:tQ ⟨ρ,bt H,U,w,M0⟩ ⟨ρ2,bt H2,U2,w,M0⟩:=by
  refine⟨rfl,rfl,fun b hb=> .inl hb,fun b hb=> ?_,fun b e sz d es he=> ?_⟩
  ·show(if b<nx then ρ b else none)=ρ b
   rw[if_pos (hU b hb)]
  ·rcases hrow b e sz d es he with⟨d0,es0,h2,h3⟩|⟨h1,h2,h3,h4⟩
   ·have hu:U b:=(hS.row b e sz d0 es0 h2).1
    exact⟨.inl hu, .inl ⟨d0,es0,h2,hu,h3⟩⟩
   ·refine⟨.inr ⟨h1,h2⟩, .inr ⟨h3,fun hu=> ?_, ?_,h4⟩⟩
    ·have:=hU b hu;omega
    ·show(if b<nx then ρ b else none)=none
     rw[if_neg (by omega)]
 have hle:=hR.le
 have hv:=hval w0 ⟨ρ,bt H,U,w,M0⟩ ⟨ρ2,bt H2,U2,w,M0⟩ hS hU rfl rfl rfl hle
  (fun b e sz d hb he=>by
   rcases hrow b e sz d [] he with⟨d0,es0,h2,_⟩|⟨h1,h2,_⟩
   ·have h1:b<nx:=hU b (hS.row b e sz d0 es0 h2).1
    omega
   ·refine⟨.inr ⟨h1,h2⟩, ?_⟩
    show(if b<nx then ρ b else none)=none
    rw[if_neg (by omega)])
  (fun b k blk o z hb hb2 hρ hm=>by
   have hlt:=hS.VJ hb hρ
   rcases hm with h0|⟨x,k2,o2,z2,hx,hρ2⟩
   ·have:=hS.m0.lt blk h0
    simp only at hlt
    omega
   ·obtain⟨e,sz,d,es⟩:=k2
    have hρ2:(if x<nx then ρ x else none)=some (blk,o2,z2):=hρ2
    have hx:bt H2 x=some (.row e sz d es):=hx
    rcases hrow x e sz d es hx with⟨d0,es0,h2,_⟩|⟨h1,_⟩
    ·have h1:x<nx:=hU x (hS.row x e sz d0 es0 h2).1
     rw[if_pos h1] at hρ2
     have:=hS.inj b x _ _ blk o z o2 z2 hb h2 hρ hρ2
     subst this
     rw[hx] at hb2;cases hb2
    ·rw[if_neg (by omega)] at hρ2;cases hρ2)
 refine⟨ρ2,U2, ?_,hR.UL hS hv.2,hle,hv.1⟩
 rintro b (hb|⟨_,hb⟩)
 ·have:=hU b hb;omega
 ·exact hb
theorem Wk.refl (r:AV) (H:Hp) (nx:Nat):Wk r H nx r H nx:=by
 intro w0 ρ U w M0 hU hS
 exact⟨ρ,U,hU,hS,Cx.le.refl _,fun v hv=>hv⟩
theorem Wk.nil {H:Hp} {nx:Nat} (e:TypeId) (sz:Nat) (d:AV) (hsz:0<sz):Wk (.sc (.slice none 0 0)) H nx (.sl nx 0) ((nx,some (.row e sz d []))::H) (nx+1):=by
 refine Wk.tell (Nat.le_succ _) (fun b e' sz' d' es he=> ?_) (fun w0 c c2 hS hU hc hc2 hw hle hnew _=>⟨?_,fun b e' sz' d' es d0 es0 h1 h2=> ?_⟩)
 ·by_cases hb:b=nx
  ·subst hb
   rw[ca] at he
   cases he
   exact .inr ⟨Nat.le_refl _,Nat.lt_succ_self _,rfl,hsz⟩
  ·rw[cN hb] at he
   exact .inl ⟨d',es,he,rfl⟩
 ·have h:=hnew nx e sz d (Nat.le_refl _) (ca _ _ _)
  exact db.nil (e:=e) (sz:=sz) (d:=d) h.1 (by rw[hc2,ca]) h.2
 ·by_cases hb:b=nx
  ·subst hb
   rw[ca] at h1
   cases h1
   have h3:c.H b=some (.row e sz d0 es0):=by rw[hc];exact h2
   exact absurd (hU _ (hS.row _ _ _ _ _ h3).1) (Nat.lt_irrefl _)
  ·rw[cN hb] at h1
   rw[h1] at h2
   cases h2
   exact dW.cc hle _
theorem cU.MC {P:Program} {f:FuncId} {args args2:List AV} {e:TypeId} {sz:Nat} {es:List AV} (h:cU P f args2 [] 0 (fun r1 H1 _=>∃b d0,r1= .sl b es.length/\bt H1 b=some (.row e sz d0 es))) (hfl:∀i,i<es.length->gT (es.getD i .any)) (d:AV) {H:Hp} {id:Nat} (ha:args.map (dY H 6)=args2) (hfa:c8 0 args2):
 lO P f args H id (fun r' H''=>r'= .sl id es.length/\H''=dS H (some (id, .row e sz d es))):=by
 refine⟨h.1,fun w0 c vs hS hH hid hv=> ?_⟩
 have hS0:dy c.w ⟨fun _=>none,bt [],fun _=>False,c.w,c.M0⟩:=⟨Below.refl _ _,hS.mL,fun b e sz d es he=>by simp[bt] at he,fun b b' k k' blk o z o' z' hk=>by simp[bt] at hk⟩
 subst ha
 have hv':cu ⟨fun _=>none,bt [],fun _=>False,c.w,c.M0⟩ (args.map (dY H 6)) vs:=lZ hS hH hfa hv
 refine(h.2 c.w _ vs hS0 rfl (fun _ h=>h.elim) hv').mono ?_
 rintro en w' ⟨v,r1,H1,nx',ρ,U,he,⟨b,d0,rfl,hb⟩,hU,hS',_,hvr⟩
 rw[VR] at hvr
 obtain⟨_,ad,cap,hvv,hrr⟩:=hvr
 obtain⟨_,hr2⟩:=hrr _ _ _ _ hb
 have hr3:=hr2 rfl
 obtain⟨_,hz,hor⟩:=hS'.kO b _ _ _ _ hb (vI hr3)
 have hbel:=hS'.below
 obtain⟨s1,s2⟩:=hS.world hbel
 have hHeq:bt (dS H (some (id, .row e sz d es)))=fU c.H id (some (.row e sz d es)):=by rw[du,hH]
 rcases hor with⟨h0,hes⟩|⟨blk,o,z,hρ,hlow,⟨arr,harr,hsz⟩,hlz,hrow⟩
 ·subst hes
  obtain⟨p1,p2⟩:=s1.JM (b:=id) (e:=e) (sz:=sz) d hz hid
  refine⟨v,_,_,fU c.ρ id none,he,⟨rfl,rfl⟩, ?_, ?_, ?_⟩
  ·rw[hHeq];exact p1
  ·rw[hHeq];exact s2.trans p2
  ·rw[hHeq,VR]
   refine⟨.inr rfl,ad,cap,hvv,fun e' sz' d' es' he'=> ?_⟩
   simp only[j6,dV,Option.some.injEq,fH.row.injEq] at he'
   obtain⟨rfl,rfl,rfl,rfl⟩:=he'
   refine⟨Nat.le_refl _,fun _=> .inl ⟨by simp[j6], ?_⟩⟩
   rcases hr3 with⟨_,h2,h3⟩|⟨blk,o,z,h2,_⟩
   ·exact⟨h2,h3⟩
   ·rw[h0] at h2;cases h2
 ·obtain⟨p1,p2⟩:=hS.qc (b:=id) (e:=e) (sz:=sz) d (es:=es) (w':=w') (blk:=blk) (o:=o) (z:=z) hz (.inl hid) (.inl hlow) hbel.os hbel.tape hbel.output hbel.size (fun k hk _=>hbel.block k hk) harr hsz hlz (fun hle i hi=>by
   obtain⟨x,x1,x2⟩:=eC hrow i hi
   refine⟨x,x1,nR ?_ x2⟩
   have:=hfl i hi
   simpa[List.getD,hi] using this)
  refine⟨v,_,_,fU c.ρ id (some (blk,o,z)),he,⟨rfl,rfl⟩, ?_, ?_, ?_⟩
  ·rw[hHeq];exact p1
  ·rw[hHeq];exact p2
  ·rw[hHeq,VR]
   refine⟨.inr rfl,ad,cap,hvv,fun e' sz' d' es' he'=> ?_⟩
   simp only[j6,dV,Option.some.injEq,fH.row.injEq] at he'
   obtain⟨rfl,rfl,rfl,rfl⟩:=he'
   refine⟨by omega,fun _=> .inr ⟨blk,o,z,by simp[j6], ?_⟩⟩
   rcases hr3 with⟨h2,_,_⟩|⟨blk',o',z',h2,h3,h4,h5,h6⟩
   ·rw[hρ] at h2;cases h2
   ·rw[hρ] at h2;cases h2
    exact⟨h3,h4,h5,h6⟩
theorem au {P:Program} {f:FuncId} {args args2:List AV} {e:TypeId} {sz:Nat} {es:List AV} {H:Hp} {id:Nat} {K:AV->Option (Nat×fH)->List Nat->Prop} (S:List Nat) (d:AV)
 (h:cU P f args2 [] 0 (fun r1 H1 _=>∃b d0,r1= .sl b es.length/\bt H1 b=some (.row e sz d0 es))) (hfl:∀i,i<es.length->gT (es.getD i .any)) (ha:∀H1,(∀b∈S,bt H1 b=bt H b)->args.map (dY H1 6)=args2) (hfa:c8 0 args2)
 (hK:Go (K (.sl id es.length) (some (id, .row e sz d es)) S)):kU P id f args H K:=
 kU.fresh S (fun H1 h1=>h.MC hfl d (ha H1 h1) hfa) (fun b q hq=>by cases hq;rfl) hK
theorem nQ {n:Nat}:∀{as:List AV},c8 n as->∀a∈as,cH n a
 |[],_,a,h=>by cases h
 |b::as,hf,a,h=>by
  rw[c8] at hf
  rcases List.mem_cons.1 h with rfl|h
  ·exact hf.1
  ·exact nQ hf.2 a h
theorem uh {f:AV->AV} {l:List AV} (h:∀a∈l,f a=a):l.map f=l:=by
 induction l with
 |nil=>rfl
 |cons a l ih=>rw[List.map_cons,h a (by simp),ih fun b hb=>h b (by simp[hb])]
theorem dA {H:Hp}:∀(k:Nat) {a:AV},cH 0 a->dY H k a=a
 |0,a,hf=>by cases a<;>simp only[dY]
 |k+1,a,hf=>by
  have ih:=fun {l:List AV} (hl:c8 0 l)=>uh (f:=dY H k) (fun a ha=>dA k (nQ hl a ha))
  cases a<;>simp only[cH] at hf<;>simp only[dY]
  case sl=>omega
  case sv=>omega
  case pt=>omega
  case agg cs=>rw[ih hf]
  case dI cs=>rw[ih hf]
  case fn f p q=>rw[ih hf.1,ih hf.2]
  case nA t x=>rw[dA k hf]
end Go.cw
