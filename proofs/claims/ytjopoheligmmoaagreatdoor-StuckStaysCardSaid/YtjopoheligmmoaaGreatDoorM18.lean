import Derived.Test.YtjopoheligmmoaaGreatDoorM16
import Derived.Test.YtjopoheligmmoaaGreatDoorM17
import Derived.IntWalk
namespace Go.cp
open Go.RowKit
section
def Go (p:Prop):Prop:=p
theorem ba {p:Prop} (h:p):Go p:=h
theorem aD {p q:Prop} (h1:Go p) (h2:Go q):p/\q:=⟨h1,h2⟩
theorem aA {es:List AV} {i:Nat} {d:AV} {K:AV->Prop} {e:AV} (h:es.getD i d=e) (k:Go (K e)):pN es i d K:=pN.of h k
theorem bc {H:Hp} {b:Nat} {K:TypeId->Nat->AV->List AV->Prop} {e:TypeId} {sz:Nat} {d:AV} {es:List AV} (h:bw H b=some (.row e sz d es)) (k:Go (K e sz d es)):fy H b K:=fy.of h k
theorem aW {α:Type} {x:Option α} {K:α->Prop} {a:α} (h:x=some a) (k:Go (K a)):jB x K:=jB.of h k
theorem wrap64 {n:Int} (h1:-9223372036854775808<=n) (h2:n<9223372036854775808):IntKind.i64.wrap n=n:=IntWalk.i64_in _ (by omega)
theorem PX {n:Int} (h1:0<=n) (h2:n<256):IntKind.u8.wrap n=n:=by
 simp only[IntKind.wrap,IntKind.signed,IntKind.bits]
 first|omega|(simp;omega)
theorem bR {g:Option Bool} {k:IntKind} {n:Int} {K:Int->Prop} (hK:Go (K (k.wrap n))):tC g k n K:=tC.of (fun _=>rfl) hK
theorem bE {g:Option Bool} {n:Int} {K:Int->Prop} (h1:Gd g->-9223372036854775808<=n) (h2:Gd g->n<9223372036854775808) (hK:Go (K n)):tC g .i64 n K:=tC.of (fun hg=>wrap64 (h1 hg) (h2 hg)) hK
theorem bF {g:Option Bool} {n:Int} {K:Int->Prop} (h1:Gd g->0<=n) (h2:Gd g->n<256) (hK:Go (K n)):tC g .u8 n K:=tC.of (fun hg=>PX (h1 hg) (h2 hg)) hK
theorem bY {t:Bool} {A B:Prop} (ht:t=true) (h:Go A):fF t A B:=by subst ht;exact fF.lt h
theorem bX {t:Bool} {A B:Prop} (ht:t=false) (h:Go B):fF t A B:=by subst ht;exact fF.lf h
theorem bn {t w:Bool} {A B J:Prop} (ht:t=w) (h:Go A):eR t w A B J:=by subst ht;exact⟨.inl ⟨fun _=>h,fun h=>absurd rfl h⟩⟩
theorem bk {t w:Bool} {A B J:Prop} (ht:t= !w) (h:Go B):eR t w A B J:=⟨.inl ⟨fun h2=>(by subst h2;cases t<;>cases ht),fun _=>h⟩⟩
theorem bt {A B:Prop} (h:Go A):fF true A B:=fF.lt h
theorem br {A B:Prop} (h:Go B):fF false A B:=fF.lf h
theorem aV {t:Bool} {A B:Prop} (h1:t=true->Go A) (h2:t=false->Go B):fF t A B:=fF.of h1 h2
theorem bu {A B J:Prop} (h:Go A):eR true true A B J:=eR.tt h
theorem bU {t want:Bool} {A B J:Prop} (h:Go J):eR t want A B J:=eR.join h
theorem bo {t want:Bool} {A B J:Prop} (h1:t=want->Go A) (h2:t= !want->Go B):eR t want A B J:=eR.split h1 h2
def z7 (K:List AV->Prop):Prop:=K []
def xL (a:AV) (_:List AV) (ih:(List AV->Prop)->Prop) (K:List AV->Prop):Prop:=fj a fun a=>ih fun r'=>K (a::r')
noncomputable def z6 (l:List AV):(List AV->Prop)->Prop:=List.rec (motive:=fun _=>(List AV->Prop)->Prop) z7 xL l
theorem uS:∀(l:List AV) (K:List AV->Prop),z6 l K=K l
 |[],_=>rfl
 |a::r,K=>by
  show fj a (fun a=>z6 r fun r'=>K (a::r'))=_
  rw[ee,uS r]
noncomputable def zY (v:AV) (K:AV->Prop):Prop:=
 match v with
 | .dO l=>z6 l fun l=>K (.dO l)
 |v=>fj v K
theorem uR (v:AV) (K:AV->Prop):zY v K=K v:=by
 cases v<;>first|rfl|exact uS _ _
structure KK (R:AV->Prop) (r:AV):Prop where
 ok:cK 0 r/\R r
theorem KK.eq {u:AV} {r:AV} (hf:cK 0 u) (h:r=u):KK (fun x=>x=u) r:=⟨by rw[h];exact hf,h⟩
structure GC (R:AV->Hp->Nat->Prop) (r:AV) (H:Hp) (nx:Nat):Prop where
 ok:R r H nx
noncomputable def PF (lrs:List jj) (R:AV->Prop):QT
 | .exit _,_,_,_=>False
 |_,fr,H,_=>jB (ig fr H lrs) fun rs=>zY (dX H 6 (pack rs)) (KK R)
theorem PG {lrs:List jj} {R:AV->Prop} {e:Ex} {fr:Fr} {H:Hp} {nx:Nat} (h:PF lrs R e fr H nx):MD lrs R e fr H nx:=by
 cases e
 case exit=>exact h
 all_goals
  obtain⟨rs,h1,h2⟩:=h.ok
  rw[uR] at h2
  simp only[MD,h1,mD]
  exact h2.ok
noncomputable def sd (lrs:List jj) (R:AV->Hp->Nat->Prop):QT
 | .exit _,_,_,_=>False
 |_,fr,H,nx=>jB (ig fr H lrs) fun rs=>zY (pack rs) fun r=>GC R r H nx
theorem wF {lrs:List jj} {R:AV->Hp->Nat->Prop} {e:Ex} {fr:Fr} {H:Hp} {nx:Nat} (h:sd lrs R e fr H nx):PE lrs R e fr H nx:=by
 cases e
 case exit=>exact h
 all_goals
  obtain⟨rs,h1,h2⟩:=h.ok
  rw[uR] at h2
  simp only[PE,h1,mD]
  exact h2.ok
section
variable {P:Program} {f:FuncId} {args:List AV} {H:Hp} {nx:Nat}
theorem aP {r:AV} {K:AV->Hp->Nat->Prop} (h:Pure P f args (fun x=>x=r)) (hf:c8 0 args) (hK:Go (K r H nx)):iE P f args H nx K:=iE.KF h hf hK
theorem aI {R K:AV->Hp->Nat->Prop} (h:cO P f args H nx R) (hK:∀r H' nx',R r H' nx'->Go (K r H' nx')):iE P f args H nx K:=iE.of h hK
theorem aO {g:Bool} {r:AV} {K:AV->Prop} (h:g=true->Pure P f args (fun x=>x=r)) (hf:c8 0 args) (hK:Go (K r)):nB P g f args H nx K:=nB.KF h hf hK
theorem aM {id:Nat} {r:AV} {K:AV->Option (Nat×e8)->List Nat->Prop} (h:Pure P f args (fun x=>x=r)) (hf:c8 0 args) (hK:Go (K r none [])):lL P id f args H K:=lL.KF h hf hK
theorem aN {g:Bool} {id:Nat} {r:AV} {K:AV->List Nat->Prop} (h:g=true->Pure P f args (fun x=>x=r)) (hf:c8 0 args) (hK:Go (K r [])):tX P g id f args H K:=tX.KF h hf hK
theorem bV {fn:Func} {lc:LC} {lrs:List jj} {R:AV->Prop} (hf:P.funcs[f]?=some fn) (hname:(fn.name== "runtime.NumGoroutine")=false)
 (hl:(fn.body.bind (cq P fn.ntmps))=some lc) (hr:gM P fn.results.toList=some lrs) {n:Nat} (hn:n=fn.ntmps) (ha:Nat.ble args.length n=true)
 (h:Go (W P n 0 lc (jI 0 args) [] 0 (PF lrs R))):Pure P f args R:=by
 subst hn
 exact Pure.oi hf hname hl hr (Nat.le_of_ble_eq_true ha) ((ew h).mono fun _ _ _ _=>PG)
theorem bj {fn:Func} {lc:LC} {lrs:List jj} {R:AV->Hp->Nat->Prop} (hf:P.funcs[f]?=some fn) (hname:(fn.name== "runtime.NumGoroutine")=false)
 (hl:(fn.body.bind (cq P fn.ntmps))=some lc) (hr:gM P fn.results.toList=some lrs) {n:Nat} (hn:n=fn.ntmps) (ha:Nat.ble args.length n=true)
 (h:Go (W P n nx lc (jI 0 args) H nx (sd lrs R))):cO P f args H nx R:=by
 subst hn
 exact cO.oi hf hname hl hr (Nat.le_of_ble_eq_true ha) ((ew h).mono fun _ _ _ _=>wF)
theorem bG {segs:List tG} {fr:Fr} {H:Hp} {nx:Nat} {Q:QT} (h:Go (WS P nx segs [] fr H fun ov H' nx'=>Q .normal (gk ov fr) H' nx')):gx P segs fr H nx Q:=gx.of h
theorem aL {n lo:Nat} {x:LC} {fr:Fr} {Q:QT} {σ:Type} (F:σ->Fr) (I:σ->Hp->Nat->Prop) (μ:σ->Nat) (s0:σ) (h0:j5 fr (F s0)) (h1:I s0 H nx)
 (round:∀s H nx,I s H nx->Go (W P n lo x (F s) H nx (gw (fun fr' H' nx'=>∃s',μ s'<μ s/\j5 fr' (F s')/\I s' H' nx') Q))):iF P n lo x fr H nx Q:=iF.fr F I μ s0 h0 h1 round
structure nu (P:Program) (n lo:Nat) (x:LC) (fr:Fr) (H:Hp) (nx:Nat) (Q:QT):Prop where
 ok:∀c1,cq P n c1=some x->∀w0 M0 c0 a w,Holds w0 M0 c0 lo n fr H nx a w->∀b k cs,∃e a' w',LQ w0 M0 c0 lo n Q e a' w'/\Arrives P (lone (b.at a (.code c1:: .inLoop c1::k)) cs w) b k cs e a' w'
theorem bq {n lo:Nat} {x:LC} {fr:Fr} {Q:QT} (h:nu P n lo x fr H nx Q):iF P n lo x fr H nx Q:=by
 refine⟨fun code hc w0 M0 c0 a w hh=> ?_⟩
 have:∃c1,code= .loop c1/\cq P n c1=some x:=by
  cases code<;>simp only[cq] at hc
  case loop c1=>
   simp only[Option.map_eq_some_iff,LC.loop.injEq] at hc
   obtain⟨x',h1,rfl⟩:=hc
   exact⟨c1,rfl,h1⟩
  all_goals (exfalso;repeat' (split at hc))<;>simp at hc
 obtain⟨c1,rfl,h1⟩:=this
 intro b k cs
 obtain⟨e,a',w',hq,harr⟩:=h.ok c1 h1 w0 M0 c0 a w hh b k cs
 exact⟨e,a',w',hq, .of_steps (.one step_loop) harr⟩
theorem ay {n lo:Nat} {x:LC} {fr:Fr} {Q:QT} (h:Go (W P n lo x fr H nx (gw (fun fr H nx=>nu P n lo x fr H nx Q) Q))):nu P n lo x fr H nx Q:=by
 refine⟨fun c1 h1 w0 M0 c0 a w hh b k cs=> ?_⟩
 obtain⟨e,a1,w1,hq,harr⟩:=ew h c1 h1 w0 M0 c0 a w hh b (.inLoop c1::k) cs
 obtain⟨x',fr',H',nx',rfl,hQ,hh'⟩:=hq
 cases x' with
 |normal=>
  obtain⟨e2,a2,w2,hq2,harr2⟩:=hQ.ok c1 h1 w0 M0 c0 a1 w1 hh' b k cs
  exact⟨e2,a2,w2,hq2, .of_steps (Steps.trans harr (.one step_inLoop)) harr2⟩
 |exit id=>exact⟨_,a1,w1,⟨.exit id,fr',H',nx',rfl,hQ,hh'⟩, .pass (x:= .inLoop c1) rfl (fun _ _=> .inl (by simp[Ex.to])) harr⟩
 |ret=>exact⟨_,a1,w1,⟨.ret,fr',H',nx',rfl,hQ,hh'⟩, .pass (x:= .inLoop c1) rfl (fun _ _=> .inl (by simp[Ex.to])) harr⟩
end
theorem dJ {α:Type} [Inhabited α] (f:α->AV) (l:List α) (i:Nat) (d:AV) (h:i<l.length):(l.map f).getD i d=f (l.getD i default):=by simp[List.getD,h]
theorem ct (H:Hp) (b:Nat) (k:Option e8):bw ((b,k)::H) b=k:=by simp[bw]
theorem DX {H:Hp} {b d:Nat} {v k:Option e8} (hne:b≠d) (h:bw H b=k):bw ((d,v)::H) b=k:=by simp[bw,hne,h]
end
def dN (c c2:Cx) (a a2:AV):Prop:=∀v,VR c a v->VR c2 a2 v
theorem dN.cT {c c2:Cx} (h:c.le c2) (a:AV):dN c c2 a a:=fun _ hv=>VR.cT h hv
theorem dN.any (c c2:Cx) (a:AV):dN c c2 a .any:=fun _ _=>by rw[VR];trivial
theorem dN.nil {c c2:Cx} {b:Nat} {e:TypeId} {sz:Nat} {d:AV} (hU:c2.U b) (hH:c2.H b=some (.row e sz d [])) (hρ:c2.ρ b=none):dN c c2 (.sc (.slice none 0 0)) (.sl b 0):=by
 intro v hv
 rw[VR] at hv
 subst hv
 rw[VR]
 refine⟨hU,none,0,rfl,fun e' sz' d' es' he=> ?_⟩
 rw[hH] at he
 cases he
 exact⟨by simp,fun _=> .inl ⟨hρ,rfl,rfl⟩⟩
theorem dN.im {w0:World} {c c2:Cx} (hS:dY w0 c) (hle:c.le c2) {b:Nat} {e:TypeId} {sz:Nat} {d:AV} {es:List AV} (d2:AV) (hw:c2.w=c.w) (hH:c.H b=some (.row e sz d es)) (hM:∀blk o z,c.ρ b=some (blk,o,z)->¬c2.M blk):dN c c2 (.sl b es.length) (.im sz d2 es):=by
 intro v hv
 rw[VR] at hv
 obtain⟨_,a,cap,rfl,hr⟩:=hv
 obtain⟨_,hr⟩:=hr _ _ _ _ hH
 obtain⟨_,hz,hrow⟩:=hS.jU b _ _ _ _ hH (sh (hr rfl))
 rw[VR]
 rcases hr rfl with⟨hρ,rfl,rfl⟩|⟨blk,o,z,hρ,rfl,hc1,_,_⟩
 ·rcases hrow with⟨_,rfl⟩|⟨_,_,_,hρ',_⟩
  ·exact⟨none,0,rfl,by simp, .inl rfl⟩
  ·rw[hρ] at hρ';cases hρ'
 ·rcases hrow with⟨hρ',_⟩|⟨blk1,o1,z1,hρ1,_,_,_,hrow⟩
  ·rw[hρ] at hρ';cases hρ'
  ·rw[hρ] at hρ1;cases hρ1
   exact⟨_,cap,rfl,hc1, .inr ⟨blk,o,rfl,hz,hM _ _ _ hρ,da.cT hle (by rw[hw]) hrow⟩⟩
inductive dK (c c2:Cx):List AV->List AV->Prop where
 |nil:dK c c2 [] []
 |cons {a a2:AV} {as as2:List AV} (h:dN c c2 a a2) (hs:dK c c2 as as2):dK c c2 (a::as) (a2::as2)
theorem dK.length {c c2:Cx} {as as2:List AV} (h:dK c c2 as as2):as.length=as2.length:=by
 induction h with
 |nil=>rfl
 |cons _ _ ih=>simp[ih]
theorem dK.cT {c c2:Cx} (h:c.le c2):∀(as:List AV),dK c c2 as as
 |[]=> .nil
 |a::as=> .cons (dN.cT h a) (dK.cT h as)
theorem dK.T5 {c c2:Cx} {as as2:List AV} (h:dK c c2 as as2):∀{vs:List Value},cg c as vs->cg c2 as2 vs:=by
 induction h with
 |nil=>intro vs hv;rw[cg] at hv ⊢;exact hv
 |cons h1 _ ih=>
  intro vs hv
  rw[cg] at hv
  obtain⟨v,vs',rfl,g1,g2⟩:=hv
  rw[cg]
  exact⟨v,vs',rfl,h1 v g1,ih g2⟩
theorem dK.append {c c2:Cx} {as as2 bs bs2:List AV} (h:dK c c2 as as2) (h2:dK c c2 bs bs2):dK c c2 (as++bs) (as2++bs2):=by
 induction h with
 |nil=>exact h2
 |cons h1 _ ih=>exact .cons h1 ih
theorem dK.AA {c c2:Cx}:∀{as as2:List AV},as.length=as2.length->(∀i,i<as.length->dN c c2 (as.getD i .any) (as2.getD i .any))->dK c c2 as as2
 |[],[],_,_=> .nil
 |[],_::_,h,_=>by simp at h
 |_::_,[],h,_=>by simp at h
 |a::as,b::bs,hl,h=> .cons (by simpa using h 0 (by simp)) (dK.AA (by simpa using hl) fun i hi=>by simpa using h (i+1) (by simpa using hi))
theorem dN.agg {c c2:Cx} {as as2:List AV} (h:dK c c2 as as2):dN c c2 (.agg as) (.agg as2):=by
 intro v hv
 rw[VR] at hv ⊢
 obtain⟨vs,rfl,hr⟩:=hv
 exact⟨vs,rfl,h.T5 hr⟩
theorem dN.dO {c c2:Cx} {as as2:List AV} (h:dK c c2 as as2):dN c c2 (.dO as) (.dO as2):=by
 intro v hv
 rw[VR] at hv ⊢
 obtain⟨vs,rfl,hr⟩:=hv
 exact⟨vs,rfl,h.T5 hr⟩
theorem dK.row {c c2:Cx} (hw:c2.w=c.w) {sz:Nat} {blk:Nat} {as as2:List AV} (h:dK c c2 as as2):∀{o:Nat},da c sz as blk o->da c2 sz as2 blk o:=by
 induction h with
 |nil=>intro o _;rw[da];trivial
 |cons h1 _ ih=>
  intro o hr
  rw[da] at hr ⊢
  obtain⟨⟨v,g1,g2⟩,g3⟩:=hr
  exact⟨⟨v,by rw[hw];exact g1,h1 v g2⟩,ih g3⟩
structure qw (c c2:Cx):Prop where
 w:c2.w=c.w
 m0:c2.M0=c.M0
 U:∀b,c.U b->c2.U b
 gD:∀b,c.U b->c2.ρ b=c.ρ b
 row:∀b e sz d es,c2.H b=some (.row e sz d es)->c2.U b/\((∃d0 es0,c.H b=some (.row e sz d0 es0)/\c.U b/\es0.length=es.length)\/(es=[]/\¬c.U b/\c2.ρ b=none/\0<sz))
theorem qw.le {c c2:Cx} (h:qw c c2):c.le c2:=by
 refine⟨h.U,by rw[h.w];exact Nat.le_refl _,fun b hm _=>⟨by rw[h.w], ?_⟩,fun b hu e sz d es he=> ?_⟩
 ·rintro(h0|⟨x,k,o,z,hk,hρ⟩)
  ·exact hm (.inl (by rw[<-h.m0];exact h0))
  ·obtain⟨e,sz,d,es⟩:=k
   obtain⟨_,⟨d0,es0,h1,h2,_⟩|⟨_,_,h3,_⟩⟩:=h.row x e sz d es hk
   ·exact hm (.inr ⟨x,_,o,z,h1,by rw[<-h.gD x h2];exact hρ⟩)
   ·rw[h3] at hρ;cases hρ
 ·obtain⟨_,⟨d0,es0,h1,h2,h3⟩|⟨_,h2,_⟩⟩:=h.row b e sz d es he
  ·exact⟨e,d0,es0,h1, .inl ⟨h3,h.gD b hu⟩⟩
  ·exact absurd hu h2
theorem qw.PI {w0:World} {c c2:Cx} (h:qw c c2) (hS:dY w0 c) (hv:∀b e sz d es d0 es0,c2.H b=some (.row e sz d es)->c.H b=some (.row e sz d0 es0)->dK c c2 es0 es):dY w0 c2:=by
 refine⟨by rw[h.w];exact hS.below,by rw[h.m0];exact hS.m0,fun b e sz d es he=> ?_,fun b b' k k' blk o z o' z' hk hk' hρ hρ'=> ?_⟩
 ·obtain⟨hU,⟨d0,es0,h1,h2,h3⟩|⟨rfl,h2,h3,h4⟩⟩:=h.row b e sz d es he
  ·have hav:=hv b e sz d es d0 es0 he h1
   obtain⟨_,⟨g2,g3⟩|⟨g2,g3⟩⟩:=hS.row b e sz d0 es0 h1
   ·refine⟨hU, .inl ⟨g2, ?_⟩⟩
    rw[h.gD b h2,h.w]
    rcases g3 with⟨g4,g5⟩|⟨blk,o,z,g4,g5,g6,g7,g8⟩
    ·subst g5
     exact .inl ⟨g4,List.eq_nil_of_length_eq_zero (by simpa using h3.symm)⟩
    ·exact .inr ⟨blk,o,z,g4,g5,g6,by rw[<-h3];exact g7,hav.row h.w g8⟩
   ·obtain⟨r,x,ms,clk,g4,g5,g6,rfl,g8,g9⟩:=g3
    cases hav with
    |cons k1 k2=>
     cases k2
     exact⟨hU, .inr ⟨g2,r,_,ms,clk,(h.gD b h2).trans g4,g5,by rw[h.w];exact g6,rfl,k1 _ g8,g9⟩⟩
  ·exact⟨hU, .inl ⟨h4, .inl ⟨h3,rfl⟩⟩⟩
 ·obtain⟨e,sz,d,es⟩:=k
  obtain⟨e',sz',d',es'⟩:=k'
  obtain⟨_,⟨_,_,h1,h2,_⟩|⟨_,_,h3,_⟩⟩:=h.row b _ _ _ _ hk
  ·obtain⟨_,⟨_,_,g1,g2,_⟩|⟨_,_,g3,_⟩⟩:=h.row b' _ _ _ _ hk'
   ·exact hS.inj b b' _ _ blk o z o' z' h1 g1 (by rw[<-h.gD b h2];exact hρ) (by rw[<-h.gD b' g2];exact hρ')
   ·rw[g3] at hρ';cases hρ'
  ·rw[h3] at hρ;cases hρ
def Wk (r:AV) (H:Hp) (nx:Nat) (r2:AV) (H2:Hp) (nx2:Nat):Prop:=
 ∀w0 ρ U w M0,(∀b,U b->b<nx)->dY w0 ⟨ρ,bw H,U,w,M0⟩->
  ∃ρ2 U2,(∀b,U2 b->b<nx2)/\dY w0 ⟨ρ2,bw H2,U2,w,M0⟩/\Cx.le ⟨ρ,bw H,U,w,M0⟩ ⟨ρ2,bw H2,U2,w,M0⟩/\dN ⟨ρ,bw H,U,w,M0⟩ ⟨ρ2,bw H2,U2,w,M0⟩ r r2
theorem cO.wk {P:Program} {f:FuncId} {args:List AV} {H:Hp} {nx:Nat} {R R2:AV->Hp->Nat->Prop} (h:cO P f args H nx R) (hR:∀r H' nx',R r H' nx'->∃r2 H2 nx2,Wk r H' nx' r2 H2 nx2/\R2 r2 H2 nx2):cO P f args H nx R2:=by
 refine⟨h.1,fun w0 c vs a1 a2 a3 a4=>(h.2 w0 c vs a1 a2 a3 a4).mono ?_⟩
 rintro e w' ⟨v,r,H',nx',ρ,U,rfl,hRr,hU,hS,hle,hv⟩
 obtain⟨r2,H2,nx2,hw,hR2⟩:=hR r H' nx' hRr
 obtain⟨ρ2,U2,k1,k2,k3,k4⟩:=hw w0 ρ U w' c.M0 hU hS
 exact⟨v,r2,H2,nx2,ρ2,U2,rfl,hR2,k1,k2,hle.trans k3,k4 v hv⟩
def kI:List AV->Prop
 |[]=>True
 | .sc _::r=>kI r
 |_::_=>False
def fT:AV->Prop
 | .sc _=>True
 | .agg cs=>kI cs
 | .dO cs=>∀a∈cs,(∃u,a= .sc u)\/∃ds,a= .agg ds/\kI ds
 |_=>False
theorem mV {c c2:Cx}:∀{cs:List AV} {vs:List Value},kI cs->cg c cs vs->cg c2 cs vs
 |[],vs,_,h=>by rw[cg] at h ⊢;exact h
 | .sc u::r,vs,hf,h=>by
  rw[cg] at h ⊢
  obtain⟨v,vs',rfl,h1,h2⟩:=h
  exact⟨v,vs',rfl,by rw[VR] at h1 ⊢;exact h1,mV hf h2⟩
theorem ln {c c2:Cx} {r:AV} {v:Value} (hf:fT r) (h:VR c r v):VR c2 r v:=by
 have one:∀{a:AV} {v:Value},((∃u,a= .sc u)\/∃ds,a= .agg ds/\kI ds)->VR c a v->VR c2 a v:=by
  rintro a v (⟨u,rfl⟩|⟨ds,rfl,hd⟩) h
  ·rw[VR] at h ⊢;exact h
  ·rw[VR] at h ⊢;obtain⟨vs,rfl,hr⟩:=h;exact⟨vs,rfl,mV hd hr⟩
 cases r<;>simp only[fT] at hf
 case sc u=>exact one (.inl ⟨u,rfl⟩) h
 case agg cs=>exact one (.inr ⟨cs,rfl,hf⟩) h
 case dO cs=>
  rw[VR] at h ⊢
  obtain⟨vs,rfl,hr⟩:=h
  refine⟨vs,rfl, ?_⟩
  generalize vs.toList=l at hr
  induction cs generalizing l with
  |nil=>rw[cg] at hr ⊢;exact hr
  |cons a cs ih=>
   rw[cg] at hr ⊢
   obtain⟨v,vs',rfl,h1,h2⟩:=hr
   exact⟨v,vs',rfl,one (hf a (by simp)) h1,ih (fun b hb=>hf b (by simp[hb])) _ h2⟩
theorem kK {w0:World} {c:Cx} {H:Hp} (h:dY w0 c) (hH:c.H=bw H):∀{as:List AV} {vs:List Value},c8 0 (as.map (dX H 6))->cg c as vs->cg (base c.w c.M0) (as.map (dX H 6)) vs
 |[],vs,_,hv=>by rw[cg] at hv;subst hv;simp only[List.map_nil];rw[cg]
 |a::as,vs,hf,hv=>by
  rw[cg] at hv
  obtain⟨v,vs',rfl,h1,h2⟩:=hv
  simp only[List.map_cons,c8] at hf ⊢
  rw[cg]
  exact⟨v,vs',rfl,kL h hH 6 hf.1 h1,kK h hH hf.2 h2⟩
theorem Pure.view {P:Program} {f:FuncId} {args args2:List AV} {r:AV} {H:Hp} {nx:Nat} {K:AV->Hp->Nat->Prop} (h:Pure P f args2 (fun x=>x=r)) (ha:args.map (dX H 6)=args2) (hf:c8 0 args2) (hr:fT r) (hK:K r H nx):cO P f args H nx K:=by
 refine⟨h.1,fun w0 c vs hS hH hU hv=> ?_⟩
 subst ha
 refine(h.2 c.M0 c.w vs hS.kx (kK hS hH hf hv)).mono fun e w' hh=> ?_
 obtain⟨v,r',rfl,rfl,_,hvr,hb⟩:=hh
 obtain⟨s1,s2⟩:=hS.world hb
 refine⟨v,r',H,nx,c.ρ,c.U,rfl,hK,hU, ?_, ?_,ln hr hvr⟩
 ·rw[<-hH];exact s1
 ·rw[<-hH];exact s2
theorem Pure.TR {P:Program} {f:FuncId} {args args2:List AV} {r:AV} {H:Hp} {id:Nat} (h:Pure P f args2 (fun x=>x=r)) (ha:args.map (dX H 6)=args2) (hf:c8 0 args2) (hr:fT r):jy P f args H id (fun r' H'=>r'=r/\H'=H):=by
 refine⟨h.1,fun w0 c vs hS hH hU hv=> ?_⟩
 subst ha
 refine(h.2 c.M0 c.w vs hS.kx (kK hS hH hf hv)).mono fun e w' hh=> ?_
 obtain⟨v,r',rfl,rfl,_,hvr,hb⟩:=hh
 obtain⟨s1,s2⟩:=hS.world hb
 obtain⟨t1,t2⟩:=s1.used (U:=fun x=>c.U x\/x=id) fun _ h=> .inl h
 refine⟨v,r',H,c.ρ,rfl,⟨rfl,rfl⟩, ?_, ?_,ln hr hvr⟩
 ·rw[<-hH];exact t1
 ·rw[<-hH];exact s2.trans t2
theorem aS {P:Program} {f:FuncId} {args:List AV} {H:Hp} {nx:Nat} {args2:List AV} {r:AV} {K:AV->Hp->Nat->Prop} (h:Pure P f args2 (fun x=>x=r)) (ha:args.map (dX H 6)=args2) (hf:c8 0 args2) (hr:fT r) (hK:Go (K r H nx)):iE P f args H nx K:=⟨h.view ha hf hr hK⟩
theorem bI {P:Program} {f:FuncId} {args:List AV} {H:Hp} {nx:Nat} {g:Bool} {args2:List AV} {r:AV} {K:AV->Prop} (h:g=true->Pure P f args2 (fun x=>x=r)) (ha:args.map (dX H 6)=args2) (hf:c8 0 args2) (hr:fT r) (hK:Go (K r)):nB P g f args H nx K:=
 ⟨⟨r,fun hg K' hK'=>by
   have:=(h hg).view (H:=H) (nx:=nx) (K:=fun r' H' n=>∃n',n<=n'/\K' r' H' n') ha hf hr ⟨_,Nat.le_succ _,hK'⟩
   refine⟨this.1,fun w0 c vs a1 a2 a3 a4=>(this.2 w0 c vs a1 a2 a3 a4).mono ?_⟩
   rintro e w' ⟨v,r,H',nx',ρ,U,he,⟨n',hn,hR⟩,hU,hrest⟩
   exact⟨v,r,H',n',ρ,U,he,hR,fun b hb=>Nat.lt_of_lt_of_le (hU b hb) hn,hrest⟩,hK⟩⟩
theorem aZ {P:Program} {f:FuncId} {args:List AV} {H:Hp} {id:Nat} (S:List Nat) {args2:List AV} {r:AV} {K:AV->Option (Nat×e8)->List Nat->Prop} (h:Pure P f args2 (fun x=>x=r)) (ha:∀H1,(∀b∈S,bw H1 b=bw H b)->args.map (dX H1 6)=args2) (hf:c8 0 args2) (hr:fT r) (hK:Go (K r none S)):lL P id f args H K:=
 lL.fresh S (fun H1 h1=>h.TR (ha H1 h1) hf hr) (fun _ _ h=>by cases h) hK
mutual
/-- Every name in it is one of these. -/
def gp (p:Nat->Prop):AV->Prop
 | .sc _=>True
 | .any=>True
 | .im _ _ es=>iY p es
 | .ip _ _ es _ _=>iY p es
 | .sl b _=>p b
 | .pt b _ _ _=>p b
 | .zc=>True
 | .agg cs=>iY p cs
 | .dO cs=>iY p cs
 | .fn _ x q=>iY p x/\iY p q
 | .lY _ x=>gp p x
 | .mp b=>p b
 | .ab=>True
 | .sv b _ _ _=>p b
def iY (p:Nat->Prop):List AV->Prop
 |[]=>True
 |a::as=>gp p a/\iY p as
end
mutual
theorem VR.zw {c:Cx}:∀{a:AV} {v:Value},VR c a v->gp c.U a
 | .sc u,v,_=>by rw[gp];trivial
 | .any,_,_=>by rw[gp];trivial
 | .im sz d es,v,hv=>by
  rw[VR] at hv
  rw[gp]
  obtain⟨_,_,_,_,h0|⟨blk,o,_,_,_,hr⟩⟩:=hv
  ·subst h0;rw[iY];trivial
  ·exact da.zw hr
 | .ip sz d es i off,v,hv=>by
  rw[VR] at hv
  rw[gp]
  obtain⟨_,_,blk,o,_,_,hr⟩:=hv
  exact da.zw hr
 | .sl b len,v,hv=>by rw[VR] at hv;rw[gp];exact hv.1
 | .pt b len i off,v,hv=>by rw[VR] at hv;rw[gp];exact hv.1
 | .zc,v,_=>by rw[gp];trivial
 | .agg cs,v,hv=>by rw[VR] at hv;rw[gp];obtain⟨_,_,hr⟩:=hv;exact cg.zw hr
 | .dO cs,v,hv=>by rw[VR] at hv;rw[gp];obtain⟨_,_,hr⟩:=hv;exact cg.zw hr
 | .fn f p q,v,hv=>by rw[VR] at hv;rw[gp];obtain⟨_,_,_,h1,h2⟩:=hv;exact⟨cg.zw h1,cg.zw h2⟩
 | .lY t x,v,hv=>by rw[VR] at hv;rw[gp];obtain⟨_,_,h1⟩:=hv;exact VR.zw h1
 | .mp b,v,hv=>by rw[VR] at hv;rw[gp];exact hv.1
 | .ab,v,_=>by rw[gp];trivial
 | .sv b len lo n,v,hv=>by rw[VR] at hv;rw[gp];exact hv.1
theorem da.zw {c:Cx} {sz blk:Nat}:∀{es:List AV} {o:Nat},da c sz es blk o->iY c.U es
 |[],_,_=>by rw[iY];trivial
 |e::es,o,hr=>by
  rw[da] at hr
  rw[iY]
  obtain⟨⟨v,_,h2⟩,h3⟩:=hr
  exact⟨VR.zw h2,da.zw h3⟩
theorem cg.zw {c:Cx}:∀{as:List AV} {vs:List Value},cg c as vs->iY c.U as
 |[],vs,_=>by rw[iY];trivial
 |a::as,vs,hv=>by
  rw[cg] at hv
  rw[iY]
  obtain⟨v,vs',_,h1,h2⟩:=hv
  exact⟨VR.zw h1,cg.zw h2⟩
end
mutual
theorem VR.AL {c:Cx} {U:Nat->Prop}:∀{a:AV} {v:Value},gp U a->VR c a v->VR { c with U:=U } a v
 | .sc u,v,_,hv=>by rw[VR] at hv ⊢;exact hv
 | .any,_,_,_=>by rw[VR];trivial
 | .im sz d es,v,hn,hv=>by
  rw[gp] at hn
  rw[VR] at hv ⊢
  obtain⟨a,cap,h1,h2,h3⟩:=hv
  refine⟨a,cap,h1,h2, ?_⟩
  rcases h3 with h3|⟨blk,o,h4,h5,h6,h7⟩
  ·exact .inl h3
  ·exact .inr ⟨blk,o,h4,h5,h6,da.AL hn h7⟩
 | .ip sz d es i off,v,hn,hv=>by
  rw[gp] at hn
  rw[VR] at hv ⊢
  obtain⟨h1,h2,blk,o,h3,h4,h5⟩:=hv
  exact⟨h1,h2,blk,o,h3,h4,da.AL hn h5⟩
 | .sl b len,v,hn,hv=>by rw[gp] at hn;rw[VR] at hv ⊢;exact⟨hn,hv.2⟩
 | .pt b len i off,v,hn,hv=>by rw[gp] at hn;rw[VR] at hv ⊢;exact⟨hn,hv.2⟩
 | .zc,v,_,hv=>by rw[VR] at hv ⊢;exact hv
 | .agg cs,v,hn,hv=>by rw[gp] at hn;rw[VR] at hv ⊢;obtain⟨vs,h1,h2⟩:=hv;exact⟨vs,h1,cg.AL hn h2⟩
 | .dO cs,v,hn,hv=>by rw[gp] at hn;rw[VR] at hv ⊢;obtain⟨vs,h1,h2⟩:=hv;exact⟨vs,h1,cg.AL hn h2⟩
 | .fn f p q,v,hn,hv=>by rw[gp] at hn;rw[VR] at hv ⊢;obtain⟨ps,qs,h1,h2,h3⟩:=hv;exact⟨ps,qs,h1,cg.AL hn.1 h2,cg.AL hn.2 h3⟩
 | .lY t x,v,hn,hv=>by rw[gp] at hn;rw[VR] at hv ⊢;obtain⟨u,h1,h2⟩:=hv;exact⟨u,h1,VR.AL hn h2⟩
 | .mp b,v,hn,hv=>by rw[gp] at hn;rw[VR] at hv ⊢;exact⟨hn,hv.2⟩
 | .ab,v,_,hv=>by rw[VR] at hv ⊢;exact hv
 | .sv b len lo n,v,hn,hv=>by rw[gp] at hn;rw[VR] at hv ⊢;exact⟨hn,hv.2⟩
theorem da.AL {c:Cx} {U:Nat->Prop} {sz blk:Nat}:∀{es:List AV} {o:Nat},iY U es->da c sz es blk o->da { c with U:=U } sz es blk o
 |[],_,_,_=>by rw[da];trivial
 |e::es,o,hn,hr=>by
  rw[iY] at hn
  rw[da] at hr ⊢
  obtain⟨⟨v,h1,h2⟩,h3⟩:=hr
  exact⟨⟨v,h1,VR.AL hn.1 h2⟩,da.AL hn.2 h3⟩
theorem cg.AL {c:Cx} {U:Nat->Prop}:∀{as:List AV} {vs:List Value},iY U as->cg c as vs->cg { c with U:=U } as vs
 |[],vs,_,hv=>by rw[cg] at hv ⊢;exact hv
 |a::as,vs,hn,hv=>by
  rw[iY] at hn
  rw[cg] at hv ⊢
  obtain⟨v,vs',h0,h1,h2⟩:=hv
  exact⟨v,vs',h0,VR.AL hn.1 h1,cg.AL hn.2 h2⟩
end
theorem cO.KF {P:Program} {f:FuncId} {args:List AV} {r:AV} {H:Hp} {nx:Nat} {K:AV->Hp->Nat->Prop} (h:cO P f args H nx (fun r' H' _=>r'=r/\H'=H)) (hr:fT r) (hK:K r H nx):cO P f args H nx K:=by
 refine⟨h.1,fun w0 c vs hS hH hU hv=>(h.2 w0 c vs hS hH hU hv).mono ?_⟩
 rintro e w' ⟨v,r',H',nx',ρ,U,rfl,⟨rfl,rfl⟩,_,hS',hle,hvr⟩
 have hrows:∀b e sz d es,bw H' b=some (.row e sz d es)->c.U b/\(∀blk o z,c.ρ b=some (blk,o,z)->iY c.U es)/\(c.ρ b=none->es=[]):=by
  intro b e sz d es he
  obtain⟨g1,⟨_,g3⟩|⟨_,r,x,ms,clk,g3,_,_,rfl,g5,_⟩⟩:=hS.row b e sz d es (by rw[hH];exact he)
  ·refine⟨g1,fun blk o z hρ=> ?_,fun hρ=> ?_⟩
   ·rcases g3 with⟨g4,rfl⟩|⟨_,_,_,_,_,_,_,g5⟩
    ·rw[iY];trivial
    ·exact g5.zw
   ·rcases g3 with⟨_,g4⟩|⟨_,_,_,g4,_⟩
    ·exact g4
    ·rw[hρ] at g4;cases g4
  ·refine⟨g1,fun blk o z hρ=> ?_,fun hρ=> ?_⟩
   ·simp only[iY,and_true];exact g5.zw
   ·rw[hρ] at g3;cases g3
 have hnam:∀b e sz d es,bw H' b=some (.row e sz d es)->iY c.U es:=by
  intro b e sz d es he
  obtain⟨_,h2,h3⟩:=hrows b e sz d es he
  cases hρ:c.ρ b with
  |none=>rw[h3 hρ,iY];trivial
  |some x=>exact h2 _ _ _ hρ
 refine⟨v,r',H',nx,ρ,c.U,rfl,hK,hU,⟨hS'.below,hS'.m0,fun b e sz d es he=> ?_,hS'.inj⟩,⟨fun _ h=>h,hle.sz,hle.blk,hle.row⟩,ln hr hvr⟩
 obtain⟨_,⟨g2,g3⟩|⟨g2,r,x,ms,clk,g4,g5,g6,rfl,g8,g9⟩⟩:=hS'.row b e sz d es he
 ·refine⟨(hrows b e sz d es he).1, .inl ⟨g2, ?_⟩⟩
  rcases g3 with g3|⟨blk,o,z,g4,g5,g6,g7,g8⟩
  ·exact .inl g3
  ·exact .inr ⟨blk,o,z,g4,g5,g6,g7,da.AL (hnam b e sz d es he) g8⟩
 ·have hn:=hnam b e sz d _ he
  simp only[iY,and_true] at hn
  exact⟨(hrows b e sz d _ he).1, .inr ⟨g2,r,x,ms,clk,g4,g5,g6,rfl,VR.AL hn g8,g9⟩⟩
theorem cO.more {P:Program} {f:FuncId} {args:List AV} {H:Hp} {nx:Nat} {K K':AV->Hp->Nat->Prop} (h:cO P f args H nx K) (hk:∀r H n,K r H n->∃n',n<=n'/\K' r H n'):cO P f args H nx K':=by
 refine⟨h.1,fun w0 c vs a1 a2 a3 a4=>(h.2 w0 c vs a1 a2 a3 a4).mono ?_⟩
 rintro e w' ⟨v,r,H',nx',ρ,U,he,hR,hU,hrest⟩
 obtain⟨n',hn,hR'⟩:=hk _ _ _ hR
 exact⟨v,r,H',n',ρ,U,he,hR',fun b hb=>Nat.lt_of_lt_of_le (hU b hb) hn,hrest⟩
theorem bS {P:Program} {f:FuncId} {args:List AV} {H:Hp} {nx:Nat} {g:Bool} {r:AV} {K:AV->Prop} (h:g=true->cO P f args H nx (fun r' H' _=>r'=r/\H'=H)) (hr:fT r) (hK:Go (K r)):nB P g f args H nx K:=
 ⟨⟨r,fun hg K' hK'=>((h hg).KF (K:=fun r' H' n=>r'=r/\H'=H/\n=nx) hr ⟨rfl,rfl,rfl⟩).more (by rintro _ _ _ ⟨rfl,rfl,rfl⟩;exact⟨_,Nat.le_succ _,hK'⟩),hK⟩⟩
theorem bT {P:Program} {f:FuncId} {args:List AV} {H:Hp} {nx:Nat} {r:AV} {K:AV->Hp->Nat->Prop} (h:cO P f args H nx (fun r' H' _=>r'=r/\H'=H)) (hr:fT r) (hK:Go (K r H nx)):iE P f args H nx K:=⟨h.KF hr hK⟩
def vC (P:Program) (f:FuncId) (args:List AV) (H:Hp) (nx:Nat) (r:AV):Prop:=cO P f args H nx (fun r' H' _=>r'=r/\∀b,b<nx->bw H' b=bw H b)
theorem vC.exact {P:Program} {f:FuncId} {args:List AV} {H:Hp} {nx:Nat} {r:AV} (h:vC P f args H nx r):cO P f args H nx (fun r' H' _=>r'=r/\H'=H):=by
 refine⟨h.1,fun w0 c vs hS hH hU hv=>(h.2 w0 c vs hS hH hU hv).mono ?_⟩
 rintro e w' ⟨v,r',H',nx',ρ,U,rfl,⟨rfl,hk⟩,hU',hS',hle,hvr⟩
 have h2:∀b,bw H b=bw H' b\/bw H b=none:=by
  intro b
  by_cases hb:b<nx
  ·exact .inl (hk b hb).symm
  ·cases hg:bw H b with
   |none=>exact .inr rfl
   |some k=>
    exfalso
    obtain⟨e,sz,d,es⟩:=k
    exact hb (hU b (hS.row b e sz d es (by rw[hH];exact hg)).1)
 obtain⟨s1,s2⟩:=hS'.drop h2
 exact⟨v,_,_,nx',ρ,U,rfl,⟨rfl,rfl⟩,hU',s1,hle.trans s2,VR.cT s2 hvr⟩
theorem aY {P:Program} {f:FuncId} {args:List AV} {H:Hp} {nx:Nat} {r:AV} {K:AV->Hp->Nat->Prop} (h:vC P f args H nx r) (hr:fT r) (hK:Go (K r H nx)):iE P f args H nx K:=bT h.exact hr hK
theorem aX {P:Program} {f:FuncId} {args:List AV} {H:Hp} {nx:Nat} {g:Bool} {r:AV} {K:AV->Prop} (h:g=true->vC P f args H nx r) (hr:fT r) (hK:Go (K r)):nB P g f args H nx K:=bS (fun hg=>(h hg).exact) hr hK
theorem cZ {H:Hp} {b d:Nat} {v:Option e8} (hne:b≠d):bw ((d,v)::H) b=bw H b:=by simp[bw,hne]
theorem GC.look {r r':AV} {H H':Hp} {nx nx':Nat} (h:r'=r) (hk:∀b,b<nx->bw H' b=bw H b):GC (fun r' H' _=>r'=r/\∀b,b<nx->bw H' b=bw H b) r' H' nx':=⟨⟨h,hk⟩⟩
theorem KU (d:Nat) (k:IntKind) (i:Nat):jk d (some (.sc (.int k (i:Int))))=some i:=by
 simp only[jk];rw[if_pos (by omega)];simp
theorem PK {H:Hp} {s:Nat} {d:AV} {es:List AV} {lo hi:Option AV} {l h:Nat} (h1:jk 0 lo=some l) (h2:jk es.length hi=some h) (h3:l<=h/\h<=es.length):si H s lo hi (.im s d es)=some (.im s d ((es.drop l).take (h - l))):=by
 simp only[si,h1,h2];rw[if_pos ⟨trivial,h3⟩]
structure TY (a b:Nat):Prop where
 ne:a≠b
def uc (b:Nat):List Nat->Prop
 |[]=>True
 |x::l=>TY b x/\uc b l
def OM (s t:List Nat×Option Nat):Prop:=match s.2,t.2 with
 |none,none=>True
 |some b,none=>uc b t.1
 |none,some b=>uc b s.1
 |some b,some b'=>uc b t.1/\uc b' s.1/\TY b b'
def zP (tr:Tr):List (Nat×Nat)->Prop
 |[]=>True
 |p::ps=>OM (tr.getD p.1 ([],none)) (tr.getD p.2 ([],none))/\zP tr ps
theorem kS {b:Nat}:∀{l:List Nat},uc b l->b∉l
 |[],_=>by simp
 |x::l,h=>by
  have h1:=h.1.ne
  have h2:=kS h.2
  simp[h1,h2]
theorem DO {s t:List Nat×Option Nat} (h:OM s t):zQ s t:=by
 obtain⟨s1,s2⟩:=s
 obtain⟨t1,t2⟩:=t
 cases s2<;>cases t2<;>simp only[OM] at h<;>simp only[zQ]
 ·simp
 ·refine⟨by simp, ?_,by simp⟩
  rintro b ⟨⟩;exact kS h
 ·refine⟨?_,by simp,by simp⟩
  rintro b ⟨⟩;exact kS h
 ·refine⟨?_, ?_, ?_⟩
  ·rintro b ⟨⟩;exact kS h.1
  ·rintro b ⟨⟩;exact kS h.2.1
  ·rintro b ⟨h1,h2⟩
   cases h1;cases h2;exact h.2.2.ne rfl
theorem ru {tr:Tr}:∀{ps:List (Nat×Nat)},zP tr ps->iO tr ps
 |[],_=>by intro p hp;cases hp
 |q::ps,h=>by
  intro p hp
  rcases List.mem_cons.1 hp with rfl|hp
  ·exact DO h.1
  ·exact ru h.2 p hp
noncomputable def AQ (tr:Tr):Tr->(Tr->Prop)->Prop:=List.rec (motive:=fun _=>Tr->(Tr->Prop)->Prop) (fun acc K=>K acc) (fun x _ ih acc K=>ih (x::acc) K) tr
theorem CS:∀(tr acc:Tr) (K:Tr->Prop),AQ tr acc K=K (tr.reverse++acc)
 |[],acc,K=>rfl
 |x::tr,acc,K=>by
  show AQ tr (x::acc) K=_
  rw[CS tr];simp
theorem ar {tr:Tr} {ps:List (Nat×Nat)} (h:Go (AQ tr [] fun t=>zP t ps)):Ask (iO tr.reverse ps):=⟨ru (by have h2:AQ tr [] fun t=>zP t ps:=h;rw[CS,List.append_nil] at h2;exact h2)⟩
theorem JN {fr:Fr} {H:Hp}:ig fr H []=some []:=rfl
theorem JO {fr:Fr} {H:Hp} {t:Nat} {r:List jj} {q:List AV} (h:ig fr H r=some q):ig fr H (.tmp t::r)=some (cc fr t::q):=by simp only[ig,h]
theorem E9 {fr:Fr} {H:Hp} {t k b len i off sz:Nat} {ag:Bool} {e:TypeId} {d x:AV} {es q:List AV} {r:List jj} (h1:cc fr t= .pt b len i off) (h2:bw H b=some (.row e sz d es)) (h3:es.length=len)
 (h4:xg ag k (es.getD i d) sz off=some x) (h5:ig fr H r=some q):ig fr H (.cell t ag k::r)=some (x::q):=by
 have:j6 H (.pt b len i off)=some (sz,es.getD i d,off):=by simp only[j6,h2,h3];simp
 simp only[ig,h1,this,h4,h5]
theorem GO {l:List AV} {n k m:Nat} (hl:l.length=m) (h:(n+m) * k<=175921860444160):(n+l.length) * k<=gC:=by rw[hl];exact h
theorem PL {H:Hp} {s b len:Nat} {e:TypeId} {d:AV} {es:List AV} {lo hi:Option AV} {l h:Nat} (h0:bw H b=some (.row e s d es)) (hl:es.length=len) (h1:jk 0 lo=some l) (h2:jk len hi=some h) (h3:l<=h/\h<=len):si H s lo hi (.sl b len)=some (.sv b len l (h - l)):=by
 simp only[si,h0,h1,h2];rw[if_pos ⟨hl,trivial,h3⟩]
theorem vx {H:Hp} {b len sz:Nat} {e:TypeId} {d:AV} {es:List AV} (h:bw H b=some (.row e sz d es)) (h2:es.length=len/\0<len):sW H (.sl b len)=some (some false):=by
 simp only[sW,h];rw[if_pos h2]
theorem JC {H:Hp} {b:Nat}:sW H (.sl b 0)=some none:=by
 simp only[sW]
 split
 ·rw[if_neg (by omega)]
 ·rfl
theorem ed {α:Type} {l:List α} {i:Nat} {v d:α} (h:i<l.length):(l.set i v).getD i d=v:=by simp[List.getD,h]
theorem pc:(∀n:Nat,(n:Int).toNat=n)/\(∀(p:Prop) [Decidable p] (b:Bool),(if p then true else b)=(decide p||b))/\(∀(p:Prop) [Decidable p] (b:Bool),(if p then b else false)=(decide p&&b))/\(∀(p:Prop) [Decidable p] (b:Bool),(if p then false else b)=(!decide p&&b))/\(∀(p:Prop) [Decidable p] (b:Bool),(if p then b else true)=(!decide p||b))/\
 (∀b:Bool,decide (b=true)=b)/\(∀(p:Prop) [Decidable p],(decide p=true)=p)/\(∀(p:Prop) [Decidable p],(decide p=false)=¬p)/\(∀a b:Bool,((a&&b)=true)=(a=true/\b=true))/\(∀a b:Bool,((a||b)=true)=(a=true\/b=true))/\(∀b:Bool,((!b)=true)=(b=false))/\(∀b:Bool,((!b)=false)=(b=true))/\
 (∀a b:Bool,((a&&b)=false)=(a=false\/b=false))/\(∀a b:Bool,((a||b)=false)=(a=false/\b=false))/\(∀a b:Int,(¬a<b)=(b<=a))/\(∀a b:Int,(¬a<=b)=(b<a))/\(∀(p:Prop) [Decidable p],(¬¬p)=p):=by
 refine⟨by simp,fun p _ b=> ?_,fun p _ b=> ?_,fun p _ b=> ?_,fun p _ b=> ?_,by simp,by simp,by simp,by simp,by simp,by simp,by simp,by simp,by simp,fun a b=>propext Int.not_lt,fun a b=>propext Int.not_le,fun p _=>propext Decidable.not_not⟩
 all_goals by_cases h:p<;>simp[h]
theorem cA {p:Prop} (h:p:=by(repeat(first|exact ct _ _ _|assumption|refine DX (by first|omega|(simp only[List.length_cons,List.length_nil];omega)) ?_))<;>fail):p:=h
theorem ca {p:Prop} (h:p:=by first|omega|(simp only[List.length_cons,List.length_nil];omega)):p:=h
theorem w4 {p:Prop} (h:p:=by intro _b _hb;repeat(first|exact rfl|(refine Eq.trans (cZ (by first|omega|(simp only[List.length_cons,List.length_nil];omega))) ?_))):p:=h
theorem cI {p:Prop} (h:p:=by repeat' (first|exact True.intro|refine And.intro ?_ ?_|exact rfl|((conv=>lhs;whnf);(first|(simp<;>fail)|(simp;omega))))):p:=h
theorem T9 {p:Prop} (h:p:=by first|exact rfl|(simp only[List.length_set,List.length_map,List.length_append,List.length_cons,List.length_nil,List.length_take,List.length_drop,List.length_replicate,Int.toNat_natCast]<;>fail)|(simp only[List.length_set,List.length_map,List.length_append,List.length_cons,List.length_nil,List.length_take,List.length_drop,List.length_replicate,Int.toNat_natCast];omega)):p:=h
theorem dy {p:Prop} (h:p:=by first|exact rfl|omega|assumption|exact id|(intro h;exact h▸rfl)|(intro h;rw[h]<;>rfl)|(intros;exact rfl)|(intro h;(try simp only[List.length_map,ne_eq,pc] at h);omega)|(simp only[List.length_set,List.length_map,List.length_append,List.length_cons,List.length_nil,List.length_take,List.length_drop,List.length_replicate,Int.toNat_natCast];omega)|(intro _;constructor<;>first|exact rfl|exact Nat.le_of_ble_eq_true rfl|omega)):p:=h
theorem dC {p:Prop} (h:p:=by first|(intro h;simp_all<;>fail)|(refine GO (m:=1) rfl ?_;omega)|(show(_:Nat)<=175921860444160;first|omega|(simp only[List.length_set,List.length_map,List.length_append,List.length_cons,List.length_nil,List.length_take,List.length_drop,List.length_replicate,Int.toNat_natCast];omega))|(exact Nat.le_of_ble_eq_true rfl)|(constructor<;>first|exact rfl|exact Nat.le_of_ble_eq_true rfl|omega)|(simp_all<;>fail)):p:=h
theorem q8 {p:Prop} (h:p:=by first|omega|(intro hg;simp only[Gd,List.length_map,ne_eq,pc] at hg;omega)|(intros;simp only[List.length_map,Int.toNat_natCast];omega)):p:=h
theorem cU {p:Prop} (h:p:=by first|assumption|(refine ed ?_;first|omega|(simp only[List.length_set,List.length_map,List.length_append,List.length_cons,List.length_nil,List.length_take,List.length_drop,List.length_replicate,Int.toNat_natCast];omega))|(refine dJ _ _ _ _ ?_;first|omega|(simp only[List.length_map,Int.toNat_natCast];omega))|exact rfl):p:=h
theorem UA {p:Prop} (h:p:=by constructor<;>first|exact rfl|omega|(simp only[List.length_set,List.length_map,List.length_append,List.length_cons,List.length_nil,List.length_take,List.length_drop,List.length_replicate,Int.toNat_natCast];omega)):p:=h
theorem wi (d:Nat) (k:IntKind) (i:Nat):jk d (some (.sc (.int k (((i+1:Nat):Int) - 1))))=some i:=by
 simp only[jk];rw[if_pos (by omega)];congr 1;omega
theorem KO {p:Prop} (h:p:=by first|exact rfl|exact KU _ _ _|exact wi _ _ _|((simp only[List.length_map,List.length_append,List.length_cons,List.length_nil,Nat.zero_add]);exact wi _ _ _)|(conv=>lhs;whnf);exact rfl):p:=h
theorem T0 {p:Prop} (h:p:=by(try simp only[List.length_set,List.length_map,List.length_append,List.length_cons,List.length_nil,List.length_take,List.length_drop,List.length_replicate,Int.toNat_natCast]);omega):p:=h
theorem PM {s:Nat} {k k2:IntKind} {i:Int} {d:AV} {es:List AV} (h1:0<=i) (h2:i.toNat<=es.length):FI s (.sc (.int k i)) (.sc (.int k2 i)) (.im s d es)=some (.im s d (es.take i.toNat)):=by
 simp only[FI];rw[if_pos ⟨trivial,trivial,h1,h2⟩]
theorem qx {p:Prop} (h:p:=by first|exact rfl|exact PM T0 T0|exact JC|exact vx cA UA|exact PL cA T9 KO KO T0|exact PK KO KO T0):p:=h
theorem N7 {p:Prop} (h:p:=by(repeat(first|exact JN|(apply JO)|(apply E9;(·exact rfl);(·exact cA);(·exact rfl);(·exact rfl))))<;>fail):p:=h
theorem cH {p:Prop} (h:p:=by first|(simp[c8,cK,cD]<;>fail)):p:=h
theorem Wk.tell {r r2:AV} {H H2:Hp} {nx nx2:Nat} (hn:nx<=nx2)
 (hrow:∀b e sz d es,bw H2 b=some (.row e sz d es)->(∃d0 es0,bw H b=some (.row e sz d0 es0)/\es0.length=es.length)\/(nx<=b/\b<nx2/\es=[]/\0<sz))
 (hval:∀(w0:World) (c c2:Cx),dY w0 c->(∀b,c.U b->b<nx)->c.H=bw H->c2.H=bw H2->c2.w=c.w->c.le c2->
  (∀b e sz d,nx<=b->bw H2 b=some (.row e sz d [])->c2.U b/\c2.ρ b=none)->
  (∀b k blk o z,bw H b=some k->bw H2 b=none->c.ρ b=some (blk,o,z)->¬c2.M blk)->
  dN c c2 r r2/\∀b e sz d es d0 es0,bw H2 b=some (.row e sz d es)->bw H b=some (.row e sz d0 es0)->dK c c2 es0 es):
 Wk r H nx r2 H2 nx2:=by
 intro w0 ρ U w M0 hU hS
 let ρ2:Nat->Option (Nat×Nat×Nat):=fun b=>if b<nx then ρ b else none
 let U2:Nat->Prop:=fun b=>U b\/(nx<=b/\b<nx2)
 have hR:qw ⟨ρ,bw H,U,w,M0⟩ ⟨ρ2,bw H2,U2,w,M0⟩:=by
  refine⟨rfl,rfl,fun b hb=> .inl hb,fun b hb=> ?_,fun b e sz d es he=> ?_⟩
  ·show(if b<nx then ρ b else none)=ρ b
   rw[if_pos (hU b hb)]
  ·rcases hrow b e sz d es he with⟨d0,es0,h2,h3⟩|⟨h1,h2,h3,h4⟩
   ·have hu:U b:=(hS.row b e sz d0 es0 h2).1
    exact⟨.inl hu, .inl ⟨d0,es0,h2,hu,h3⟩⟩
   ·refine⟨.inr ⟨h1,h2⟩, .inr ⟨h3,fun hu=> ?_, ?_,h4⟩⟩
    ·have:=hU b hu;omega
    ·show(if b<nx then ρ b else none)=none
     rw[if_neg (by omega)]
 have hle:=hR.le
 have hv:=hval w0 ⟨ρ,bw H,U,w,M0⟩ ⟨ρ2,bw H2,U2,w,M0⟩ hS hU rfl rfl rfl hle
  (fun b e sz d hb he=>by
   rcases hrow b e sz d [] he with⟨d0,es0,h2,_⟩|⟨h1,h2,_⟩
   ·have h1:b<nx:=hU b (hS.row b e sz d0 es0 h2).1
    omega
   ·refine⟨.inr ⟨h1,h2⟩, ?_⟩
    show(if b<nx then ρ b else none)=none
    rw[if_neg (by omega)])
  (fun b k blk o z hb hb2 hρ hm=>by
   have hlt:=hS.QB hb hρ
   rcases hm with h0|⟨x,k2,o2,z2,hx,hρ2⟩
   ·have:=hS.m0.lt blk h0
    simp only at hlt
    omega
   ·obtain⟨e,sz,d,es⟩:=k2
    have hρ2:(if x<nx then ρ x else none)=some (blk,o2,z2):=hρ2
    have hx:bw H2 x=some (.row e sz d es):=hx
    rcases hrow x e sz d es hx with⟨d0,es0,h2,_⟩|⟨h1,_⟩
    ·have h1:x<nx:=hU x (hS.row x e sz d0 es0 h2).1
     rw[if_pos h1] at hρ2
     have:=hS.inj b x _ _ blk o z o2 z2 hb h2 hρ hρ2
     subst this
     rw[hx] at hb2;cases hb2
    ·rw[if_neg (by omega)] at hρ2;cases hρ2)
 refine⟨ρ2,U2, ?_,hR.PI hS hv.2,hle,hv.1⟩
 rintro b (hb|⟨_,hb⟩)
 ·have:=hU b hb;omega
 ·exact hb
theorem Wk.refl (r:AV) (H:Hp) (nx:Nat):Wk r H nx r H nx:=by
 intro w0 ρ U w M0 hU hS
 exact⟨ρ,U,hU,hS,Cx.le.refl _,fun v hv=>hv⟩
theorem Wk.nil {H:Hp} {nx:Nat} (e:TypeId) (sz:Nat) (d:AV) (hsz:0<sz):Wk (.sc (.slice none 0 0)) H nx (.sl nx 0) ((nx,some (.row e sz d []))::H) (nx+1):=by
 refine Wk.tell (Nat.le_succ _) (fun b e' sz' d' es he=> ?_) (fun w0 c c2 hS hU hc hc2 hw hle hnew _=>⟨?_,fun b e' sz' d' es d0 es0 h1 h2=> ?_⟩)
 ·by_cases hb:b=nx
  ·subst hb
   rw[ct] at he
   cases he
   exact .inr ⟨Nat.le_refl _,Nat.lt_succ_self _,rfl,hsz⟩
  ·rw[cZ hb] at he
   exact .inl ⟨d',es,he,rfl⟩
 ·have h:=hnew nx e sz d (Nat.le_refl _) (ct _ _ _)
  exact dN.nil (e:=e) (sz:=sz) (d:=d) h.1 (by rw[hc2,ct]) h.2
 ·by_cases hb:b=nx
  ·subst hb
   rw[ct] at h1
   cases h1
   have h3:c.H b=some (.row e sz d0 es0):=by rw[hc];exact h2
   exact absurd (hU _ (hS.row _ _ _ _ _ h3).1) (Nat.lt_irrefl _)
  ·rw[cZ hb] at h1
   rw[h1] at h2
   cases h2
   exact dK.cT hle _
theorem cO.HT {P:Program} {f:FuncId} {args args2:List AV} {e:TypeId} {sz:Nat} {es:List AV} (h:cO P f args2 [] 0 (fun r1 H1 _=>∃b d0,r1= .sl b es.length/\bw H1 b=some (.row e sz d0 es))) (hfl:∀i,i<es.length->fT (es.getD i .any)) (d:AV) {H:Hp} {id:Nat} (ha:args.map (dX H 6)=args2) (hfa:c8 0 args2):
 jy P f args H id (fun r' H''=>r'= .sl id es.length/\H''=dH H (some (id, .row e sz d es))):=by
 refine⟨h.1,fun w0 c vs hS hH hid hv=> ?_⟩
 have hS0:dY c.w ⟨fun _=>none,bw [],fun _=>False,c.w,c.M0⟩:=⟨Below.refl _ _,hS.kx,fun b e sz d es he=>by simp[bw] at he,fun b b' k k' blk o z o' z' hk=>by simp[bw] at hk⟩
 subst ha
 have hv':cg ⟨fun _=>none,bw [],fun _=>False,c.w,c.M0⟩ (args.map (dX H 6)) vs:=kK hS hH hfa hv
 refine(h.2 c.w _ vs hS0 rfl (fun _ h=>h.elim) hv').mono ?_
 rintro en w' ⟨v,r1,H1,nx',ρ,U,he,⟨b,d0,rfl,hb⟩,hU,hS',_,hvr⟩
 rw[VR] at hvr
 obtain⟨_,ad,cap,hvv,hrr⟩:=hvr
 obtain⟨_,hr2⟩:=hrr _ _ _ _ hb
 have hr3:=hr2 rfl
 obtain⟨_,hz,hor⟩:=hS'.jU b _ _ _ _ hb (sh hr3)
 have hbel:=hS'.below
 obtain⟨s1,s2⟩:=hS.world hbel
 have hHeq:bw (dH H (some (id, .row e sz d es)))=eo c.H id (some (.row e sz d es)):=by rw[dV,hH]
 rcases hor with⟨h0,hes⟩|⟨blk,o,z,hρ,hlow,⟨arr,harr,hsz⟩,hlz,hrow⟩
 ·subst hes
  obtain⟨p1,p2⟩:=s1.E7 (b:=id) (e:=e) (sz:=sz) d hz hid
  refine⟨v,_,_,eo c.ρ id none,he,⟨rfl,rfl⟩, ?_, ?_, ?_⟩
  ·rw[hHeq];exact p1
  ·rw[hHeq];exact s2.trans p2
  ·rw[hHeq,VR]
   refine⟨.inr rfl,ad,cap,hvv,fun e' sz' d' es' he'=> ?_⟩
   simp only[iP,dI,Option.some.injEq,e8.row.injEq] at he'
   obtain⟨rfl,rfl,rfl,rfl⟩:=he'
   refine⟨Nat.le_refl _,fun _=> .inl ⟨by simp[iP], ?_⟩⟩
   rcases hr3 with⟨_,h2,h3⟩|⟨blk,o,z,h2,_⟩
   ·exact⟨h2,h3⟩
   ·rw[h0] at h2;cases h2
 ·obtain⟨p1,p2⟩:=hS.ow (b:=id) (e:=e) (sz:=sz) d (es:=es) (w':=w') (blk:=blk) (o:=o) (z:=z) hz (.inl hid) (.inl hlow) hbel.os hbel.tape hbel.output hbel.size (fun k hk _=>hbel.block k hk) harr hsz hlz (fun hle i hi=>by
   obtain⟨x,x1,x2⟩:=de hrow i hi
   refine⟨x,x1,ln ?_ x2⟩
   have:=hfl i hi
   simpa[List.getD,hi] using this)
  refine⟨v,_,_,eo c.ρ id (some (blk,o,z)),he,⟨rfl,rfl⟩, ?_, ?_, ?_⟩
  ·rw[hHeq];exact p1
  ·rw[hHeq];exact p2
  ·rw[hHeq,VR]
   refine⟨.inr rfl,ad,cap,hvv,fun e' sz' d' es' he'=> ?_⟩
   simp only[iP,dI,Option.some.injEq,e8.row.injEq] at he'
   obtain⟨rfl,rfl,rfl,rfl⟩:=he'
   refine⟨by omega,fun _=> .inr ⟨blk,o,z,by simp[iP], ?_⟩⟩
   rcases hr3 with⟨h2,_,_⟩|⟨blk',o',z',h2,h3,h4,h5,h6⟩
   ·rw[hρ] at h2;cases h2
   ·rw[hρ] at h2;cases h2
    exact⟨h3,h4,h5,h6⟩
theorem ax {P:Program} {f:FuncId} {args args2:List AV} {e:TypeId} {sz:Nat} {es:List AV} {H:Hp} {id:Nat} {K:AV->Option (Nat×e8)->List Nat->Prop} (S:List Nat) (d:AV)
 (h:cO P f args2 [] 0 (fun r1 H1 _=>∃b d0,r1= .sl b es.length/\bw H1 b=some (.row e sz d0 es))) (hfl:∀i,i<es.length->fT (es.getD i .any)) (ha:∀H1,(∀b∈S,bw H1 b=bw H b)->args.map (dX H1 6)=args2) (hfa:c8 0 args2)
 (hK:Go (K (.sl id es.length) (some (id, .row e sz d es)) S)):lL P id f args H K:=
 lL.fresh S (fun H1 h1=>h.HT hfl d (ha H1 h1) hfa) (fun b q hq=>by cases hq;rfl) hK
theorem oM {n:Nat}:∀{as:List AV},c8 n as->∀a∈as,cK n a
 |[],_,a,h=>by cases h
 |b::as,hf,a,h=>by
  rw[c8] at hf
  rcases List.mem_cons.1 h with rfl|h
  ·exact hf.1
  ·exact oM hf.2 a h
theorem xy {f:AV->AV} {l:List AV} (h:∀a∈l,f a=a):l.map f=l:=by
 induction l with
 |nil=>rfl
 |cons a l ih=>rw[List.map_cons,h a (by simp),ih fun b hb=>h b (by simp[hb])]
theorem dj {H:Hp}:∀(k:Nat) {a:AV},cK 0 a->dX H k a=a
 |0,a,hf=>by cases a<;>simp only[dX]
 |k+1,a,hf=>by
  have ih:=fun {l:List AV} (hl:c8 0 l)=>xy (f:=dX H k) (fun a ha=>dj k (oM hl a ha))
  cases a<;>simp only[cK] at hf<;>simp only[dX]
  case sl=>omega
  case sv=>omega
  case pt=>omega
  case agg cs=>rw[ih hf]
  case dO cs=>rw[ih hf]
  case fn f p q=>rw[ih hf.1,ih hf.2]
  case lY t x=>rw[dj k hf]
end Go.cp
