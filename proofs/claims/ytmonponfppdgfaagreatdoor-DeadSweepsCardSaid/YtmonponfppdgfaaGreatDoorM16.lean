import Derived.Test.YtmonponfppdgfaaGreatDoorM14
import Derived.Test.YtmonponfppdgfaaGreatDoorM15
import Derived.IntWalk
section
/- Marks for the walk: what is still to be reduced. -/
namespace Go.ch
open Go.RowKit
def Go (p:Prop):Prop:=p
theorem aE {p:Prop} (h:p):Go p:=h
theorem aD {p q:Prop} (h1:Go p) (h2:Go q):p∧q:=⟨h1,h2⟩
theorem aA {es:List AV} {i:Nat} {d:AV} {K:AV→Prop} {e:AV} (h:es.getD i d=e) (k:Go (K e)):oW es i d K:=oW.of h k
theorem bH {H:Hp} {b:Nat} {K:TypeId→Nat→AV→List AV→Prop} {e:TypeId} {sz:Nat} {d:AV} {es:List AV} (h:bj H b=some (.row e sz d es)) (k:Go (K e sz d es)):iC H b K:=iC.of h k
theorem aW {α:Type} {x:Option α} {K:α→Prop} {a:α} (h:x=some a) (k:Go (K a)):jf x K:=jf.of h k
theorem wrap64 {n:Int} (h1:-9223372036854775808≤n) (h2:n<9223372036854775808):IntKind.i64.wrap n=n:=IntWalk.i64_in _ (by omega)
theorem KJ {n:Int} (h1:0≤n) (h2:n<256):IntKind.u8.wrap n=n:=by
 simp only[IntKind.wrap,IntKind.signed,IntKind.bits]
 first|omega|(simp;omega)
theorem ar {g:Option Bool} {k:IntKind} {n:Int} {K:Int→Prop} (hK:Go (K (k.wrap n))):sG g k n K:=sG.of (fun _=>rfl) hK
theorem ah {g:Option Bool} {n:Int} {K:Int→Prop} (h1:Gd g→-9223372036854775808≤n) (h2:Gd g→n<9223372036854775808) (hK:Go (K n)):sG g .i64 n K:=sG.of (fun hg=>wrap64 (h1 hg) (h2 hg)) hK
theorem ai {g:Option Bool} {n:Int} {K:Int→Prop} (h1:Gd g→0≤n) (h2:Gd g→n<256) (hK:Go (K n)):sG g .u8 n K:=sG.of (fun hg=>KJ (h1 hg) (h2 hg)) hK
theorem bF {t:Bool} {A B:Prop} (ht:t=true) (h:Go A):fU t A B:=by subst ht;exact fU.lt h
theorem bE {t:Bool} {A B:Prop} (ht:t=false) (h:Go B):fU t A B:=by subst ht;exact fU.lf h
theorem bN {t w:Bool} {A B J:Prop} (ht:t=w) (h:Go A):da t w A B J:=by subst ht;exact⟨.inl ⟨fun _=>h,fun h=>absurd rfl h⟩⟩
theorem bM {t w:Bool} {A B J:Prop} (ht:t= !w) (h:Go B):da t w A B J:=⟨.inl ⟨fun h2=>(by subst h2;cases t<;>cases ht),fun _=>h⟩⟩
theorem bf {A B:Prop} (h:Go A):fU true A B:=fU.lt h
theorem bd {A B:Prop} (h:Go B):fU false A B:=fU.lf h
theorem aB {t:Bool} {A B:Prop} (h1:t=true→Go A) (h2:t=false→Go B):fU t A B:=fU.of h1 h2
theorem bh {A B J:Prop} (h:Go A):da true true A B J:=da.tt h
theorem bg {A B J:Prop} (h:Go B):da true false A B J:=da.tf h
theorem ay {t want:Bool} {A B J:Prop} (h:Go J):da t want A B J:=da.join h
theorem bW {t want:Bool} {A B J:Prop} (h1:t=want→Go A) (h2:t= !want→Go B):da t want A B J:=da.split h1 h2
def xd (K:List AV→Prop):Prop:=K []
def vU (a:AV) (_:List AV) (ih:(List AV→Prop)→Prop) (K:List AV→Prop):Prop:=gP a fun a=>ih fun r'=>K (a::r')
noncomputable def xc (l:List AV):(List AV→Prop)→Prop:=List.rec (motive:=fun _=>(List AV→Prop)→Prop) xd vU l
theorem tG:∀(l:List AV) (K:List AV→Prop),xc l K=K l
 |[],_=>rfl
 |a::r,K=>by
  show gP a (fun a=>xc r fun r'=>K (a::r'))=_
  rw[fE,tG r]
noncomputable def x9 (v:AV) (K:AV→Prop):Prop:=
 match v with
 | .dI l=>xc l fun l=>K (.dI l)
 |v=>gP v K
theorem tF (v:AV) (K:AV→Prop):x9 v K=K v:=by
 cases v<;>first|rfl|exact tG _ _
structure xI (R:AV→Prop) (r:AV):Prop where
 ok:cG 0 r∧R r
theorem xI.eq {u:AV} {r:AV} (hf:cG 0 u) (h:r=u):xI (fun x=>x=u) r:=⟨by rw[h];exact hf,h⟩
structure pq (R:AV→Hp→Nat→Prop) (r:AV) (H:Hp) (nx:Nat):Prop where
 ok:R r H nx
noncomputable def J7 (lrs:List kL) (R:AV→Prop):QT
 | .exit _,_,_,_=>False
 |_,fr,H,_=>jf (jM fr H lrs) fun rs=>x9 (dk H 6 (pack rs)) (xI R)
theorem J8 {lrs:List kL} {R:AV→Prop} {e:Ex} {fr:Fr} {H:Hp} {nx:Nat} (h:J7 lrs R e fr H nx):IK lrs R e fr H nx:=by
 cases e
 case exit=>exact h
 all_goals
  obtain⟨rs,h1,h2⟩:=h.ok
  rw[tF] at h2
  simp only[IK,h1,je]
  exact h2.ok
noncomputable def zI (lrs:List kL) (R:AV→Hp→Nat→Prop):QT
 | .exit _,_,_,_=>False
 |_,fr,H,nx=>jf (jM fr H lrs) fun rs=>x9 (pack rs) fun r=>pq R r H nx
theorem IJ {lrs:List kL} {R:AV→Hp→Nat→Prop} {e:Ex} {fr:Fr} {H:Hp} {nx:Nat} (h:zI lrs R e fr H nx):yS lrs R e fr H nx:=by
 cases e
 case exit=>exact h
 all_goals
  obtain⟨rs,h1,h2⟩:=h.ok
  rw[tF] at h2
  simp only[yS,h1,je]
  exact h2.ok
section
variable {P:Program} {f:FuncId} {args:List AV} {H:Hp} {nx:Nat}
theorem aQ {r:AV} {K:AV→Hp→Nat→Prop} (h:Pure P f args (fun x=>x=r)) (hf:cL 0 args) (hK:Go (K r H nx)):jF P f args H nx K:=jF.G2 h hf hK
theorem aN {R K:AV→Hp→Nat→Prop} (h:cM P f args H nx R) (hK:∀r H' nx',R r H' nx'→Go (K r H' nx')):jF P f args H nx K:=jF.of h hK
theorem aM {g:Bool} {r:AV} {K:AV→Prop} (h:g=true→Pure P f args (fun x=>x=r)) (hf:cL 0 args) (hK:Go (K r)):n0 P g f args H nx K:=n0.G2 h hf hK
theorem aO {id:Nat} {r:AV} {K:AV→Option (Nat×eP)→List Nat→Prop} (h:Pure P f args (fun x=>x=r)) (hf:cL 0 args) (hK:Go (K r none [])):lK P id f args H K:=lK.G2 h hf hK
theorem aP {g:Bool} {id:Nat} {r:AV} {K:AV→List Nat→Prop} (h:g=true→Pure P f args (fun x=>x=r)) (hf:cL 0 args) (hK:Go (K r [])):qS P g id f args H K:=qS.G2 h hf hK
theorem az {fn:Func} {lc:LC} {lrs:List kL} {R:AV→Prop} (hf:P.funcs[f]?=some fn) (hname:(fn.name== "runtime.NumGoroutine")=false)
 (hl:(fn.body.bind (cc P fn.ntmps))=some lc) (hr:gy P fn.results.toList=some lrs) {n:Nat} (hn:n=fn.ntmps) (ha:Nat.ble args.length n=true)
 (h:Go (W P n 0 lc (jr 0 args) [] 0 (J7 lrs R))):Pure P f args R:=by
 subst hn
 exact Pure.ly hf hname hl hr (Nat.le_of_ble_eq_true ha) ((gI h).mono fun _ _ _ _=>J8)
theorem bL {fn:Func} {lc:LC} {lrs:List kL} {R:AV→Hp→Nat→Prop} (hf:P.funcs[f]?=some fn) (hname:(fn.name== "runtime.NumGoroutine")=false)
 (hl:(fn.body.bind (cc P fn.ntmps))=some lc) (hr:gy P fn.results.toList=some lrs) {n:Nat} (hn:n=fn.ntmps) (ha:Nat.ble args.length n=true)
 (h:Go (W P n nx lc (jr 0 args) H nx (zI lrs R))):cM P f args H nx R:=by
 subst hn
 exact cM.ly hf hname hl hr (Nat.le_of_ble_eq_true ha) ((gI h).mono fun _ _ _ _=>IJ)
theorem aj {segs:List tu} {fr:Fr} {H:Hp} {nx:Nat} {Q:QT} (h:Go (WS P nx segs [] fr H fun ov H' nx'=>Q .normal (hO ov fr) H' nx')):kg P segs fr H nx Q:=kg.of h
theorem aI {n lo:Nat} {x:LC} {fr:Fr} {Q:QT} {σ:Type} (F:σ→Fr) (I:σ→Hp→Nat→Prop) (μ:σ→Nat) (s0:σ) (h0:ln fr (F s0)) (h1:I s0 H nx)
 (round:∀s H nx,I s H nx→Go (W P n lo x (F s) H nx (j9 (fun fr' H' nx'=>∃s',μ s'<μ s∧ln fr' (F s')∧I s' H' nx') Q))):iX P n lo x fr H nx Q:=iX.fr F I μ s0 h0 h1 round
structure n7 (P:Program) (n lo:Nat) (x:LC) (fr:Fr) (H:Hp) (nx:Nat) (Q:QT):Prop where
 ok:∀c1,cc P n c1=some x→∀w0 M0 c0 a w,eW w0 M0 c0 lo n fr H nx a w→∀b k cs,∃e a' w',LQ w0 M0 c0 lo n Q e a' w'∧Arrives P (lone (b.at a (.code c1:: .inLoop c1::k)) cs w) b k cs e a' w'
theorem ax {n lo:Nat} {x:LC} {fr:Fr} {Q:QT} (h:n7 P n lo x fr H nx Q):iX P n lo x fr H nx Q:=by
 refine⟨fun code hc w0 M0 c0 a w hh=> ?_⟩
 have:∃c1,code= .loop c1∧cc P n c1=some x:=by
  cases code<;>simp only[cc] at hc
  case loop c1=>
   simp only[Option.map_eq_some_iff,LC.loop.injEq] at hc
   obtain⟨x',h1,rfl⟩:=hc
   exact⟨c1,rfl,h1⟩
  all_goals (exfalso;repeat' (split at hc))<;>simp at hc
 obtain⟨c1,rfl,h1⟩:=this
 intro b k cs
 obtain⟨e,a',w',hq,harr⟩:=h.ok c1 h1 w0 M0 c0 a w hh b k cs
 exact⟨e,a',w',hq, .of_steps (.one step_loop) harr⟩
theorem af {n lo:Nat} {x:LC} {fr:Fr} {Q:QT} (h:Go (W P n lo x fr H nx (j9 (fun fr H nx=>n7 P n lo x fr H nx Q) Q))):n7 P n lo x fr H nx Q:=by
 refine⟨fun c1 h1 w0 M0 c0 a w hh b k cs=> ?_⟩
 obtain⟨e,a1,w1,hq,harr⟩:=gI h c1 h1 w0 M0 c0 a w hh b (.inLoop c1::k) cs
 obtain⟨x',fr',H',nx',rfl,hQ,hh'⟩:=hq
 cases x' with
 |normal=>
  obtain⟨e2,a2,w2,hq2,harr2⟩:=hQ.ok c1 h1 w0 M0 c0 a1 w1 hh' b k cs
  exact⟨e2,a2,w2,hq2, .of_steps (Steps.trans harr (.one step_inLoop)) harr2⟩
 |exit id=>exact⟨_,a1,w1,⟨.exit id,fr',H',nx',rfl,hQ,hh'⟩, .pass (x:= .inLoop c1) rfl (fun _ _=> .inl (by simp[Ex.to])) harr⟩
 |ret=>exact⟨_,a1,w1,⟨.ret,fr',H',nx',rfl,hQ,hh'⟩, .pass (x:= .inLoop c1) rfl (fun _ _=> .inl (by simp[Ex.to])) harr⟩
end
theorem dJ {α:Type} [Inhabited α] (f:α→AV) (l:List α) (i:Nat) (d:AV) (h:i<l.length):(l.map f).getD i d=f (l.getD i default):=by simp[List.getD,h]
theorem ck (H:Hp) (b:Nat) (k:Option eP):bj ((b,k)::H) b=k:=by simp[bj]
theorem zq {H:Hp} {b d:Nat} {v k:Option eP} (hne:b≠d) (h:bj H b=k):bj ((d,v)::H) b=k:=by simp[bj,hne,h]
end Go.ch
/- What is known turned at a function's end: nil slices get names, rows that are written no more lose theirs; a call that only looks, while the caller's rows stay. -/
namespace Go.ch
open Go.RowKit
def dZ (c c2:Cx) (a a2:AV):Prop:=∀v,VR c a v→VR c2 a2 v
theorem dZ.cE {c c2:Cx} (h:c.le c2) (a:AV):dZ c c2 a a:=fun _ hv=>VR.cE h hv
theorem dZ.any (c c2:Cx) (a:AV):dZ c c2 a .any:=fun _ _=>by rw[VR];trivial
theorem dZ.nil {c c2:Cx} {b:Nat} {e:TypeId} {sz:Nat} {d:AV} (hU:c2.U b) (hH:c2.H b=some (.row e sz d [])) (hρ:c2.ρ b=none):dZ c c2 (.sc (.slice none 0 0)) (.sl b 0):=by
 intro v hv
 rw[VR] at hv
 subst hv
 rw[VR]
 refine⟨hU,none,0,rfl,fun e' sz' d' es' he=> ?_⟩
 rw[hH] at he
 cases he
 exact⟨by simp,fun _=> .inl ⟨hρ,rfl,rfl⟩⟩
theorem dZ.im {w0:World} {c c2:Cx} (hS:dS w0 c) (hle:c.le c2) {b:Nat} {e:TypeId} {sz:Nat} {d:AV} {es:List AV} (d2:AV) (hw:c2.w=c.w) (hH:c.H b=some (.row e sz d es)) (hM:∀blk o z,c.ρ b=some (blk,o,z)→¬c2.M blk):dZ c c2 (.sl b es.length) (.im sz d2 es):=by
 intro v hv
 rw[VR] at hv
 obtain⟨_,a,cap,rfl,hr⟩:=hv
 obtain⟨_,hr⟩:=hr _ _ _ _ hH
 obtain⟨_,hz,hrow⟩:=hS.m8 b _ _ _ _ hH (sZ (hr rfl))
 rw[VR]
 rcases hr rfl with⟨hρ,rfl,rfl⟩|⟨blk,o,z,hρ,rfl,hc1,_,_⟩
 ·rcases hrow with⟨_,rfl⟩|⟨_,_,_,hρ',_⟩
  ·exact⟨none,0,rfl,by simp, .inl rfl⟩
  ·rw[hρ] at hρ';cases hρ'
 ·rcases hrow with⟨hρ',_⟩|⟨blk1,o1,z1,hρ1,_,_,_,hrow⟩
  ·rw[hρ] at hρ';cases hρ'
  ·rw[hρ] at hρ1;cases hρ1
   exact⟨_,cap,rfl,hc1, .inr ⟨blk,o,rfl,hz,hM _ _ _ hρ,dQ.cE hle (by rw[hw]) hrow⟩⟩
inductive dA (c c2:Cx):List AV→List AV→Prop where
 |nil:dA c c2 [] []
 |cons {a a2:AV} {as as2:List AV} (h:dZ c c2 a a2) (hs:dA c c2 as as2):dA c c2 (a::as) (a2::as2)
theorem dA.length {c c2:Cx} {as as2:List AV} (h:dA c c2 as as2):as.length=as2.length:=by
 induction h with
 |nil=>rfl
 |cons _ _ ih=>simp[ih]
theorem dA.cE {c c2:Cx} (h:c.le c2):∀(as:List AV),dA c c2 as as
 |[]=> .nil
 |a::as=> .cons (dZ.cE h a) (dA.cE h as)
theorem dA.MH {c c2:Cx} {as as2:List AV} (h:dA c c2 as as2):∀{vs:List Value},cY c as vs→cY c2 as2 vs:=by
 induction h with
 |nil=>intro vs hv;rw[cY] at hv ⊢;exact hv
 |cons h1 _ ih=>
  intro vs hv
  rw[cY] at hv
  obtain⟨v,vs',rfl,g1,g2⟩:=hv
  rw[cY]
  exact⟨v,vs',rfl,h1 v g1,ih g2⟩
theorem dA.append {c c2:Cx} {as as2 bs bs2:List AV} (h:dA c c2 as as2) (h2:dA c c2 bs bs2):dA c c2 (as++bs) (as2++bs2):=by
 induction h with
 |nil=>exact h2
 |cons h1 _ ih=>exact .cons h1 ih
theorem dA.yE {c c2:Cx}:∀{as as2:List AV},as.length=as2.length→(∀i,i<as.length→dZ c c2 (as.getD i .any) (as2.getD i .any))→dA c c2 as as2
 |[],[],_,_=> .nil
 |[],_::_,h,_=>by simp at h
 |_::_,[],h,_=>by simp at h
 |a::as,b::bs,hl,h=> .cons (by simpa using h 0 (by simp)) (dA.yE (by simpa using hl) fun i hi=>by simpa using h (i+1) (by simpa using hi))
theorem dZ.agg {c c2:Cx} {as as2:List AV} (h:dA c c2 as as2):dZ c c2 (.agg as) (.agg as2):=by
 intro v hv
 rw[VR] at hv ⊢
 obtain⟨vs,rfl,hr⟩:=hv
 exact⟨vs,rfl,h.MH hr⟩
theorem dZ.dI {c c2:Cx} {as as2:List AV} (h:dA c c2 as as2):dZ c c2 (.dI as) (.dI as2):=by
 intro v hv
 rw[VR] at hv ⊢
 obtain⟨vs,rfl,hr⟩:=hv
 exact⟨vs,rfl,h.MH hr⟩
theorem dA.row {c c2:Cx} (hw:c2.w=c.w) {sz:Nat} {blk:Nat} {as as2:List AV} (h:dA c c2 as as2):∀{o:Nat},dQ c sz as blk o→dQ c2 sz as2 blk o:=by
 induction h with
 |nil=>intro o _;rw[dQ];trivial
 |cons h1 _ ih=>
  intro o hr
  rw[dQ] at hr ⊢
  obtain⟨⟨v,g1,g2⟩,g3⟩:=hr
  exact⟨⟨v,by rw[hw];exact g1,h1 v g2⟩,ih g3⟩
structure qV (c c2:Cx):Prop where
 w:c2.w=c.w
 m0:c2.M0=c.M0
 U:∀b,c.U b→c2.U b
 ju:∀b,c.U b→c2.ρ b=c.ρ b
 row:∀b e sz d es,c2.H b=some (.row e sz d es)→c2.U b∧((∃d0 es0,c.H b=some (.row e sz d0 es0)∧c.U b∧es0.length=es.length)∨(es=[]∧¬c.U b∧c2.ρ b=none∧0<sz))
theorem qV.le {c c2:Cx} (h:qV c c2):c.le c2:=by
 refine⟨h.U,by rw[h.w];exact Nat.le_refl _,fun b hm _=>⟨by rw[h.w], ?_⟩,fun b hu e sz d es he=> ?_⟩
 ·rintro(h0|⟨x,k,o,z,hk,hρ⟩)
  ·exact hm (.inl (by rw[←h.m0];exact h0))
  ·obtain⟨e,sz,d,es⟩:=k
   obtain⟨_,⟨d0,es0,h1,h2,_⟩|⟨_,_,h3,_⟩⟩:=h.row x e sz d es hk
   ·exact hm (.inr ⟨x,_,o,z,h1,by rw[←h.ju x h2];exact hρ⟩)
   ·rw[h3] at hρ;cases hρ
 ·obtain⟨_,⟨d0,es0,h1,h2,h3⟩|⟨_,h2,_⟩⟩:=h.row b e sz d es he
  ·exact⟨e,d0,es0,h1, .inl ⟨h3,h.ju b hu⟩⟩
  ·exact absurd hu h2
theorem qV.NC {w0:World} {c c2:Cx} (h:qV c c2) (hS:dS w0 c) (hv:∀b e sz d es d0 es0,c2.H b=some (.row e sz d es)→c.H b=some (.row e sz d0 es0)→dA c c2 es0 es):dS w0 c2:=by
 refine⟨by rw[h.w];exact hS.below,by rw[h.m0];exact hS.m0,fun b e sz d es he=> ?_,fun b b' k k' blk o z o' z' hk hk' hρ hρ'=> ?_⟩
 ·obtain⟨hU,⟨d0,es0,h1,h2,h3⟩|⟨rfl,h2,h3,h4⟩⟩:=h.row b e sz d es he
  ·have hav:=hv b e sz d es d0 es0 he h1
   obtain⟨_,⟨g2,g3⟩|⟨g2,g3⟩⟩:=hS.row b e sz d0 es0 h1
   ·refine⟨hU, .inl ⟨g2, ?_⟩⟩
    rw[h.ju b h2,h.w]
    rcases g3 with⟨g4,g5⟩|⟨blk,o,z,g4,g5,g6,g7,g8⟩
    ·subst g5
     exact .inl ⟨g4,List.eq_nil_of_length_eq_zero (by simpa using h3.symm)⟩
    ·exact .inr ⟨blk,o,z,g4,g5,g6,by rw[←h3];exact g7,hav.row h.w g8⟩
   ·obtain⟨r,x,ms,clk,g4,g5,g6,rfl,g8⟩:=g3
    cases hav with
    |cons k1 k2=>
     cases k2
     exact⟨hU, .inr ⟨g2,r,_,ms,clk,(h.ju b h2).trans g4,g5,by rw[h.w];exact g6,rfl,k1 _ g8⟩⟩
  ·exact⟨hU, .inl ⟨h4, .inl ⟨h3,rfl⟩⟩⟩
 ·obtain⟨e,sz,d,es⟩:=k
  obtain⟨e',sz',d',es'⟩:=k'
  obtain⟨_,⟨_,_,h1,h2,_⟩|⟨_,_,h3,_⟩⟩:=h.row b _ _ _ _ hk
  ·obtain⟨_,⟨_,_,g1,g2,_⟩|⟨_,_,g3,_⟩⟩:=h.row b' _ _ _ _ hk'
   ·exact hS.inj b b' _ _ blk o z o' z' h1 g1 (by rw[←h.ju b h2];exact hρ) (by rw[←h.ju b' g2];exact hρ')
   ·rw[g3] at hρ';cases hρ'
  ·rw[h3] at hρ;cases hρ
def Wk (r:AV) (H:Hp) (nx:Nat) (r2:AV) (H2:Hp) (nx2:Nat):Prop:=
 ∀w0 ρ U w M0,(∀b,U b→b<nx)→dS w0 ⟨ρ,bj H,U,w,M0⟩→
  ∃ρ2 U2,(∀b,U2 b→b<nx2)∧dS w0 ⟨ρ2,bj H2,U2,w,M0⟩∧Cx.le ⟨ρ,bj H,U,w,M0⟩ ⟨ρ2,bj H2,U2,w,M0⟩∧dZ ⟨ρ,bj H,U,w,M0⟩ ⟨ρ2,bj H2,U2,w,M0⟩ r r2
theorem cM.wk {P:Program} {f:FuncId} {args:List AV} {H:Hp} {nx:Nat} {R R2:AV→Hp→Nat→Prop} (h:cM P f args H nx R) (hR:∀r H' nx',R r H' nx'→∃r2 H2 nx2,Wk r H' nx' r2 H2 nx2∧R2 r2 H2 nx2):cM P f args H nx R2:=by
 refine⟨h.1,fun w0 c vs a1 a2 a3 a4=>(h.2 w0 c vs a1 a2 a3 a4).mono ?_⟩
 rintro e w' ⟨v,r,H',nx',ρ,U,rfl,hRr,hU,hS,hle,hv⟩
 obtain⟨r2,H2,nx2,hw,hR2⟩:=hR r H' nx' hRr
 obtain⟨ρ2,U2,k1,k2,k3,k4⟩:=hw w0 ρ U w' c.M0 hU hS
 exact⟨v,r2,H2,nx2,ρ2,U2,rfl,hR2,k1,k2,hle.trans k3,k4 v hv⟩
def pS:List AV→Prop
 |[]=>True
 | .sc _::r=>pS r
 |_::_=>False
def gZ:AV→Prop
 | .sc _=>True
 | .agg cs=>pS cs
 | .dI cs=>∀a∈cs,(∃u,a= .sc u)∨∃ds,a= .agg ds∧pS ds
 |_=>False
theorem oc {c c2:Cx}:∀{cs:List AV} {vs:List Value},pS cs→cY c cs vs→cY c2 cs vs
 |[],vs,_,h=>by rw[cY] at h ⊢;exact h
 | .sc u::r,vs,hf,h=>by
  rw[cY] at h ⊢
  obtain⟨v,vs',rfl,h1,h2⟩:=h
  exact⟨v,vs',rfl,by rw[VR] at h1 ⊢;exact h1,oc hf h2⟩
theorem l9 {c c2:Cx} {r:AV} {v:Value} (hf:gZ r) (h:VR c r v):VR c2 r v:=by
 have one:∀{a:AV} {v:Value},((∃u,a= .sc u)∨∃ds,a= .agg ds∧pS ds)→VR c a v→VR c2 a v:=by
  rintro a v (⟨u,rfl⟩|⟨ds,rfl,hd⟩) h
  ·rw[VR] at h ⊢;exact h
  ·rw[VR] at h ⊢;obtain⟨vs,rfl,hr⟩:=h;exact⟨vs,rfl,oc hd hr⟩
 cases r<;>simp only[gZ] at hf
 case sc u=>exact one (.inl ⟨u,rfl⟩) h
 case agg cs=>exact one (.inr ⟨cs,rfl,hf⟩) h
 case dI cs=>
  rw[VR] at h ⊢
  obtain⟨vs,rfl,hr⟩:=h
  refine⟨vs,rfl, ?_⟩
  generalize vs.toList=l at hr
  induction cs generalizing l with
  |nil=>rw[cY] at hr ⊢;exact hr
  |cons a cs ih=>
   rw[cY] at hr ⊢
   obtain⟨v,vs',rfl,h1,h2⟩:=hr
   exact⟨v,vs',rfl,one (hf a (by simp)) h1,ih (fun b hb=>hf b (by simp[hb])) _ h2⟩
theorem kP {w0:World} {c:Cx} {H:Hp} (h:dS w0 c) (hH:c.H=bj H):∀{as:List AV} {vs:List Value},cL 0 (as.map (dk H 6))→cY c as vs→cY (base c.w c.M0) (as.map (dk H 6)) vs
 |[],vs,_,hv=>by rw[cY] at hv;subst hv;simp only[List.map_nil];rw[cY]
 |a::as,vs,hf,hv=>by
  rw[cY] at hv
  obtain⟨v,vs',rfl,h1,h2⟩:=hv
  simp only[List.map_cons,cL] at hf ⊢
  rw[cY]
  exact⟨v,vs',rfl,kQ h hH 6 hf.1 h1,kP h hH hf.2 h2⟩
theorem Pure.view {P:Program} {f:FuncId} {args args2:List AV} {r:AV} {H:Hp} {nx:Nat} {K:AV→Hp→Nat→Prop} (h:Pure P f args2 (fun x=>x=r)) (ha:args.map (dk H 6)=args2) (hf:cL 0 args2) (hr:gZ r) (hK:K r H nx):cM P f args H nx K:=by
 refine⟨h.1,fun w0 c vs hS hH hU hv=> ?_⟩
 subst ha
 refine(h.2 c.M0 c.w vs hS.kF (kP hS hH hf hv)).mono fun e w' hh=> ?_
 obtain⟨v,r',rfl,rfl,_,hvr,hb⟩:=hh
 obtain⟨s1,s2⟩:=hS.world hb
 refine⟨v,r',H,nx,c.ρ,c.U,rfl,hK,hU, ?_, ?_,l9 hr hvr⟩
 ·rw[←hH];exact s1
 ·rw[←hH];exact s2
theorem Pure.L4 {P:Program} {f:FuncId} {args args2:List AV} {r:AV} {H:Hp} {id:Nat} (h:Pure P f args2 (fun x=>x=r)) (ha:args.map (dk H 6)=args2) (hf:cL 0 args2) (hr:gZ r):ma P f args H id (fun r' H'=>r'=r∧H'=H):=by
 refine⟨h.1,fun w0 c vs hS hH hU hv=> ?_⟩
 subst ha
 refine(h.2 c.M0 c.w vs hS.kF (kP hS hH hf hv)).mono fun e w' hh=> ?_
 obtain⟨v,r',rfl,rfl,_,hvr,hb⟩:=hh
 obtain⟨s1,s2⟩:=hS.world hb
 obtain⟨t1,t2⟩:=s1.used (U:=fun x=>c.U x∨x=id) fun _ h=> .inl h
 refine⟨v,r',H,c.ρ,rfl,⟨rfl,rfl⟩, ?_, ?_,l9 hr hvr⟩
 ·rw[←hH];exact t1
 ·rw[←hH];exact s2.trans t2
theorem bc {P:Program} {f:FuncId} {args:List AV} {H:Hp} {nx:Nat} {args2:List AV} {r:AV} {K:AV→Hp→Nat→Prop} (h:Pure P f args2 (fun x=>x=r)) (ha:args.map (dk H 6)=args2) (hf:cL 0 args2) (hr:gZ r) (hK:Go (K r H nx)):jF P f args H nx K:=⟨h.view ha hf hr hK⟩
theorem ak {P:Program} {f:FuncId} {args:List AV} {H:Hp} {g:Bool} {id:Nat} (S:List Nat) {args2:List AV} {r:AV} {K:AV→List Nat→Prop} (h:g=true→Pure P f args2 (fun x=>x=r)) (ha:∀H1,(∀b∈S,bj H1 b=bj H b)→args.map (dk H1 6)=args2) (hf:cL 0 args2) (hr:gZ r) (hK:Go (K r S)):qS P g id f args H K:=
 ⟨⟨r,S,fun hg=>⟨fun H1 h1=>by rw[List.nil_append,List.append_nil];exact(h hg).L4 (ha H1 h1) hf hr,fun _ _ h=>by cases h⟩,hK⟩⟩
mutual
/-- Every name in it is one of these. -/
def iB (p:Nat→Prop):AV→Prop
 | .sc _=>True
 | .any=>True
 | .im _ _ es=>jL p es
 | .ip _ _ es _ _=>jL p es
 | .sl b _=>p b
 | .pt b _ _ _=>p b
 | .zc=>True
 | .agg cs=>jL p cs
 | .dI cs=>jL p cs
 | .fn _ x q=>jL p x∧jL p q
 | .ll _ x=>iB p x
 | .mp b=>p b
 | .ab=>True
 | .sv b _ _ _=>p b
def jL (p:Nat→Prop):List AV→Prop
 |[]=>True
 |a::as=>iB p a∧jL p as
end
mutual
theorem VR.yA {c:Cx}:∀{a:AV} {v:Value},VR c a v→iB c.U a
 | .sc u,v,_=>by rw[iB];trivial
 | .any,_,_=>by rw[iB];trivial
 | .im sz d es,v,hv=>by
  rw[VR] at hv
  rw[iB]
  obtain⟨_,_,_,_,h0|⟨blk,o,_,_,_,hr⟩⟩:=hv
  ·subst h0;rw[jL];trivial
  ·exact dQ.yA hr
 | .ip sz d es i off,v,hv=>by
  rw[VR] at hv
  rw[iB]
  obtain⟨_,_,blk,o,_,_,hr⟩:=hv
  exact dQ.yA hr
 | .sl b len,v,hv=>by rw[VR] at hv;rw[iB];exact hv.1
 | .pt b len i off,v,hv=>by rw[VR] at hv;rw[iB];exact hv.1
 | .zc,v,_=>by rw[iB];trivial
 | .agg cs,v,hv=>by rw[VR] at hv;rw[iB];obtain⟨_,_,hr⟩:=hv;exact cY.yA hr
 | .dI cs,v,hv=>by rw[VR] at hv;rw[iB];obtain⟨_,_,hr⟩:=hv;exact cY.yA hr
 | .fn f p q,v,hv=>by rw[VR] at hv;rw[iB];obtain⟨_,_,_,h1,h2⟩:=hv;exact⟨cY.yA h1,cY.yA h2⟩
 | .ll t x,v,hv=>by rw[VR] at hv;rw[iB];obtain⟨_,_,h1⟩:=hv;exact VR.yA h1
 | .mp b,v,hv=>by rw[VR] at hv;rw[iB];exact hv.1
 | .ab,v,_=>by rw[iB];trivial
 | .sv b len lo n,v,hv=>by rw[VR] at hv;rw[iB];exact hv.1
theorem dQ.yA {c:Cx} {sz blk:Nat}:∀{es:List AV} {o:Nat},dQ c sz es blk o→jL c.U es
 |[],_,_=>by rw[jL];trivial
 |e::es,o,hr=>by
  rw[dQ] at hr
  rw[jL]
  obtain⟨⟨v,_,h2⟩,h3⟩:=hr
  exact⟨VR.yA h2,dQ.yA h3⟩
theorem cY.yA {c:Cx}:∀{as:List AV} {vs:List Value},cY c as vs→jL c.U as
 |[],vs,_=>by rw[jL];trivial
 |a::as,vs,hv=>by
  rw[cY] at hv
  rw[jL]
  obtain⟨v,vs',_,h1,h2⟩:=hv
  exact⟨VR.yA h1,cY.yA h2⟩
end
mutual
theorem VR.yQ {c:Cx} {U:Nat→Prop}:∀{a:AV} {v:Value},iB U a→VR c a v→VR { c with U:=U } a v
 | .sc u,v,_,hv=>by rw[VR] at hv ⊢;exact hv
 | .any,_,_,_=>by rw[VR];trivial
 | .im sz d es,v,hn,hv=>by
  rw[iB] at hn
  rw[VR] at hv ⊢
  obtain⟨a,cap,h1,h2,h3⟩:=hv
  refine⟨a,cap,h1,h2, ?_⟩
  rcases h3 with h3|⟨blk,o,h4,h5,h6,h7⟩
  ·exact .inl h3
  ·exact .inr ⟨blk,o,h4,h5,h6,dQ.yQ hn h7⟩
 | .ip sz d es i off,v,hn,hv=>by
  rw[iB] at hn
  rw[VR] at hv ⊢
  obtain⟨h1,h2,blk,o,h3,h4,h5⟩:=hv
  exact⟨h1,h2,blk,o,h3,h4,dQ.yQ hn h5⟩
 | .sl b len,v,hn,hv=>by rw[iB] at hn;rw[VR] at hv ⊢;exact⟨hn,hv.2⟩
 | .pt b len i off,v,hn,hv=>by rw[iB] at hn;rw[VR] at hv ⊢;exact⟨hn,hv.2⟩
 | .zc,v,_,hv=>by rw[VR] at hv ⊢;exact hv
 | .agg cs,v,hn,hv=>by rw[iB] at hn;rw[VR] at hv ⊢;obtain⟨vs,h1,h2⟩:=hv;exact⟨vs,h1,cY.yQ hn h2⟩
 | .dI cs,v,hn,hv=>by rw[iB] at hn;rw[VR] at hv ⊢;obtain⟨vs,h1,h2⟩:=hv;exact⟨vs,h1,cY.yQ hn h2⟩
 | .fn f p q,v,hn,hv=>by rw[iB] at hn;rw[VR] at hv ⊢;obtain⟨ps,qs,h1,h2,h3⟩:=hv;exact⟨ps,qs,h1,cY.yQ hn.1 h2,cY.yQ hn.2 h3⟩
 | .ll t x,v,hn,hv=>by rw[iB] at hn;rw[VR] at hv ⊢;obtain⟨u,h1,h2⟩:=hv;exact⟨u,h1,VR.yQ hn h2⟩
 | .mp b,v,hn,hv=>by rw[iB] at hn;rw[VR] at hv ⊢;exact⟨hn,hv.2⟩
 | .ab,v,_,hv=>by rw[VR] at hv ⊢;exact hv
 | .sv b len lo n,v,hn,hv=>by rw[iB] at hn;rw[VR] at hv ⊢;exact⟨hn,hv.2⟩
theorem dQ.yQ {c:Cx} {U:Nat→Prop} {sz blk:Nat}:∀{es:List AV} {o:Nat},jL U es→dQ c sz es blk o→dQ { c with U:=U } sz es blk o
 |[],_,_,_=>by rw[dQ];trivial
 |e::es,o,hn,hr=>by
  rw[jL] at hn
  rw[dQ] at hr ⊢
  obtain⟨⟨v,h1,h2⟩,h3⟩:=hr
  exact⟨⟨v,h1,VR.yQ hn.1 h2⟩,dQ.yQ hn.2 h3⟩
theorem cY.yQ {c:Cx} {U:Nat→Prop}:∀{as:List AV} {vs:List Value},jL U as→cY c as vs→cY { c with U:=U } as vs
 |[],vs,_,hv=>by rw[cY] at hv ⊢;exact hv
 |a::as,vs,hn,hv=>by
  rw[jL] at hn
  rw[cY] at hv ⊢
  obtain⟨v,vs',h0,h1,h2⟩:=hv
  exact⟨v,vs',h0,VR.yQ hn.1 h1,cY.yQ hn.2 h2⟩
end
theorem cM.G2 {P:Program} {f:FuncId} {args:List AV} {r:AV} {H:Hp} {nx:Nat} {K:AV→Hp→Nat→Prop} (h:cM P f args H nx (fun r' H' _=>r'=r∧H'=H)) (hr:gZ r) (hK:K r H nx):cM P f args H nx K:=by
 refine⟨h.1,fun w0 c vs hS hH hU hv=>(h.2 w0 c vs hS hH hU hv).mono ?_⟩
 rintro e w' ⟨v,r',H',nx',ρ,U,rfl,⟨rfl,rfl⟩,_,hS',hle,hvr⟩
 have hrows:∀b e sz d es,bj H' b=some (.row e sz d es)→c.U b∧(∀blk o z,c.ρ b=some (blk,o,z)→jL c.U es)∧(c.ρ b=none→es=[]):=by
  intro b e sz d es he
  obtain⟨g1,⟨_,g3⟩|⟨_,r,x,ms,clk,g3,_,_,rfl,g5⟩⟩:=hS.row b e sz d es (by rw[hH];exact he)
  ·refine⟨g1,fun blk o z hρ=> ?_,fun hρ=> ?_⟩
   ·rcases g3 with⟨g4,rfl⟩|⟨_,_,_,_,_,_,_,g5⟩
    ·rw[jL];trivial
    ·exact g5.yA
   ·rcases g3 with⟨_,g4⟩|⟨_,_,_,g4,_⟩
    ·exact g4
    ·rw[hρ] at g4;cases g4
  ·refine⟨g1,fun blk o z hρ=> ?_,fun hρ=> ?_⟩
   ·simp only[jL,and_true];exact g5.yA
   ·rw[hρ] at g3;cases g3
 have hnam:∀b e sz d es,bj H' b=some (.row e sz d es)→jL c.U es:=by
  intro b e sz d es he
  obtain⟨_,h2,h3⟩:=hrows b e sz d es he
  cases hρ:c.ρ b with
  |none=>rw[h3 hρ,jL];trivial
  |some x=>exact h2 _ _ _ hρ
 refine⟨v,r',H',nx,ρ,c.U,rfl,hK,hU,⟨hS'.below,hS'.m0,fun b e sz d es he=> ?_,hS'.inj⟩,⟨fun _ h=>h,hle.sz,hle.blk,hle.row⟩,l9 hr hvr⟩
 obtain⟨_,⟨g2,g3⟩|⟨g2,r,x,ms,clk,g4,g5,g6,rfl,g8⟩⟩:=hS'.row b e sz d es he
 ·refine⟨(hrows b e sz d es he).1, .inl ⟨g2, ?_⟩⟩
  rcases g3 with g3|⟨blk,o,z,g4,g5,g6,g7,g8⟩
  ·exact .inl g3
  ·exact .inr ⟨blk,o,z,g4,g5,g6,g7,dQ.yQ (hnam b e sz d es he) g8⟩
 ·have hn:=hnam b e sz d _ he
  simp only[jL,and_true] at hn
  exact⟨(hrows b e sz d _ he).1, .inr ⟨g2,r,x,ms,clk,g4,g5,g6,rfl,VR.yQ hn g8⟩⟩
theorem cM.more {P:Program} {f:FuncId} {args:List AV} {H:Hp} {nx:Nat} {K K':AV→Hp→Nat→Prop} (h:cM P f args H nx K) (hk:∀r H n,K r H n→∃n',n≤n'∧K' r H n'):cM P f args H nx K':=by
 refine⟨h.1,fun w0 c vs a1 a2 a3 a4=>(h.2 w0 c vs a1 a2 a3 a4).mono ?_⟩
 rintro e w' ⟨v,r,H',nx',ρ,U,he,hR,hU,hrest⟩
 obtain⟨n',hn,hR'⟩:=hk _ _ _ hR
 exact⟨v,r,H',n',ρ,U,he,hR',fun b hb=>Nat.lt_of_lt_of_le (hU b hb) hn,hrest⟩
theorem au {P:Program} {f:FuncId} {args:List AV} {H:Hp} {nx:Nat} {g:Bool} {r:AV} {K:AV→Prop} (h:g=true→cM P f args H nx (fun r' H' _=>r'=r∧H'=H)) (hr:gZ r) (hK:Go (K r)):n0 P g f args H nx K:=
 ⟨⟨r,fun hg K' hK'=>((h hg).G2 (K:=fun r' H' n=>r'=r∧H'=H∧n=nx) hr ⟨rfl,rfl,rfl⟩).more (by rintro _ _ _ ⟨rfl,rfl,rfl⟩;exact⟨_,Nat.le_succ _,hK'⟩),hK⟩⟩
theorem aw {P:Program} {f:FuncId} {args:List AV} {H:Hp} {nx:Nat} {r:AV} {K:AV→Hp→Nat→Prop} (h:cM P f args H nx (fun r' H' _=>r'=r∧H'=H)) (hr:gZ r) (hK:Go (K r H nx)):jF P f args H nx K:=⟨h.G2 hr hK⟩
def kB (P:Program) (f:FuncId) (args:List AV) (H:Hp) (nx:Nat) (r:AV):Prop:=cM P f args H nx (fun r' H' _=>r'=r∧∀b,b<nx→bj H' b=bj H b)
theorem kB.exact {P:Program} {f:FuncId} {args:List AV} {H:Hp} {nx:Nat} {r:AV} (h:kB P f args H nx r):cM P f args H nx (fun r' H' _=>r'=r∧H'=H):=by
 refine⟨h.1,fun w0 c vs hS hH hU hv=>(h.2 w0 c vs hS hH hU hv).mono ?_⟩
 rintro e w' ⟨v,r',H',nx',ρ,U,rfl,⟨rfl,hk⟩,hU',hS',hle,hvr⟩
 have h2:∀b,bj H b=bj H' b∨bj H b=none:=by
  intro b
  by_cases hb:b<nx
  ·exact .inl (hk b hb).symm
  ·cases hg:bj H b with
   |none=>exact .inr rfl
   |some k=>
    exfalso
    obtain⟨e,sz,d,es⟩:=k
    exact hb (hU b (hS.row b e sz d es (by rw[hH];exact hg)).1)
 obtain⟨s1,s2⟩:=hS'.drop h2
 exact⟨v,_,_,nx',ρ,U,rfl,⟨rfl,rfl⟩,hU',s1,hle.trans s2,VR.cE s2 hvr⟩
theorem aT {P:Program} {f:FuncId} {args:List AV} {H:Hp} {nx:Nat} {r:AV} {K:AV→Hp→Nat→Prop} (h:kB P f args H nx r) (hr:gZ r) (hK:Go (K r H nx)):jF P f args H nx K:=aw h.exact hr hK
theorem aS {P:Program} {f:FuncId} {args:List AV} {H:Hp} {nx:Nat} {g:Bool} {r:AV} {K:AV→Prop} (h:g=true→kB P f args H nx r) (hr:gZ r) (hK:Go (K r)):n0 P g f args H nx K:=au (fun hg=>(h hg).exact) hr hK
theorem cS {H:Hp} {b d:Nat} {v:Option eP} (hne:b≠d):bj ((d,v)::H) b=bj H b:=by simp[bj,hne]
theorem pq.look {r r':AV} {H H':Hp} {nx nx':Nat} (h:r'=r) (hk:∀b,b<nx→bj H' b=bj H b):pq (fun r' H' _=>r'=r∧∀b,b<nx→bj H' b=bj H b) r' H' nx':=⟨⟨h,hk⟩⟩
theorem G8 (d:Nat) (k:IntKind) (i:Nat):kD d (some (.sc (.int k (i:Int))))=some i:=by
 simp only[kD];rw[if_pos (by omega)];simp
theorem KB {H:Hp} {s:Nat} {d:AV} {es:List AV} {lo hi:Option AV} {l h:Nat} (h1:kD 0 lo=some l) (h2:kD es.length hi=some h) (h3:l≤h∧h≤es.length):rk H s lo hi (.im s d es)=some (.im s d ((es.drop l).take (h - l))):=by
 simp only[rk,h1,h2];rw[if_pos ⟨trivial,h3⟩]
structure L6 (a b:Nat):Prop where
 ne:a≠b
def tX (b:Nat):List Nat→Prop
 |[]=>True
 |x::l=>L6 b x∧tX b l
def JL (s t:List Nat×Option Nat):Prop:=match s.2,t.2 with
 |none,none=>True
 |some b,none=>tX b t.1
 |none,some b=>tX b s.1
 |some b,some b'=>tX b t.1∧tX b' s.1∧L6 b b'
def x6 (tr:Tr):List (Nat×Nat)→Prop
 |[]=>True
 |p::ps=>JL (tr.getD p.1 ([],none)) (tr.getD p.2 ([],none))∧x6 tr ps
theorem kY {b:Nat}:∀{l:List Nat},tX b l→b∉l
 |[],_=>by simp
 |x::l,h=>by
  have h1:=h.1.ne
  have h2:=kY h.2
  simp[h1,h2]
theorem zj {s t:List Nat×Option Nat} (h:JL s t):uL s t:=by
 obtain⟨s1,s2⟩:=s
 obtain⟨t1,t2⟩:=t
 cases s2<;>cases t2<;>simp only[JL] at h<;>simp only[uL]
 ·simp
 ·refine⟨by simp, ?_,by simp⟩
  rintro b ⟨⟩;exact kY h
 ·refine⟨?_,by simp,by simp⟩
  rintro b ⟨⟩;exact kY h
 ·refine⟨?_, ?_, ?_⟩
  ·rintro b ⟨⟩;exact kY h.1
  ·rintro b ⟨⟩;exact kY h.2.1
  ·rintro b ⟨h1,h2⟩
   cases h1;cases h2;exact h.2.2.ne rfl
theorem ql {tr:Tr}:∀{ps:List (Nat×Nat)},x6 tr ps→iM tr ps
 |[],_=>by intro p hp;cases hp
 |q::ps,h=>by
  intro p hp
  rcases List.mem_cons.1 hp with rfl|hp
  ·exact zj h.1
  ·exact ql h.2 p hp
noncomputable def yU (tr:Tr):Tr→(Tr→Prop)→Prop:=List.rec (motive:=fun _=>Tr→(Tr→Prop)→Prop) (fun acc K=>K acc) (fun x _ ih acc K=>ih (x::acc) K) tr
theorem zJ:∀(tr acc:Tr) (K:Tr→Prop),yU tr acc K=K (tr.reverse++acc)
 |[],acc,K=>rfl
 |x::tr,acc,K=>by
  show yU tr (x::acc) K=_
  rw[zJ tr];simp
theorem aa {tr:Tr} {ps:List (Nat×Nat)} (h:Go (yU tr [] fun t=>x6 t ps)):Ask (iM tr.reverse ps):=⟨ql (by have h2:yU tr [] fun t=>x6 t ps:=h;rw[zJ,List.append_nil] at h2;exact h2)⟩
theorem F9 {fr:Fr} {H:Hp}:jM fr H []=some []:=rfl
theorem GA {fr:Fr} {H:Hp} {t:Nat} {r:List kL} {q:List AV} (h:jM fr H r=some q):jM fr H (.tmp t::r)=some (cZ fr t::q):=by simp only[jM,h]
theorem A7 {fr:Fr} {H:Hp} {t k b len i off sz:Nat} {ag:Bool} {e:TypeId} {d x:AV} {es q:List AV} {r:List kL} (h1:cZ fr t= .pt b len i off) (h2:bj H b=some (.row e sz d es)) (h3:es.length=len)
 (h4:xn ag k (es.getD i d) sz off=some x) (h5:jM fr H r=some q):jM fr H (.cell t ag k::r)=some (x::q):=by
 have:lQ H (.pt b len i off)=some (sz,es.getD i d,off):=by simp only[lQ,h2,h3];simp
 simp only[jM,h1,this,h4,h5]
end Go.ch
/- Questions that answer themselves: each is asked with the way in which it is answered. -/
namespace Go.ch
open Go.RowKit
theorem jA {l:List AV} {n k m:Nat} (hl:l.length=m) (h:(n+m) * k≤140737488355328):(n+l.length) * k≤py:=by rw[hl];exact h
theorem ua {H:Hp} {s b len:Nat} {e:TypeId} {d:AV} {es:List AV} {lo hi:Option AV} {l h:Nat} (h0:bj H b=some (.row e s d es)) (hl:es.length=len) (h1:kD 0 lo=some l) (h2:kD len hi=some h) (h3:l≤h∧h≤len):rk H s lo hi (.sl b len)=some (.sv b len l (h - l)):=by
 simp only[rk,h0,h1,h2];rw[if_pos ⟨hl,trivial,h3⟩]
theorem IB {H:Hp} {b len sz:Nat} {e:TypeId} {d:AV} {es:List AV} (h:bj H b=some (.row e sz d es)) (h2:es.length=len∧0<len):rR H (.sl b len)=some (some false):=by
 simp only[rR,h];rw[if_pos h2]
theorem FX {H:Hp} {b:Nat}:rR H (.sl b 0)=some none:=by
 simp only[rR]
 split
 ·rw[if_neg (by omega)]
 ·rfl
theorem mh {α:Type} {l:List α} {i:Nat} {v d:α} (h:i<l.length):(l.set i v).getD i d=v:=by simp[List.getD,h]
theorem cD:(∀n:Nat,(n:Int).toNat=n)∧(∀(p:Prop) [Decidable p] (b:Bool),(if p then true else b)=(decide p||b))∧(∀(p:Prop) [Decidable p] (b:Bool),(if p then b else false)=(decide p&&b))∧(∀(p:Prop) [Decidable p] (b:Bool),(if p then false else b)=(!decide p&&b))∧(∀(p:Prop) [Decidable p] (b:Bool),(if p then b else true)=(!decide p||b))∧
 (∀b:Bool,decide (b=true)=b)∧(∀(p:Prop) [Decidable p],(decide p=true)=p)∧(∀(p:Prop) [Decidable p],(decide p=false)=¬p)∧(∀a b:Bool,((a&&b)=true)=(a=true∧b=true))∧(∀a b:Bool,((a||b)=true)=(a=true∨b=true))∧(∀b:Bool,((!b)=true)=(b=false))∧(∀b:Bool,((!b)=false)=(b=true))∧
 (∀a b:Bool,((a&&b)=false)=(a=false∨b=false))∧(∀a b:Bool,((a||b)=false)=(a=false∧b=false))∧(∀a b:Int,(¬a<b)=(b≤a))∧(∀a b:Int,(¬a≤b)=(b<a))∧(∀(p:Prop) [Decidable p],(¬¬p)=p):=by
 refine⟨by simp,fun p _ b=> ?_,fun p _ b=> ?_,fun p _ b=> ?_,fun p _ b=> ?_,by simp,by simp,by simp,by simp,by simp,by simp,by simp,by simp,by simp,fun a b=>propext Int.not_lt,fun a b=>propext Int.not_le,fun p _=>propext Decidable.not_not⟩
 all_goals by_cases h:p<;>simp[h]
theorem bk {p:Prop} (h:p:=by repeat(first|exact ck _ _ _|assumption|refine zq (by first|omega|(simp only[List.length_cons,List.length_nil];omega)) ?_)):p:=h
theorem cH {p:Prop} (h:p:=by first|omega|(simp only[List.length_cons,List.length_nil];omega)):p:=h
theorem jk {p:Prop} (h:p:=by intro _b _hb;repeat(first|exact rfl|(refine Eq.trans (cS (by first|omega|(simp only[List.length_cons,List.length_nil];omega))) ?_))):p:=h
theorem bt {p:Prop} (h:p:=by repeat' (first|exact True.intro|refine And.intro ?_ ?_|exact rfl|((conv=>lhs;whnf);(first|(simp<;>fail)|(simp;omega))))):p:=h
theorem MI {p:Prop} (h:p:=by first|exact rfl|(simp only[List.length_set,List.length_map,List.length_append,List.length_cons,List.length_nil,List.length_take,List.length_drop,List.length_replicate,Int.toNat_natCast]<;>fail)|(simp only[List.length_set,List.length_map,List.length_append,List.length_cons,List.length_nil,List.length_take,List.length_drop,List.length_replicate,Int.toNat_natCast];omega)):p:=h
theorem bw {p:Prop} (h:p:=by first|exact rfl|omega|assumption|exact id|(intro h;exact h▸rfl)|(intro h;rw[h]<;>rfl)|(intros;exact rfl)|(intro h;(try simp only[List.length_map,ne_eq,cD] at h);omega)|(simp only[List.length_set,List.length_map,List.length_append,List.length_cons,List.length_nil,List.length_take,List.length_drop,List.length_replicate,Int.toNat_natCast];omega)|(intro _;constructor<;>first|exact rfl|exact Nat.le_of_ble_eq_true rfl|omega)):p:=h
theorem br {p:Prop} (h:p:=by first|(intro h;simp_all<;>fail)|(refine jA (m:=1) rfl ?_;omega)|(show(_:Nat)≤140737488355328;first|omega|(simp only[List.length_set,List.length_map,List.length_append,List.length_cons,List.length_nil,List.length_take,List.length_drop,List.length_replicate,Int.toNat_natCast];omega))|(exact Nat.le_of_ble_eq_true rfl)|(constructor<;>first|exact rfl|exact Nat.le_of_ble_eq_true rfl|omega)|(simp_all<;>fail)):p:=h
theorem ux {p:Prop} (h:p:=by first|omega|(intro hg;simp only[Gd,List.length_map,ne_eq,cD] at hg;omega)|(intros;simp only[List.length_map,Int.toNat_natCast];omega)):p:=h
theorem bm {p:Prop} (h:p:=by first|assumption|(refine mh ?_;first|omega|(simp only[List.length_set,List.length_map,List.length_append,List.length_cons,List.length_nil,List.length_take,List.length_drop,List.length_replicate,Int.toNat_natCast];omega))|(refine dJ _ _ _ _ ?_;first|omega|(simp only[List.length_map,Int.toNat_natCast];omega))|exact rfl):p:=h
theorem MJ {p:Prop} (h:p:=by constructor<;>first|exact rfl|omega|(simp only[List.length_set,List.length_map,List.length_append,List.length_cons,List.length_nil,List.length_take,List.length_drop,List.length_replicate,Int.toNat_natCast];omega)):p:=h
theorem vD (d:Nat) (k:IntKind) (i:Nat):kD d (some (.sc (.int k (((i+1:Nat):Int) - 1))))=some i:=by
 simp only[kD];rw[if_pos (by omega)];congr 1;omega
theorem sI {p:Prop} (h:p:=by first|exact rfl|exact G8 _ _ _|exact vD _ _ _|((simp only[List.length_map,List.length_append,List.length_cons,List.length_nil,Nat.zero_add]);exact vD _ _ _)|(conv=>lhs;whnf);exact rfl):p:=h
theorem KW {p:Prop} (h:p:=by(try simp only[List.length_set,List.length_map,List.length_append,List.length_cons,List.length_nil,List.length_take,List.length_drop,List.length_replicate,Int.toNat_natCast]);omega):p:=h
theorem xP {p:Prop} (h:p:=by first|exact rfl|exact FX|exact IB bk MJ|exact ua bk MI sI sI KW|exact KB sI sI KW):p:=h
theorem KX {p:Prop} (h:p:=by repeat(first|exact F9|(apply GA)|(apply A7;(·exact rfl);(·exact bk);(·exact rfl);(·exact rfl)))):p:=h
theorem cO {p:Prop} (h:p:=by first|(simp[cL,cG,cJ]<;>fail)):p:=h
end Go.ch
/- Rows told anew at a function's end: the general rule. -/
namespace Go.ch
open Go.RowKit
theorem Wk.tell {r r2:AV} {H H2:Hp} {nx nx2:Nat} (hn:nx≤nx2)
 (hrow:∀b e sz d es,bj H2 b=some (.row e sz d es)→(∃d0 es0,bj H b=some (.row e sz d0 es0)∧es0.length=es.length)∨(nx≤b∧b<nx2∧es=[]∧0<sz))
 (hval:∀(w0:World) (c c2:Cx),dS w0 c→(∀b,c.U b→b<nx)→c.H=bj H→c2.H=bj H2→c2.w=c.w→c.le c2→
  (∀b e sz d,nx≤b→bj H2 b=some (.row e sz d [])→c2.U b∧c2.ρ b=none)→
  (∀b k blk o z,bj H b=some k→bj H2 b=none→c.ρ b=some (blk,o,z)→¬c2.M blk)→
  dZ c c2 r r2∧∀b e sz d es d0 es0,bj H2 b=some (.row e sz d es)→bj H b=some (.row e sz d0 es0)→dA c c2 es0 es):
 Wk r H nx r2 H2 nx2:=by
 intro w0 ρ U w M0 hU hS
 let ρ2:Nat→Option (Nat×Nat×Nat):=fun b=>if b<nx then ρ b else none
 let U2:Nat→Prop:=fun b=>U b∨(nx≤b∧b<nx2)
 have hR:qV ⟨ρ,bj H,U,w,M0⟩ ⟨ρ2,bj H2,U2,w,M0⟩:=by
  refine⟨rfl,rfl,fun b hb=> .inl hb,fun b hb=> ?_,fun b e sz d es he=> ?_⟩
  ·show(if b<nx then ρ b else none)=ρ b
   rw[if_pos (hU b hb)]
  ·rcases hrow b e sz d es he with⟨d0,es0,h2,h3⟩|⟨h1,h2,h3,h4⟩
   ·have hu:U b:=(hS.row b e sz d0 es0 h2).1
    exact⟨.inl hu, .inl ⟨d0,es0,h2,hu,h3⟩⟩
   ·refine⟨.inr ⟨h1,h2⟩, .inr ⟨h3,fun hu=> ?_, ?_,h4⟩⟩
    ·have:=hU b hu;omega
    ·show(if b<nx then ρ b else none)=none
     rw[if_neg (by omega)]
 have hle:=hR.le
 have hv:=hval w0 ⟨ρ,bj H,U,w,M0⟩ ⟨ρ2,bj H2,U2,w,M0⟩ hS hU rfl rfl rfl hle
  (fun b e sz d hb he=>by
   rcases hrow b e sz d [] he with⟨d0,es0,h2,_⟩|⟨h1,h2,_⟩
   ·have h1:b<nx:=hU b (hS.row b e sz d0 es0 h2).1
    omega
   ·refine⟨.inr ⟨h1,h2⟩, ?_⟩
    show(if b<nx then ρ b else none)=none
    rw[if_neg (by omega)])
  (fun b k blk o z hb hb2 hρ hm=>by
   have hlt:=hS.L5 hb hρ
   rcases hm with h0|⟨x,k2,o2,z2,hx,hρ2⟩
   ·have:=hS.m0.lt blk h0
    simp only at hlt
    omega
   ·obtain⟨e,sz,d,es⟩:=k2
    have hρ2:(if x<nx then ρ x else none)=some (blk,o2,z2):=hρ2
    have hx:bj H2 x=some (.row e sz d es):=hx
    rcases hrow x e sz d es hx with⟨d0,es0,h2,_⟩|⟨h1,_⟩
    ·have h1:x<nx:=hU x (hS.row x e sz d0 es0 h2).1
     rw[if_pos h1] at hρ2
     have:=hS.inj b x _ _ blk o z o2 z2 hb h2 hρ hρ2
     subst this
     rw[hx] at hb2;cases hb2
    ·rw[if_neg (by omega)] at hρ2;cases hρ2)
 refine⟨ρ2,U2, ?_,hR.NC hS hv.2,hle,hv.1⟩
 rintro b (hb|⟨_,hb⟩)
 ·have:=hU b hb;omega
 ·exact hb
theorem Wk.refl (r:AV) (H:Hp) (nx:Nat):Wk r H nx r H nx:=by
 intro w0 ρ U w M0 hU hS
 exact⟨ρ,U,hU,hS,Cx.le.refl _,fun v hv=>hv⟩
theorem Wk.nil {H:Hp} {nx:Nat} (e:TypeId) (sz:Nat) (d:AV) (hsz:0<sz):Wk (.sc (.slice none 0 0)) H nx (.sl nx 0) ((nx,some (.row e sz d []))::H) (nx+1):=by
 refine Wk.tell (Nat.le_succ _) (fun b e' sz' d' es he=> ?_) (fun w0 c c2 hS hU hc hc2 hw hle hnew _=>⟨?_,fun b e' sz' d' es d0 es0 h1 h2=> ?_⟩)
 ·by_cases hb:b=nx
  ·subst hb
   rw[ck] at he
   cases he
   exact .inr ⟨Nat.le_refl _,Nat.lt_succ_self _,rfl,hsz⟩
  ·rw[cS hb] at he
   exact .inl ⟨d',es,he,rfl⟩
 ·have h:=hnew nx e sz d (Nat.le_refl _) (ck _ _ _)
  exact dZ.nil (e:=e) (sz:=sz) (d:=d) h.1 (by rw[hc2,ck]) h.2
 ·by_cases hb:b=nx
  ·subst hb
   rw[ck] at h1
   cases h1
   have h3:c.H b=some (.row e sz d0 es0):=by rw[hc];exact h2
   exact absurd (hU _ (hS.row _ _ _ _ _ h3).1) (Nat.lt_irrefl _)
  ·rw[cS hb] at h1
   rw[h1] at h2
   cases h2
   exact dA.cE hle _
theorem cM.CK {P:Program} {f:FuncId} {args args2:List AV} {e:TypeId} {sz:Nat} {es:List AV} (h:cM P f args2 [] 0 (fun r1 H1 _=>∃b d0,r1= .sl b es.length∧bj H1 b=some (.row e sz d0 es))) (hfl:∀i,i<es.length→gZ (es.getD i .any)) (d:AV) {H:Hp} {id:Nat} (ha:args.map (dk H 6)=args2) (hfa:cL 0 args2):
 ma P f args H id (fun r' H''=>r'= .sl id es.length∧H''=cw H (some (id, .row e sz d es))):=by
 refine⟨h.1,fun w0 c vs hS hH hid hv=> ?_⟩
 have hS0:dS c.w ⟨fun _=>none,bj [],fun _=>False,c.w,c.M0⟩:=⟨Below.refl _ _,hS.kF,fun b e sz d es he=>by simp[bj] at he,fun b b' k k' blk o z o' z' hk=>by simp[bj] at hk⟩
 subst ha
 have hv':cY ⟨fun _=>none,bj [],fun _=>False,c.w,c.M0⟩ (args.map (dk H 6)) vs:=kP hS hH hfa hv
 refine(h.2 c.w _ vs hS0 rfl (fun _ h=>h.elim) hv').mono ?_
 rintro en w' ⟨v,r1,H1,nx',ρ,U,he,⟨b,d0,rfl,hb⟩,hU,hS',_,hvr⟩
 rw[VR] at hvr
 obtain⟨_,ad,cap,hvv,hrr⟩:=hvr
 obtain⟨_,hr2⟩:=hrr _ _ _ _ hb
 have hr3:=hr2 rfl
 obtain⟨_,hz,hor⟩:=hS'.m8 b _ _ _ _ hb (sZ hr3)
 have hbel:=hS'.below
 obtain⟨s1,s2⟩:=hS.world hbel
 have hHeq:bj (cw H (some (id, .row e sz d es)))=gM c.H id (some (.row e sz d es)):=by rw[dX,hH]
 rcases hor with⟨h0,hes⟩|⟨blk,o,z,hρ,hlow,⟨arr,harr,hsz⟩,hlz,hrow⟩
 ·subst hes
  obtain⟨p1,p2⟩:=s1.IF (b:=id) (e:=e) (sz:=sz) d hz hid
  refine⟨v,_,_,gM c.ρ id none,he,⟨rfl,rfl⟩, ?_, ?_, ?_⟩
  ·rw[hHeq];exact p1
  ·rw[hHeq];exact s2.trans p2
  ·rw[hHeq,VR]
   refine⟨.inr rfl,ad,cap,hvv,fun e' sz' d' es' he'=> ?_⟩
   simp only[iA,dG,Option.some.injEq,eP.row.injEq] at he'
   obtain⟨rfl,rfl,rfl,rfl⟩:=he'
   refine⟨Nat.le_refl _,fun _=> .inl ⟨by simp[iA], ?_⟩⟩
   rcases hr3 with⟨_,h2,h3⟩|⟨blk,o,z,h2,_⟩
   ·exact⟨h2,h3⟩
   ·rw[h0] at h2;cases h2
 ·obtain⟨p1,p2⟩:=hS.ra (b:=id) (e:=e) (sz:=sz) d (es:=es) (w':=w') (blk:=blk) (o:=o) (z:=z) hz (.inl hid) (.inl hlow) hbel.os hbel.tape hbel.output hbel.size (fun k hk _=>hbel.block k hk) harr hsz hlz (fun hle i hi=>by
   obtain⟨x,x1,x2⟩:=eM hrow i hi
   refine⟨x,x1,l9 ?_ x2⟩
   have:=hfl i hi
   simpa[List.getD,hi] using this)
  refine⟨v,_,_,gM c.ρ id (some (blk,o,z)),he,⟨rfl,rfl⟩, ?_, ?_, ?_⟩
  ·rw[hHeq];exact p1
  ·rw[hHeq];exact p2
  ·rw[hHeq,VR]
   refine⟨.inr rfl,ad,cap,hvv,fun e' sz' d' es' he'=> ?_⟩
   simp only[iA,dG,Option.some.injEq,eP.row.injEq] at he'
   obtain⟨rfl,rfl,rfl,rfl⟩:=he'
   refine⟨by omega,fun _=> .inr ⟨blk,o,z,by simp[iA], ?_⟩⟩
   rcases hr3 with⟨h2,_,_⟩|⟨blk',o',z',h2,h3,h4,h5,h6⟩
   ·rw[hρ] at h2;cases h2
   ·rw[hρ] at h2;cases h2
    exact⟨h3,h4,h5,h6⟩
theorem ae {P:Program} {f:FuncId} {args args2:List AV} {e:TypeId} {sz:Nat} {es:List AV} {H:Hp} {id:Nat} {K:AV→Option (Nat×eP)→List Nat→Prop} (S:List Nat) (d:AV)
 (h:cM P f args2 [] 0 (fun r1 H1 _=>∃b d0,r1= .sl b es.length∧bj H1 b=some (.row e sz d0 es))) (hfl:∀i,i<es.length→gZ (es.getD i .any)) (ha:∀H1,(∀b∈S,bj H1 b=bj H b)→args.map (dk H1 6)=args2) (hfa:cL 0 args2)
 (hK:Go (K (.sl id es.length) (some (id, .row e sz d es)) S)):lK P id f args H K:=
 lK.fresh S (fun H1 h1=>h.CK hfl d (ha H1 h1) hfa) (fun b q hq=>by cases hq;rfl) hK
theorem qo {n:Nat}:∀{as:List AV},cL n as→∀a∈as,cG n a
 |[],_,a,h=>by cases h
 |b::as,hf,a,h=>by
  rw[cL] at hf
  rcases List.mem_cons.1 h with rfl|h
  ·exact hf.1
  ·exact qo hf.2 a h
theorem wV {f:AV→AV} {l:List AV} (h:∀a∈l,f a=a):l.map f=l:=by
 induction l with
 |nil=>rfl
 |cons a l ih=>rw[List.map_cons,h a (by simp),ih fun b hb=>h b (by simp[hb])]
theorem dB {H:Hp}:∀(k:Nat) {a:AV},cG 0 a→dk H k a=a
 |0,a,hf=>by cases a<;>simp only[dk]
 |k+1,a,hf=>by
  have ih:=fun {l:List AV} (hl:cL 0 l)=>wV (f:=dk H k) (fun a ha=>dB k (qo hl a ha))
  cases a<;>simp only[cG] at hf<;>simp only[dk]
  case sl=>omega
  case sv=>omega
  case pt=>omega
  case agg cs=>rw[ih hf]
  case dI cs=>rw[ih hf]
  case fn f p q=>rw[ih hf.1,ih hf.2]
  case ll t x=>rw[dB k hf]
end Go.ch
end
