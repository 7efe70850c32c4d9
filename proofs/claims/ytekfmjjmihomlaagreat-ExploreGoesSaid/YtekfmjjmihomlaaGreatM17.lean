import Derived.Test.YtekfmjjmihomlaaGreatM15
import Derived.Test.YtekfmjjmihomlaaGreatM16
import Derived.IntWalk
section
/- Marks for the walk: what is still to be reduced. -/
namespace Go.cO
open Go.RowKit
def Go (p:Prop):Prop:=p
theorem aF {p:Prop} (h:p):Go p:=h
theorem aD {p q:Prop} (h1:Go p) (h2:Go q):p∧q:=⟨h1,h2⟩
theorem aA {es:List AV} {i:Nat} {d:AV} {K:AV→Prop} {e:AV} (h:es.getD i d=e) (k:Go (K e)):mZ es i d K:=mZ.of h k
theorem bT {H:Hp} {b:Nat} {K:TypeId→Nat→AV→List AV→Prop} {e:TypeId} {sz:Nat} {d:AV} {es:List AV} (h:bd H b=some (.row e sz d es)) (k:Go (K e sz d es)):fJ H b K:=fJ.of h k
theorem bA {α:Type} {x:Option α} {K:α→Prop} {a:α} (h:x=some a) (k:Go (K a)):iF x K:=iF.of h k
theorem wrap64 {n:Int} (h1:-9223372036854775808≤n) (h2:n<9223372036854775808):IntKind.i64.wrap n=n:=IntWalk.i64_in _ (by omega)
theorem J6 {n:Int} (h1:0≤n) (h2:n<256):IntKind.u8.wrap n=n:=by
 simp only[IntKind.wrap,IntKind.signed,IntKind.bits]
 first|omega|(simp;omega)
theorem bK {g:Option Bool} {k:IntKind} {n:Int} {K:Int→Prop} (hK:Go (K (k.wrap n))):ph g k n K:=ph.of (fun _=>rfl) hK
theorem ax {g:Option Bool} {n:Int} {K:Int→Prop} (h1:Gd g→-9223372036854775808≤n) (h2:Gd g→n<9223372036854775808) (hK:Go (K n)):ph g .i64 n K:=ph.of (fun hg=>wrap64 (h1 hg) (h2 hg)) hK
theorem ay {g:Option Bool} {n:Int} {K:Int→Prop} (h1:Gd g→0≤n) (h2:Gd g→n<256) (hK:Go (K n)):ph g .u8 n K:=ph.of (fun hg=>J6 (h1 hg) (h2 hg)) hK
theorem bR {t:Bool} {A B:Prop} (ht:t=true) (h:Go A):eL t A B:=by subst ht;exact eL.lt h
theorem bQ {t:Bool} {A B:Prop} (ht:t=false) (h:Go B):eL t A B:=by subst ht;exact eL.lf h
theorem b6 {t w:Bool} {A B J:Prop} (ht:t=w) (h:Go A):de t w A B J:=by subst ht;exact⟨.inl ⟨fun _=>h,fun h=>absurd rfl h⟩⟩
theorem bZ {t w:Bool} {A B J:Prop} (ht:t= !w) (h:Go B):de t w A B J:=⟨.inl ⟨fun h2=>(by subst h2;cases t<;>cases ht),fun _=>h⟩⟩
theorem ba {A B:Prop} (h:Go A):eL true A B:=eL.lt h
theorem b9 {A B:Prop} (h:Go B):eL false A B:=eL.lf h
theorem aB {t:Bool} {A B:Prop} (h1:t=true→Go A) (h2:t=false→Go B):eL t A B:=eL.of h1 h2
theorem bc {A B J:Prop} (h:Go A):de true true A B J:=de.tt h
theorem bN {t want:Bool} {A B J:Prop} (h:Go J):de t want A B J:=de.join h
theorem b7 {t want:Bool} {A B J:Prop} (h1:t=want→Go A) (h2:t= !want→Go B):de t want A B J:=de.split h1 h2
def wF (K:List AV→Prop):Prop:=K []
def tO (a:AV) (_:List AV) (ih:(List AV→Prop)→Prop) (K:List AV→Prop):Prop:=fA a fun a=>ih fun r'=>K (a::r')
noncomputable def wE (l:List AV):(List AV→Prop)→Prop:=List.rec (motive:=fun _=>(List AV→Prop)→Prop) wF tO l
theorem q9:∀(l:List AV) (K:List AV→Prop),wE l K=K l
 |[],_=>rfl
 |a::r,K=>by
  show fA a (fun a=>wE r fun r'=>K (a::r'))=_
  rw[eE,q9 r]
noncomputable def wC (v:AV) (K:AV→Prop):Prop:=
 match v with
 | .dc l=>wE l fun l=>K (.dc l)
 |v=>fA v K
theorem q8 (v:AV) (K:AV→Prop):wC v K=K v:=by
 cases v<;>first|rfl|exact q9 _ _
structure IU (R:AV→Prop) (r:AV):Prop where
 ok:bx 0 r∧R r
theorem IU.eq {u:AV} {r:AV} (hf:bx 0 u) (h:r=u):IU (fun x=>x=u) r:=⟨by rw[h];exact hf,h⟩
structure AW (R:AV→Hp→Nat→Prop) (r:AV) (H:Hp) (nx:Nat):Prop where
 ok:R r H nx
noncomputable def JR (lrs:List ic) (R:AV→Prop):QT
 | .exit _,_,_,_=>False
 |_,fr,H,_=>iF (gU fr H lrs) fun rs=>wC (dR H 6 (pack rs)) (IU R)
theorem JS {lrs:List ic} {R:AV→Prop} {e:Ex} {fr:Fr} {H:Hp} {nx:Nat} (h:JR lrs R e fr H nx):G5 lrs R e fr H nx:=by
 cases e
 case exit=>exact h
 all_goals
  obtain⟨rs,h1,h2⟩:=h.ok
  rw[q8] at h2
  simp only[G5,h1,iE]
  exact h2.ok
noncomputable def y7 (lrs:List ic) (R:AV→Hp→Nat→Prop):QT
 | .exit _,_,_,_=>False
 |_,fr,H,nx=>iF (gU fr H lrs) fun rs=>wC (pack rs) fun r=>AW R r H nx
theorem G4 {lrs:List ic} {R:AV→Hp→Nat→Prop} {e:Ex} {fr:Fr} {H:Hp} {nx:Nat} (h:y7 lrs R e fr H nx):wj lrs R e fr H nx:=by
 cases e
 case exit=>exact h
 all_goals
  obtain⟨rs,h1,h2⟩:=h.ok
  rw[q8] at h2
  simp only[wj,h1,iE]
  exact h2.ok
section
variable {P:Program} {f:FuncId} {args:List AV} {H:Hp} {nx:Nat}
theorem aO {r:AV} {K:AV→Hp→Nat→Prop} (h:Pure P f args (fun x=>x=r)) (hf:cN 0 args) (hK:Go (K r H nx)):gB P f args H nx K:=gB.ER h hf hK
theorem aJ {R K:AV→Hp→Nat→Prop} (h:cD P f args H nx R) (hK:∀r H' nx',R r H' nx'→Go (K r H' nx')):gB P f args H nx K:=gB.of h hK
theorem aN {g:Bool} {r:AV} {K:AV→Prop} (h:g=true→Pure P f args (fun x=>x=r)) (hf:cN 0 args) (hK:Go (K r)):lY P g f args H nx K:=lY.ER h hf hK
theorem aL {id:Nat} {r:AV} {K:AV→Option (Nat×dv)→List Nat→Prop} (h:Pure P f args (fun x=>x=r)) (hf:cN 0 args) (hK:Go (K r none [])):j4 P id f args H K:=j4.ER h hf hK
theorem aM {g:Bool} {id:Nat} {r:AV} {K:AV→List Nat→Prop} (h:g=true→Pure P f args (fun x=>x=r)) (hf:cN 0 args) (hK:Go (K r [])):qH P g id f args H K:=qH.ER h hf hK
theorem bO {fn:Func} {lc:LC} {lrs:List ic} {R:AV→Prop} (hf:P.funcs[f]?=some fn) (hname:(fn.name== "runtime.NumGoroutine")=false)
 (hl:(fn.body.bind (cX P fn.ntmps))=some lc) (hr:fT P fn.results.toList=some lrs) {n:Nat} (hn:n=fn.ntmps) (ha:Nat.ble args.length n=true)
 (h:Go (W P n 0 lc (iL 0 args) [] 0 (JR lrs R))):Pure P f args R:=by
 subst hn
 exact Pure.jy hf hname hl hr (Nat.le_of_ble_eq_true ha) ((eu h).mono fun _ _ _ _=>JS)
theorem bY {fn:Func} {lc:LC} {lrs:List ic} {R:AV→Hp→Nat→Prop} (hf:P.funcs[f]?=some fn) (hname:(fn.name== "runtime.NumGoroutine")=false)
 (hl:(fn.body.bind (cX P fn.ntmps))=some lc) (hr:fT P fn.results.toList=some lrs) {n:Nat} (hn:n=fn.ntmps) (ha:Nat.ble args.length n=true)
 (h:Go (W P n nx lc (iL 0 args) H nx (y7 lrs R))):cD P f args H nx R:=by
 subst hn
 exact cD.jy hf hname hl hr (Nat.le_of_ble_eq_true ha) ((eu h).mono fun _ _ _ _=>G4)
theorem az {segs:List oP} {fr:Fr} {H:Hp} {nx:Nat} {Q:QT} (h:Go (WS P nx segs [] fr H fun ov H' nx'=>Q .normal (fV ov fr) H' nx')):fj P segs fr H nx Q:=fj.of h
theorem aR {n lo:Nat} {x:LC} {fr:Fr} {Q:QT} {σ:Type} (F:σ→Fr) (I:σ→Hp→Nat→Prop) (μ:σ→Nat) (s0:σ) (h0:iM fr (F s0)) (h1:I s0 H nx)
 (round:∀s H nx,I s H nx→Go (W P n lo x (F s) H nx (iA (fun fr' H' nx'=>∃s',μ s'<μ s∧iM fr' (F s')∧I s' H' nx') Q))):gC P n lo x fr H nx Q:=gC.fr F I μ s0 h0 h1 round
structure l3 (P:Program) (n lo:Nat) (x:LC) (fr:Fr) (H:Hp) (nx:Nat) (Q:QT):Prop where
 ok:∀c1,cX P n c1=some x→∀w0 M0 c0 a w,Holds w0 M0 c0 lo n fr H nx a w→∀b k cs,∃e a' w',LQ w0 M0 c0 lo n Q e a' w'∧Arrives P (lone (b.at a (.code c1:: .inLoop c1::k)) cs w) b k cs e a' w'
theorem b8 {n lo:Nat} {x:LC} {fr:Fr} {Q:QT} (h:l3 P n lo x fr H nx Q):gC P n lo x fr H nx Q:=by
 refine⟨fun code hc w0 M0 c0 a w hh=> ?_⟩
 have:∃c1,code= .loop c1∧cX P n c1=some x:=by
  cases code<;>simp only[cX] at hc
  case loop c1=>
   simp only[Option.map_eq_some_iff,LC.loop.injEq] at hc
   obtain⟨x',h1,rfl⟩:=hc
   exact⟨c1,rfl,h1⟩
  all_goals (exfalso;repeat' (split at hc))<;>simp at hc
 obtain⟨c1,rfl,h1⟩:=this
 intro b k cs
 obtain⟨e,a',w',hq,harr⟩:=h.ok c1 h1 w0 M0 c0 a w hh b k cs
 exact⟨e,a',w',hq, .of_steps (.one step_loop) harr⟩
theorem ao {n lo:Nat} {x:LC} {fr:Fr} {Q:QT} (h:Go (W P n lo x fr H nx (iA (fun fr H nx=>l3 P n lo x fr H nx Q) Q))):l3 P n lo x fr H nx Q:=by
 refine⟨fun c1 h1 w0 M0 c0 a w hh b k cs=> ?_⟩
 obtain⟨e,a1,w1,hq,harr⟩:=eu h c1 h1 w0 M0 c0 a w hh b (.inLoop c1::k) cs
 obtain⟨x',fr',H',nx',rfl,hQ,hh'⟩:=hq
 cases x' with
 |normal=>
  obtain⟨e2,a2,w2,hq2,harr2⟩:=hQ.ok c1 h1 w0 M0 c0 a1 w1 hh' b k cs
  exact⟨e2,a2,w2,hq2, .of_steps (Steps.trans harr (.one step_inLoop)) harr2⟩
 |exit id=>exact⟨_,a1,w1,⟨.exit id,fr',H',nx',rfl,hQ,hh'⟩, .pass (x:= .inLoop c1) rfl (fun _ _=> .inl (by simp[Ex.to])) harr⟩
 |ret=>exact⟨_,a1,w1,⟨.ret,fr',H',nx',rfl,hQ,hh'⟩, .pass (x:= .inLoop c1) rfl (fun _ _=> .inl (by simp[Ex.to])) harr⟩
end
theorem dJ {α:Type} [Inhabited α] (f:α→AV) (l:List α) (i:Nat) (d:AV) (h:i<l.length):(l.map f).getD i d=f (l.getD i default):=by simp[List.getD,h]
theorem cV (H:Hp) (b:Nat) (k:Option dv):bd ((b,k)::H) b=k:=by simp[bd]
theorem zK {H:Hp} {b d:Nat} {v k:Option dv} (hne:b≠d) (h:bd H b=k):bd ((d,v)::H) b=k:=by simp[bd,hne,h]
end Go.cO
/- What is known turned at a function's end: nil slices get names, rows that are written no more lose theirs; a call that only looks, while the caller's rows stay. -/
namespace Go.cO
open Go.RowKit
def dA (c c2:Cx) (a a2:AV):Prop:=∀v,VR c a v→VR c2 a2 v
theorem dA.cE {c c2:Cx} (h:c.le c2) (a:AV):dA c c2 a a:=fun _ hv=>VR.cE h hv
theorem dA.any (c c2:Cx) (a:AV):dA c c2 a .any:=fun _ _=>by rw[VR];trivial
theorem dA.nil {c c2:Cx} {b:Nat} {e:TypeId} {sz:Nat} {d:AV} (hU:c2.U b) (hH:c2.H b=some (.row e sz d [])) (hρ:c2.ρ b=none):dA c c2 (.sc (.slice none 0 0)) (.sl b 0):=by
 intro v hv
 rw[VR] at hv
 subst hv
 rw[VR]
 refine⟨hU,none,0,rfl,fun e' sz' d' es' he=> ?_⟩
 rw[hH] at he
 cases he
 exact⟨by simp,fun _=> .inl ⟨hρ,rfl,rfl⟩⟩
theorem dA.im {w0:World} {c c2:Cx} (hS:dE w0 c) (hle:c.le c2) {b:Nat} {e:TypeId} {sz:Nat} {d:AV} {es:List AV} (d2:AV) (hw:c2.w=c.w) (hH:c.H b=some (.row e sz d es)) (hM:∀blk o z,c.ρ b=some (blk,o,z)→¬c2.M blk):dA c c2 (.sl b es.length) (.im sz d2 es):=by
 intro v hv
 rw[VR] at hv
 obtain⟨_,a,cap,rfl,hr⟩:=hv
 obtain⟨_,hr⟩:=hr _ _ _ _ hH
 obtain⟨_,hz,hrow⟩:=hS.je b _ _ _ _ hH (sV (hr rfl))
 rw[VR]
 rcases hr rfl with⟨hρ,rfl,rfl⟩|⟨blk,o,z,hρ,rfl,hc1,_,_⟩
 ·rcases hrow with⟨_,rfl⟩|⟨_,_,_,hρ',_⟩
  ·exact⟨none,0,rfl,by simp, .inl rfl⟩
  ·rw[hρ] at hρ';cases hρ'
 ·rcases hrow with⟨hρ',_⟩|⟨blk1,o1,z1,hρ1,_,_,_,hrow⟩
  ·rw[hρ] at hρ';cases hρ'
  ·rw[hρ] at hρ1;cases hρ1
   exact⟨_,cap,rfl,hc1, .inr ⟨blk,o,rfl,hz,hM _ _ _ hρ,dI.cE hle (by rw[hw]) hrow⟩⟩
inductive cm (c c2:Cx):List AV→List AV→Prop where
 |nil:cm c c2 [] []
 |cons {a a2:AV} {as as2:List AV} (h:dA c c2 a a2) (hs:cm c c2 as as2):cm c c2 (a::as) (a2::as2)
theorem cm.length {c c2:Cx} {as as2:List AV} (h:cm c c2 as as2):as.length=as2.length:=by
 induction h with
 |nil=>rfl
 |cons _ _ ih=>simp[ih]
theorem cm.cE {c c2:Cx} (h:c.le c2):∀(as:List AV),cm c c2 as as
 |[]=> .nil
 |a::as=> .cons (dA.cE h a) (cm.cE h as)
theorem cm.MM {c c2:Cx} {as as2:List AV} (h:cm c c2 as as2):∀{vs:List Value},cP c as vs→cP c2 as2 vs:=by
 induction h with
 |nil=>intro vs hv;rw[cP] at hv ⊢;exact hv
 |cons h1 _ ih=>
  intro vs hv
  rw[cP] at hv
  obtain⟨v,vs',rfl,g1,g2⟩:=hv
  rw[cP]
  exact⟨v,vs',rfl,h1 v g1,ih g2⟩
theorem cm.append {c c2:Cx} {as as2 bs bs2:List AV} (h:cm c c2 as as2) (h2:cm c c2 bs bs2):cm c c2 (as++bs) (as2++bs2):=by
 induction h with
 |nil=>exact h2
 |cons h1 _ ih=>exact .cons h1 ih
theorem cm.wY {c c2:Cx}:∀{as as2:List AV},as.length=as2.length→(∀i,i<as.length→dA c c2 (as.getD i .any) (as2.getD i .any))→cm c c2 as as2
 |[],[],_,_=> .nil
 |[],_::_,h,_=>by simp at h
 |_::_,[],h,_=>by simp at h
 |a::as,b::bs,hl,h=> .cons (by simpa using h 0 (by simp)) (cm.wY (by simpa using hl) fun i hi=>by simpa using h (i+1) (by simpa using hi))
theorem dA.agg {c c2:Cx} {as as2:List AV} (h:cm c c2 as as2):dA c c2 (.agg as) (.agg as2):=by
 intro v hv
 rw[VR] at hv ⊢
 obtain⟨vs,rfl,hr⟩:=hv
 exact⟨vs,rfl,h.MM hr⟩
theorem dA.dc {c c2:Cx} {as as2:List AV} (h:cm c c2 as as2):dA c c2 (.dc as) (.dc as2):=by
 intro v hv
 rw[VR] at hv ⊢
 obtain⟨vs,rfl,hr⟩:=hv
 exact⟨vs,rfl,h.MM hr⟩
theorem cm.row {c c2:Cx} (hw:c2.w=c.w) {sz:Nat} {blk:Nat} {as as2:List AV} (h:cm c c2 as as2):∀{o:Nat},dI c sz as blk o→dI c2 sz as2 blk o:=by
 induction h with
 |nil=>intro o _;rw[dI];trivial
 |cons h1 _ ih=>
  intro o hr
  rw[dI] at hr ⊢
  obtain⟨⟨v,g1,g2⟩,g3⟩:=hr
  exact⟨⟨v,by rw[hw];exact g1,h1 v g2⟩,ih g3⟩
structure oO (c c2:Cx):Prop where
 w:c2.w=c.w
 m0:c2.M0=c.M0
 U:∀b,c.U b→c2.U b
 fM:∀b,c.U b→c2.ρ b=c.ρ b
 row:∀b e sz d es,c2.H b=some (.row e sz d es)→c2.U b∧((∃d0 es0,c.H b=some (.row e sz d0 es0)∧c.U b∧es0.length=es.length)∨(es=[]∧¬c.U b∧c2.ρ b=none∧0<sz))
theorem oO.le {c c2:Cx} (h:oO c c2):c.le c2:=by
 refine⟨h.U,by rw[h.w];exact Nat.le_refl _,fun b hm _=>⟨by rw[h.w], ?_⟩,fun b hu e sz d es he=> ?_⟩
 ·rintro(h0|⟨x,k,o,z,hk,hρ⟩)
  ·exact hm (.inl (by rw[←h.m0];exact h0))
  ·obtain⟨e,sz,d,es⟩:=k
   obtain⟨_,⟨d0,es0,h1,h2,_⟩|⟨_,_,h3,_⟩⟩:=h.row x e sz d es hk
   ·exact hm (.inr ⟨x,_,o,z,h1,by rw[←h.fM x h2];exact hρ⟩)
   ·rw[h3] at hρ;cases hρ
 ·obtain⟨_,⟨d0,es0,h1,h2,h3⟩|⟨_,h2,_⟩⟩:=h.row b e sz d es he
  ·exact⟨e,d0,es0,h1, .inl ⟨h3,h.fM b hu⟩⟩
  ·exact absurd hu h2
theorem oO.NQ {w0:World} {c c2:Cx} (h:oO c c2) (hS:dE w0 c) (hv:∀b e sz d es d0 es0,c2.H b=some (.row e sz d es)→c.H b=some (.row e sz d0 es0)→cm c c2 es0 es):dE w0 c2:=by
 refine⟨by rw[h.w];exact hS.below,by rw[h.m0];exact hS.m0,fun b e sz d es he=> ?_,fun b b' k k' blk o z o' z' hk hk' hρ hρ'=> ?_⟩
 ·obtain⟨hU,⟨d0,es0,h1,h2,h3⟩|⟨rfl,h2,h3,h4⟩⟩:=h.row b e sz d es he
  ·have hav:=hv b e sz d es d0 es0 he h1
   obtain⟨_,⟨g2,g3⟩|⟨g2,g3⟩⟩:=hS.row b e sz d0 es0 h1
   ·refine⟨hU, .inl ⟨g2, ?_⟩⟩
    rw[h.fM b h2,h.w]
    rcases g3 with⟨g4,g5⟩|⟨blk,o,z,g4,g5,g6,g7,g8⟩
    ·subst g5
     exact .inl ⟨g4,List.eq_nil_of_length_eq_zero (by simpa using h3.symm)⟩
    ·exact .inr ⟨blk,o,z,g4,g5,g6,by rw[←h3];exact g7,hav.row h.w g8⟩
   ·obtain⟨r,x,ms,clk,g4,g5,g6,rfl,g8⟩:=g3
    cases hav with
    |cons k1 k2=>
     cases k2
     exact⟨hU, .inr ⟨g2,r,_,ms,clk,(h.fM b h2).trans g4,g5,by rw[h.w];exact g6,rfl,k1 _ g8⟩⟩
  ·exact⟨hU, .inl ⟨h4, .inl ⟨h3,rfl⟩⟩⟩
 ·obtain⟨e,sz,d,es⟩:=k
  obtain⟨e',sz',d',es'⟩:=k'
  obtain⟨_,⟨_,_,h1,h2,_⟩|⟨_,_,h3,_⟩⟩:=h.row b _ _ _ _ hk
  ·obtain⟨_,⟨_,_,g1,g2,_⟩|⟨_,_,g3,_⟩⟩:=h.row b' _ _ _ _ hk'
   ·exact hS.inj b b' _ _ blk o z o' z' h1 g1 (by rw[←h.fM b h2];exact hρ) (by rw[←h.fM b' g2];exact hρ')
   ·rw[g3] at hρ';cases hρ'
  ·rw[h3] at hρ;cases hρ
def Wk (r:AV) (H:Hp) (nx:Nat) (r2:AV) (H2:Hp) (nx2:Nat):Prop:=
 ∀w0 ρ U w M0,(∀b,U b→b<nx)→dE w0 ⟨ρ,bd H,U,w,M0⟩→
  ∃ρ2 U2,(∀b,U2 b→b<nx2)∧dE w0 ⟨ρ2,bd H2,U2,w,M0⟩∧Cx.le ⟨ρ,bd H,U,w,M0⟩ ⟨ρ2,bd H2,U2,w,M0⟩∧dA ⟨ρ,bd H,U,w,M0⟩ ⟨ρ2,bd H2,U2,w,M0⟩ r r2
theorem cD.wk {P:Program} {f:FuncId} {args:List AV} {H:Hp} {nx:Nat} {R R2:AV→Hp→Nat→Prop} (h:cD P f args H nx R) (hR:∀r H' nx',R r H' nx'→∃r2 H2 nx2,Wk r H' nx' r2 H2 nx2∧R2 r2 H2 nx2):cD P f args H nx R2:=by
 refine⟨h.1,fun w0 c vs a1 a2 a3 a4=>(h.2 w0 c vs a1 a2 a3 a4).mono ?_⟩
 rintro e w' ⟨v,r,H',nx',ρ,U,rfl,hRr,hU,hS,hle,hv⟩
 obtain⟨r2,H2,nx2,hw,hR2⟩:=hR r H' nx' hRr
 obtain⟨ρ2,U2,k1,k2,k3,k4⟩:=hw w0 ρ U w' c.M0 hU hS
 exact⟨v,r2,H2,nx2,ρ2,U2,rfl,hR2,k1,k2,hle.trans k3,k4 v hv⟩
def tL:List AV→Prop
 |[]=>True
 | .sc _::r=>tL r
 |_::_=>False
def fe:AV→Prop
 | .sc _=>True
 | .agg cs=>tL cs
 | .dc cs=>∀a∈cs,(∃u,a= .sc u)∨∃ds,a= .agg ds∧tL ds
 |_=>False
theorem q7 {c c2:Cx}:∀{cs:List AV} {vs:List Value},tL cs→cP c cs vs→cP c2 cs vs
 |[],vs,_,h=>by rw[cP] at h ⊢;exact h
 | .sc u::r,vs,hf,h=>by
  rw[cP] at h ⊢
  obtain⟨v,vs',rfl,h1,h2⟩:=h
  exact⟨v,vs',rfl,by rw[VR] at h1 ⊢;exact h1,q7 hf h2⟩
theorem lp {c c2:Cx} {r:AV} {v:Value} (hf:fe r) (h:VR c r v):VR c2 r v:=by
 have one:∀{a:AV} {v:Value},((∃u,a= .sc u)∨∃ds,a= .agg ds∧tL ds)→VR c a v→VR c2 a v:=by
  rintro a v (⟨u,rfl⟩|⟨ds,rfl,hd⟩) h
  ·rw[VR] at h ⊢;exact h
  ·rw[VR] at h ⊢;obtain⟨vs,rfl,hr⟩:=h;exact⟨vs,rfl,q7 hd hr⟩
 cases r<;>simp only[fe] at hf
 case sc u=>exact one (.inl ⟨u,rfl⟩) h
 case agg cs=>exact one (.inr ⟨cs,rfl,hf⟩) h
 case dc cs=>
  rw[VR] at h ⊢
  obtain⟨vs,rfl,hr⟩:=h
  refine⟨vs,rfl, ?_⟩
  generalize vs.toList=l at hr
  induction cs generalizing l with
  |nil=>rw[cP] at hr ⊢;exact hr
  |cons a cs ih=>
   rw[cP] at hr ⊢
   obtain⟨v,vs',rfl,h1,h2⟩:=hr
   exact⟨v,vs',rfl,one (hf a (by simp)) h1,ih (fun b hb=>hf b (by simp[hb])) _ h2⟩
theorem kS {w0:World} {c:Cx} {H:Hp} (h:dE w0 c) (hH:c.H=bd H):∀{as:List AV} {vs:List Value},cN 0 (as.map (dR H 6))→cP c as vs→cP (base c.w c.M0) (as.map (dR H 6)) vs
 |[],vs,_,hv=>by rw[cP] at hv;subst hv;simp only[List.map_nil];rw[cP]
 |a::as,vs,hf,hv=>by
  rw[cP] at hv
  obtain⟨v,vs',rfl,h1,h2⟩:=hv
  simp only[List.map_cons,cN] at hf ⊢
  rw[cP]
  exact⟨v,vs',rfl,iy h hH 6 hf.1 h1,kS h hH hf.2 h2⟩
theorem Pure.view {P:Program} {f:FuncId} {args args2:List AV} {r:AV} {H:Hp} {nx:Nat} {K:AV→Hp→Nat→Prop} (h:Pure P f args2 (fun x=>x=r)) (ha:args.map (dR H 6)=args2) (hf:cN 0 args2) (hr:fe r) (hK:K r H nx):cD P f args H nx K:=by
 refine⟨h.1,fun w0 c vs hS hH hU hv=> ?_⟩
 subst ha
 refine(h.2 c.M0 c.w vs hS.iw (kS hS hH hf hv)).mono fun e w' hh=> ?_
 obtain⟨v,r',rfl,rfl,_,hvr,hb⟩:=hh
 obtain⟨s1,s2⟩:=hS.world hb
 refine⟨v,r',H,nx,c.ρ,c.U,rfl,hK,hU, ?_, ?_,lp hr hvr⟩
 ·rw[←hH];exact s1
 ·rw[←hH];exact s2
theorem Pure.LX {P:Program} {f:FuncId} {args args2:List AV} {r:AV} {H:Hp} {id:Nat} (h:Pure P f args2 (fun x=>x=r)) (ha:args.map (dR H 6)=args2) (hf:cN 0 args2) (hr:fe r):lX P f args H id (fun r' H'=>r'=r∧H'=H):=by
 refine⟨h.1,fun w0 c vs hS hH hU hv=> ?_⟩
 subst ha
 refine(h.2 c.M0 c.w vs hS.iw (kS hS hH hf hv)).mono fun e w' hh=> ?_
 obtain⟨v,r',rfl,rfl,_,hvr,hb⟩:=hh
 obtain⟨s1,s2⟩:=hS.world hb
 obtain⟨t1,t2⟩:=s1.used (U:=fun x=>c.U x∨x=id) fun _ h=> .inl h
 refine⟨v,r',H,c.ρ,rfl,⟨rfl,rfl⟩, ?_, ?_,lp hr hvr⟩
 ·rw[←hH];exact t1
 ·rw[←hH];exact s2.trans t2
theorem aT {P:Program} {f:FuncId} {args:List AV} {H:Hp} {nx:Nat} {args2:List AV} {r:AV} {K:AV→Hp→Nat→Prop} (h:Pure P f args2 (fun x=>x=r)) (ha:args.map (dR H 6)=args2) (hf:cN 0 args2) (hr:fe r) (hK:Go (K r H nx)):gB P f args H nx K:=⟨h.view ha hf hr hK⟩
theorem aX {P:Program} {f:FuncId} {args:List AV} {H:Hp} {id:Nat} (S:List Nat) {args2:List AV} {r:AV} {K:AV→Option (Nat×dv)→List Nat→Prop} (h:Pure P f args2 (fun x=>x=r)) (ha:∀H1,(∀b∈S,bd H1 b=bd H b)→args.map (dR H1 6)=args2) (hf:cN 0 args2) (hr:fe r) (hK:Go (K r none S)):j4 P id f args H K:=
 j4.fresh S (fun H1 h1=>h.LX (ha H1 h1) hf hr) (fun _ _ h=>by cases h) hK
mutual
/-- Every name in it is one of these. -/
def fc (p:Nat→Prop):AV→Prop
 | .sc _=>True
 | .any=>True
 | .im _ _ es=>gS p es
 | .ip _ _ es _ _=>gS p es
 | .sl b _=>p b
 | .pt b _ _ _=>p b
 | .zc=>True
 | .agg cs=>gS p cs
 | .dc cs=>gS p cs
 | .fn _ x q=>gS p x∧gS p q
 | .ju _ x=>fc p x
 | .mp b=>p b
 | .ab=>True
 | .sv b _ _ _=>p b
def gS (p:Nat→Prop):List AV→Prop
 |[]=>True
 |a::as=>fc p a∧gS p as
end
mutual
theorem VR.wV {c:Cx}:∀{a:AV} {v:Value},VR c a v→fc c.U a
 | .sc u,v,_=>by rw[fc];trivial
 | .any,_,_=>by rw[fc];trivial
 | .im sz d es,v,hv=>by
  rw[VR] at hv
  rw[fc]
  obtain⟨_,_,_,_,h0|⟨blk,o,_,_,_,hr⟩⟩:=hv
  ·subst h0;rw[gS];trivial
  ·exact dI.wV hr
 | .ip sz d es i off,v,hv=>by
  rw[VR] at hv
  rw[fc]
  obtain⟨_,_,blk,o,_,_,hr⟩:=hv
  exact dI.wV hr
 | .sl b len,v,hv=>by rw[VR] at hv;rw[fc];exact hv.1
 | .pt b len i off,v,hv=>by rw[VR] at hv;rw[fc];exact hv.1
 | .zc,v,_=>by rw[fc];trivial
 | .agg cs,v,hv=>by rw[VR] at hv;rw[fc];obtain⟨_,_,hr⟩:=hv;exact cP.wV hr
 | .dc cs,v,hv=>by rw[VR] at hv;rw[fc];obtain⟨_,_,hr⟩:=hv;exact cP.wV hr
 | .fn f p q,v,hv=>by rw[VR] at hv;rw[fc];obtain⟨_,_,_,h1,h2⟩:=hv;exact⟨cP.wV h1,cP.wV h2⟩
 | .ju t x,v,hv=>by rw[VR] at hv;rw[fc];obtain⟨_,_,h1⟩:=hv;exact VR.wV h1
 | .mp b,v,hv=>by rw[VR] at hv;rw[fc];exact hv.1
 | .ab,v,_=>by rw[fc];trivial
 | .sv b len lo n,v,hv=>by rw[VR] at hv;rw[fc];exact hv.1
theorem dI.wV {c:Cx} {sz blk:Nat}:∀{es:List AV} {o:Nat},dI c sz es blk o→gS c.U es
 |[],_,_=>by rw[gS];trivial
 |e::es,o,hr=>by
  rw[dI] at hr
  rw[gS]
  obtain⟨⟨v,_,h2⟩,h3⟩:=hr
  exact⟨VR.wV h2,dI.wV h3⟩
theorem cP.wV {c:Cx}:∀{as:List AV} {vs:List Value},cP c as vs→gS c.U as
 |[],vs,_=>by rw[gS];trivial
 |a::as,vs,hv=>by
  rw[cP] at hv
  rw[gS]
  obtain⟨v,vs',_,h1,h2⟩:=hv
  exact⟨VR.wV h1,cP.wV h2⟩
end
mutual
theorem VR.we {c:Cx} {U:Nat→Prop}:∀{a:AV} {v:Value},fc U a→VR c a v→VR { c with U:=U } a v
 | .sc u,v,_,hv=>by rw[VR] at hv ⊢;exact hv
 | .any,_,_,_=>by rw[VR];trivial
 | .im sz d es,v,hn,hv=>by
  rw[fc] at hn
  rw[VR] at hv ⊢
  obtain⟨a,cap,h1,h2,h3⟩:=hv
  refine⟨a,cap,h1,h2, ?_⟩
  rcases h3 with h3|⟨blk,o,h4,h5,h6,h7⟩
  ·exact .inl h3
  ·exact .inr ⟨blk,o,h4,h5,h6,dI.we hn h7⟩
 | .ip sz d es i off,v,hn,hv=>by
  rw[fc] at hn
  rw[VR] at hv ⊢
  obtain⟨h1,h2,blk,o,h3,h4,h5⟩:=hv
  exact⟨h1,h2,blk,o,h3,h4,dI.we hn h5⟩
 | .sl b len,v,hn,hv=>by rw[fc] at hn;rw[VR] at hv ⊢;exact⟨hn,hv.2⟩
 | .pt b len i off,v,hn,hv=>by rw[fc] at hn;rw[VR] at hv ⊢;exact⟨hn,hv.2⟩
 | .zc,v,_,hv=>by rw[VR] at hv ⊢;exact hv
 | .agg cs,v,hn,hv=>by rw[fc] at hn;rw[VR] at hv ⊢;obtain⟨vs,h1,h2⟩:=hv;exact⟨vs,h1,cP.we hn h2⟩
 | .dc cs,v,hn,hv=>by rw[fc] at hn;rw[VR] at hv ⊢;obtain⟨vs,h1,h2⟩:=hv;exact⟨vs,h1,cP.we hn h2⟩
 | .fn f p q,v,hn,hv=>by rw[fc] at hn;rw[VR] at hv ⊢;obtain⟨ps,qs,h1,h2,h3⟩:=hv;exact⟨ps,qs,h1,cP.we hn.1 h2,cP.we hn.2 h3⟩
 | .ju t x,v,hn,hv=>by rw[fc] at hn;rw[VR] at hv ⊢;obtain⟨u,h1,h2⟩:=hv;exact⟨u,h1,VR.we hn h2⟩
 | .mp b,v,hn,hv=>by rw[fc] at hn;rw[VR] at hv ⊢;exact⟨hn,hv.2⟩
 | .ab,v,_,hv=>by rw[VR] at hv ⊢;exact hv
 | .sv b len lo n,v,hn,hv=>by rw[fc] at hn;rw[VR] at hv ⊢;exact⟨hn,hv.2⟩
theorem dI.we {c:Cx} {U:Nat→Prop} {sz blk:Nat}:∀{es:List AV} {o:Nat},gS U es→dI c sz es blk o→dI { c with U:=U } sz es blk o
 |[],_,_,_=>by rw[dI];trivial
 |e::es,o,hn,hr=>by
  rw[gS] at hn
  rw[dI] at hr ⊢
  obtain⟨⟨v,h1,h2⟩,h3⟩:=hr
  exact⟨⟨v,h1,VR.we hn.1 h2⟩,dI.we hn.2 h3⟩
theorem cP.we {c:Cx} {U:Nat→Prop}:∀{as:List AV} {vs:List Value},gS U as→cP c as vs→cP { c with U:=U } as vs
 |[],vs,_,hv=>by rw[cP] at hv ⊢;exact hv
 |a::as,vs,hn,hv=>by
  rw[gS] at hn
  rw[cP] at hv ⊢
  obtain⟨v,vs',h0,h1,h2⟩:=hv
  exact⟨v,vs',h0,VR.we hn.1 h1,cP.we hn.2 h2⟩
end
theorem cD.ER {P:Program} {f:FuncId} {args:List AV} {r:AV} {H:Hp} {nx:Nat} {K:AV→Hp→Nat→Prop} (h:cD P f args H nx (fun r' H' _=>r'=r∧H'=H)) (hr:fe r) (hK:K r H nx):cD P f args H nx K:=by
 refine⟨h.1,fun w0 c vs hS hH hU hv=>(h.2 w0 c vs hS hH hU hv).mono ?_⟩
 rintro e w' ⟨v,r',H',nx',ρ,U,rfl,⟨rfl,rfl⟩,_,hS',hle,hvr⟩
 have hrows:∀b e sz d es,bd H' b=some (.row e sz d es)→c.U b∧(∀blk o z,c.ρ b=some (blk,o,z)→gS c.U es)∧(c.ρ b=none→es=[]):=by
  intro b e sz d es he
  obtain⟨g1,⟨_,g3⟩|⟨_,r,x,ms,clk,g3,_,_,rfl,g5⟩⟩:=hS.row b e sz d es (by rw[hH];exact he)
  ·refine⟨g1,fun blk o z hρ=> ?_,fun hρ=> ?_⟩
   ·rcases g3 with⟨g4,rfl⟩|⟨_,_,_,_,_,_,_,g5⟩
    ·rw[gS];trivial
    ·exact g5.wV
   ·rcases g3 with⟨_,g4⟩|⟨_,_,_,g4,_⟩
    ·exact g4
    ·rw[hρ] at g4;cases g4
  ·refine⟨g1,fun blk o z hρ=> ?_,fun hρ=> ?_⟩
   ·simp only[gS,and_true];exact g5.wV
   ·rw[hρ] at g3;cases g3
 have hnam:∀b e sz d es,bd H' b=some (.row e sz d es)→gS c.U es:=by
  intro b e sz d es he
  obtain⟨_,h2,h3⟩:=hrows b e sz d es he
  cases hρ:c.ρ b with
  |none=>rw[h3 hρ,gS];trivial
  |some x=>exact h2 _ _ _ hρ
 refine⟨v,r',H',nx,ρ,c.U,rfl,hK,hU,⟨hS'.below,hS'.m0,fun b e sz d es he=> ?_,hS'.inj⟩,⟨fun _ h=>h,hle.sz,hle.blk,hle.row⟩,lp hr hvr⟩
 obtain⟨_,⟨g2,g3⟩|⟨g2,r,x,ms,clk,g4,g5,g6,rfl,g8⟩⟩:=hS'.row b e sz d es he
 ·refine⟨(hrows b e sz d es he).1, .inl ⟨g2, ?_⟩⟩
  rcases g3 with g3|⟨blk,o,z,g4,g5,g6,g7,g8⟩
  ·exact .inl g3
  ·exact .inr ⟨blk,o,z,g4,g5,g6,g7,dI.we (hnam b e sz d es he) g8⟩
 ·have hn:=hnam b e sz d _ he
  simp only[gS,and_true] at hn
  exact⟨(hrows b e sz d _ he).1, .inr ⟨g2,r,x,ms,clk,g4,g5,g6,rfl,VR.we hn g8⟩⟩
theorem cD.more {P:Program} {f:FuncId} {args:List AV} {H:Hp} {nx:Nat} {K K':AV→Hp→Nat→Prop} (h:cD P f args H nx K) (hk:∀r H n,K r H n→∃n',n≤n'∧K' r H n'):cD P f args H nx K':=by
 refine⟨h.1,fun w0 c vs a1 a2 a3 a4=>(h.2 w0 c vs a1 a2 a3 a4).mono ?_⟩
 rintro e w' ⟨v,r,H',nx',ρ,U,he,hR,hU,hrest⟩
 obtain⟨n',hn,hR'⟩:=hk _ _ _ hR
 exact⟨v,r,H',n',ρ,U,he,hR',fun b hb=>Nat.lt_of_lt_of_le (hU b hb) hn,hrest⟩
theorem bL {P:Program} {f:FuncId} {args:List AV} {H:Hp} {nx:Nat} {g:Bool} {r:AV} {K:AV→Prop} (h:g=true→cD P f args H nx (fun r' H' _=>r'=r∧H'=H)) (hr:fe r) (hK:Go (K r)):lY P g f args H nx K:=
 ⟨⟨r,fun hg K' hK'=>((h hg).ER (K:=fun r' H' n=>r'=r∧H'=H∧n=nx) hr ⟨rfl,rfl,rfl⟩).more (by rintro _ _ _ ⟨rfl,rfl,rfl⟩;exact⟨_,Nat.le_succ _,hK'⟩),hK⟩⟩
theorem bM {P:Program} {f:FuncId} {args:List AV} {H:Hp} {nx:Nat} {r:AV} {K:AV→Hp→Nat→Prop} (h:cD P f args H nx (fun r' H' _=>r'=r∧H'=H)) (hr:fe r) (hK:Go (K r H nx)):gB P f args H nx K:=⟨h.ER hr hK⟩
def rI (P:Program) (f:FuncId) (args:List AV) (H:Hp) (nx:Nat) (r:AV):Prop:=cD P f args H nx (fun r' H' _=>r'=r∧∀b,b<nx→bd H' b=bd H b)
theorem rI.exact {P:Program} {f:FuncId} {args:List AV} {H:Hp} {nx:Nat} {r:AV} (h:rI P f args H nx r):cD P f args H nx (fun r' H' _=>r'=r∧H'=H):=by
 refine⟨h.1,fun w0 c vs hS hH hU hv=>(h.2 w0 c vs hS hH hU hv).mono ?_⟩
 rintro e w' ⟨v,r',H',nx',ρ,U,rfl,⟨rfl,hk⟩,hU',hS',hle,hvr⟩
 have h2:∀b,bd H b=bd H' b∨bd H b=none:=by
  intro b
  by_cases hb:b<nx
  ·exact .inl (hk b hb).symm
  ·cases hg:bd H b with
   |none=>exact .inr rfl
   |some k=>
    exfalso
    obtain⟨e,sz,d,es⟩:=k
    exact hb (hU b (hS.row b e sz d es (by rw[hH];exact hg)).1)
 obtain⟨s1,s2⟩:=hS'.drop h2
 exact⟨v,_,_,nx',ρ,U,rfl,⟨rfl,rfl⟩,hU',s1,hle.trans s2,VR.cE s2 hvr⟩
theorem aW {P:Program} {f:FuncId} {args:List AV} {H:Hp} {nx:Nat} {r:AV} {K:AV→Hp→Nat→Prop} (h:rI P f args H nx r) (hr:fe r) (hK:Go (K r H nx)):gB P f args H nx K:=bM h.exact hr hK
theorem aV {P:Program} {f:FuncId} {args:List AV} {H:Hp} {nx:Nat} {g:Bool} {r:AV} {K:AV→Prop} (h:g=true→rI P f args H nx r) (hr:fe r) (hK:Go (K r)):lY P g f args H nx K:=bL (fun hg=>(h hg).exact) hr hK
theorem cF {H:Hp} {b d:Nat} {v:Option dv} (hne:b≠d):bd ((d,v)::H) b=bd H b:=by simp[bd,hne]
theorem AW.look {r r':AV} {H H':Hp} {nx nx':Nat} (h:r'=r) (hk:∀b,b<nx→bd H' b=bd H b):AW (fun r' H' _=>r'=r∧∀b,b<nx→bd H' b=bd H b) r' H' nx':=⟨⟨h,hk⟩⟩
theorem E3 (d:Nat) (k:IntKind) (i:Nat):iT d (some (.sc (.int k (i:Int))))=some i:=by
 simp only[iT];rw[if_pos (by omega)];simp
theorem JU {H:Hp} {s:Nat} {d:AV} {es:List AV} {lo hi:Option AV} {l h:Nat} (h1:iT 0 lo=some l) (h2:iT es.length hi=some h) (h3:l≤h∧h≤es.length):pZ H s lo hi (.im s d es)=some (.im s d ((es.drop l).take (h - l))):=by
 simp only[pZ,h1,h2];rw[if_pos ⟨trivial,h3⟩]
structure L4 (a b:Nat):Prop where
 ne:a≠b
def qk (b:Nat):List Nat→Prop
 |[]=>True
 |x::l=>L4 b x∧qk b l
def JB (s t:List Nat×Option Nat):Prop:=match s.2,t.2 with
 |none,none=>True
 |some b,none=>qk b t.1
 |none,some b=>qk b s.1
 |some b,some b'=>qk b t.1∧qk b' s.1∧L4 b b'
def vx (tr:Tr):List (Nat×Nat)→Prop
 |[]=>True
 |p::ps=>JB (tr.getD p.1 ([],none)) (tr.getD p.2 ([],none))∧vx tr ps
theorem jD {b:Nat}:∀{l:List Nat},qk b l→b∉l
 |[],_=>by simp
 |x::l,h=>by
  have h1:=h.1.ne
  have h2:=jD h.2
  simp[h1,h2]
theorem zD {s t:List Nat×Option Nat} (h:JB s t):rl s t:=by
 obtain⟨s1,s2⟩:=s
 obtain⟨t1,t2⟩:=t
 cases s2<;>cases t2<;>simp only[JB] at h<;>simp only[rl]
 ·simp
 ·refine⟨by simp, ?_,by simp⟩
  rintro b ⟨⟩;exact jD h
 ·refine⟨?_,by simp,by simp⟩
  rintro b ⟨⟩;exact jD h
 ·refine⟨?_, ?_, ?_⟩
  ·rintro b ⟨⟩;exact jD h.1
  ·rintro b ⟨⟩;exact jD h.2.1
  ·rintro b ⟨h1,h2⟩
   cases h1;cases h2;exact h.2.2.ne rfl
theorem oj {tr:Tr}:∀{ps:List (Nat×Nat)},vx tr ps→fu tr ps
 |[],_=>by intro p hp;cases hp
 |q::ps,h=>by
  intro p hp
  rcases List.mem_cons.1 hp with rfl|hp
  ·exact zD h.1
  ·exact oj h.2 p hp
noncomputable def wq (tr:Tr):Tr→(Tr→Prop)→Prop:=List.rec (motive:=fun _=>Tr→(Tr→Prop)→Prop) (fun acc K=>K acc) (fun x _ ih acc K=>ih (x::acc) K) tr
theorem y8:∀(tr acc:Tr) (K:Tr→Prop),wq tr acc K=K (tr.reverse++acc)
 |[],acc,K=>rfl
 |x::tr,acc,K=>by
  show wq tr (x::acc) K=_
  rw[y8 tr];simp
theorem aj {tr:Tr} {ps:List (Nat×Nat)} (h:Go (wq tr [] fun t=>vx t ps)):Ask (fu tr.reverse ps):=⟨oj (by have h2:wq tr [] fun t=>vx t ps:=h;rw[y8,List.append_nil] at h2;exact h2)⟩
theorem D2 {fr:Fr} {H:Hp}:gU fr H []=some []:=rfl
theorem D3 {fr:Fr} {H:Hp} {t:Nat} {r:List ic} {q:List AV} (h:gU fr H r=some q):gU fr H (.tmp t::r)=some (cK fr t::q):=by simp only[gU,h]
theorem zw {fr:Fr} {H:Hp} {t k b len i off sz:Nat} {ag:Bool} {e:TypeId} {d x:AV} {es q:List AV} {r:List ic} (h1:cK fr t= .pt b len i off) (h2:bd H b=some (.row e sz d es)) (h3:es.length=len)
 (h4:tk ag k (es.getD i d) sz off=some x) (h5:gU fr H r=some q):gU fr H (.cell t ag k::r)=some (x::q):=by
 have:iN H (.pt b len i off)=some (sz,es.getD i d,off):=by simp only[iN,h2,h3];simp
 simp only[gU,h1,this,h4,h5]
end Go.cO
/- Questions that answer themselves: each is asked with the way in which it is answered. -/
namespace Go.cO
open Go.RowKit
theorem A5 {l:List AV} {n k m:Nat} (hl:l.length=m) (h:(n+m) * k≤140737488355328):(n+l.length) * k≤gI:=by rw[hl];exact h
theorem JV {H:Hp} {s b len:Nat} {e:TypeId} {d:AV} {es:List AV} {lo hi:Option AV} {l h:Nat} (h0:bd H b=some (.row e s d es)) (hl:es.length=len) (h1:iT 0 lo=some l) (h2:iT len hi=some h) (h3:l≤h∧h≤len):pZ H s lo hi (.sl b len)=some (.sv b len l (h - l)):=by
 simp only[pZ,h0,h1,h2];rw[if_pos ⟨hl,trivial,h3⟩]
theorem GX {H:Hp} {b len sz:Nat} {e:TypeId} {d:AV} {es:List AV} (h:bd H b=some (.row e sz d es)) (h2:es.length=len∧0<len):pP H (.sl b len)=some (some false):=by
 simp only[pP,h];rw[if_pos h2]
theorem DS {H:Hp} {b:Nat}:pP H (.sl b 0)=some none:=by
 simp only[pP]
 split
 ·rw[if_neg (by omega)]
 ·rfl
theorem e8 {α:Type} {l:List α} {i:Nat} {v d:α} (h:i<l.length):(l.set i v).getD i d=v:=by simp[List.getD,h]
theorem db:(∀n:Nat,(n:Int).toNat=n)∧(∀(p:Prop) [Decidable p] (b:Bool),(if p then true else b)=(decide p||b))∧(∀(p:Prop) [Decidable p] (b:Bool),(if p then b else false)=(decide p&&b))∧(∀(p:Prop) [Decidable p] (b:Bool),(if p then false else b)=(!decide p&&b))∧(∀(p:Prop) [Decidable p] (b:Bool),(if p then b else true)=(!decide p||b))∧
 (∀b:Bool,decide (b=true)=b)∧(∀(p:Prop) [Decidable p],(decide p=true)=p)∧(∀(p:Prop) [Decidable p],(decide p=false)=¬p)∧(∀a b:Bool,((a&&b)=true)=(a=true∧b=true))∧(∀a b:Bool,((a||b)=true)=(a=true∨b=true))∧(∀b:Bool,((!b)=true)=(b=false))∧(∀b:Bool,((!b)=false)=(b=true))∧
 (∀a b:Bool,((a&&b)=false)=(a=false∨b=false))∧(∀a b:Bool,((a||b)=false)=(a=false∧b=false))∧(∀a b:Int,(¬a<b)=(b≤a))∧(∀a b:Int,(¬a≤b)=(b<a))∧(∀(p:Prop) [Decidable p],(¬¬p)=p):=by
 refine⟨by simp,fun p _ b=> ?_,fun p _ b=> ?_,fun p _ b=> ?_,fun p _ b=> ?_,by simp,by simp,by simp,by simp,by simp,by simp,by simp,by simp,by simp,fun a b=>propext Int.not_lt,fun a b=>propext Int.not_le,fun p _=>propext Decidable.not_not⟩
 all_goals by_cases h:p<;>simp[h]
theorem bg {p:Prop} (h:p:=by(repeat(first|exact cV _ _ _|assumption|refine zK (by first|omega|(simp only[List.length_cons,List.length_nil];omega)) ?_))<;>fail):p:=h
theorem cW {p:Prop} (h:p:=by first|omega|(simp only[List.length_cons,List.length_nil];omega)):p:=h
theorem sh {p:Prop} (h:p:=by intro _b _hb;repeat(first|exact rfl|(refine Eq.trans (cF (by first|omega|(simp only[List.length_cons,List.length_nil];omega))) ?_))):p:=h
theorem cJ {p:Prop} (h:p:=by repeat' (first|exact True.intro|refine And.intro ?_ ?_|exact rfl|((conv=>lhs;whnf);(first|(simp<;>fail)|(simp;omega))))):p:=h
theorem MQ {p:Prop} (h:p:=by first|exact rfl|(simp only[List.length_set,List.length_map,List.length_append,List.length_cons,List.length_nil,List.length_take,List.length_drop,List.length_replicate,Int.toNat_natCast]<;>fail)|(simp only[List.length_set,List.length_map,List.length_append,List.length_cons,List.length_nil,List.length_take,List.length_drop,List.length_replicate,Int.toNat_natCast];omega)):p:=h
theorem dj {p:Prop} (h:p:=by first|exact rfl|omega|assumption|exact id|(intro h;exact h▸rfl)|(intro h;rw[h]<;>rfl)|(intros;exact rfl)|(intro h;(try simp only[List.length_map,ne_eq,db] at h);omega)|(simp only[List.length_set,List.length_map,List.length_append,List.length_cons,List.length_nil,List.length_take,List.length_drop,List.length_replicate,Int.toNat_natCast];omega)|(intro _;constructor<;>first|exact rfl|exact Nat.le_of_ble_eq_true rfl|omega)):p:=h
theorem cy {p:Prop} (h:p:=by first|(intro h;simp_all<;>fail)|(refine A5 (m:=1) rfl ?_;omega)|(show(_:Nat)≤140737488355328;first|omega|(simp only[List.length_set,List.length_map,List.length_append,List.length_cons,List.length_nil,List.length_take,List.length_drop,List.length_replicate,Int.toNat_natCast];omega))|(exact Nat.le_of_ble_eq_true rfl)|(constructor<;>first|exact rfl|exact Nat.le_of_ble_eq_true rfl|omega)|(simp_all<;>fail)):p:=h
theorem nj {p:Prop} (h:p:=by first|omega|(intro hg;simp only[Gd,List.length_map,ne_eq,db] at hg;omega)|(intros;simp only[List.length_map,Int.toNat_natCast];omega)):p:=h
theorem cI {p:Prop} (h:p:=by first|assumption|(refine e8 ?_;first|omega|(simp only[List.length_set,List.length_map,List.length_append,List.length_cons,List.length_nil,List.length_take,List.length_drop,List.length_replicate,Int.toNat_natCast];omega))|(refine dJ _ _ _ _ ?_;first|omega|(simp only[List.length_map,Int.toNat_natCast];omega))|exact rfl):p:=h
theorem MR {p:Prop} (h:p:=by constructor<;>first|exact rfl|omega|(simp only[List.length_set,List.length_map,List.length_append,List.length_cons,List.length_nil,List.length_take,List.length_drop,List.length_replicate,Int.toNat_natCast];omega)):p:=h
theorem ss (d:Nat) (k:IntKind) (i:Nat):iT d (some (.sc (.int k (((i+1:Nat):Int) - 1))))=some i:=by
 simp only[iT];rw[if_pos (by omega)];congr 1;omega
theorem EZ {p:Prop} (h:p:=by first|exact rfl|exact E3 _ _ _|exact ss _ _ _|((simp only[List.length_map,List.length_append,List.length_cons,List.length_nil,Nat.zero_add]);exact ss _ _ _)|(conv=>lhs;whnf);exact rfl):p:=h
theorem ND {p:Prop} (h:p:=by(try simp only[List.length_set,List.length_map,List.length_append,List.length_cons,List.length_nil,List.length_take,List.length_drop,List.length_replicate,Int.toNat_natCast]);omega):p:=h
theorem oQ {p:Prop} (h:p:=by first|exact rfl|exact DS|exact GX bg MR|exact JV bg MQ EZ EZ ND|exact JU EZ EZ ND):p:=h
theorem IZ {p:Prop} (h:p:=by(repeat(first|exact D2|(apply D3)|(apply zw;(·exact rfl);(·exact bg);(·exact rfl);(·exact rfl))))<;>fail):p:=h
theorem bo {p:Prop} (h:p:=by first|(simp[cN,bx,bz]<;>fail)):p:=h
end Go.cO
/- Rows told anew at a function's end: the general rule. -/
namespace Go.cO
open Go.RowKit
theorem Wk.tell {r r2:AV} {H H2:Hp} {nx nx2:Nat} (hn:nx≤nx2)
 (hrow:∀b e sz d es,bd H2 b=some (.row e sz d es)→(∃d0 es0,bd H b=some (.row e sz d0 es0)∧es0.length=es.length)∨(nx≤b∧b<nx2∧es=[]∧0<sz))
 (hval:∀(w0:World) (c c2:Cx),dE w0 c→(∀b,c.U b→b<nx)→c.H=bd H→c2.H=bd H2→c2.w=c.w→c.le c2→
  (∀b e sz d,nx≤b→bd H2 b=some (.row e sz d [])→c2.U b∧c2.ρ b=none)→
  (∀b k blk o z,bd H b=some k→bd H2 b=none→c.ρ b=some (blk,o,z)→¬c2.M blk)→
  dA c c2 r r2∧∀b e sz d es d0 es0,bd H2 b=some (.row e sz d es)→bd H b=some (.row e sz d0 es0)→cm c c2 es0 es):
 Wk r H nx r2 H2 nx2:=by
 intro w0 ρ U w M0 hU hS
 let ρ2:Nat→Option (Nat×Nat×Nat):=fun b=>if b<nx then ρ b else none
 let U2:Nat→Prop:=fun b=>U b∨(nx≤b∧b<nx2)
 have hR:oO ⟨ρ,bd H,U,w,M0⟩ ⟨ρ2,bd H2,U2,w,M0⟩:=by
  refine⟨rfl,rfl,fun b hb=> .inl hb,fun b hb=> ?_,fun b e sz d es he=> ?_⟩
  ·show(if b<nx then ρ b else none)=ρ b
   rw[if_pos (hU b hb)]
  ·rcases hrow b e sz d es he with⟨d0,es0,h2,h3⟩|⟨h1,h2,h3,h4⟩
   ·have hu:U b:=(hS.row b e sz d0 es0 h2).1
    exact⟨.inl hu, .inl ⟨d0,es0,h2,hu,h3⟩⟩
   ·refine⟨.inr ⟨h1,h2⟩, .inr ⟨h3,fun hu=> ?_, ?_,h4⟩⟩
    ·have:=hU b hu;omega
    ·show(if b<nx then ρ b else none)=none
     rw[if_neg (by omega)]
 have hle:=hR.le
 have hv:=hval w0 ⟨ρ,bd H,U,w,M0⟩ ⟨ρ2,bd H2,U2,w,M0⟩ hS hU rfl rfl rfl hle
  (fun b e sz d hb he=>by
   rcases hrow b e sz d [] he with⟨d0,es0,h2,_⟩|⟨h1,h2,_⟩
   ·have h1:b<nx:=hU b (hS.row b e sz d0 es0 h2).1
    omega
   ·refine⟨.inr ⟨h1,h2⟩, ?_⟩
    show(if b<nx then ρ b else none)=none
    rw[if_neg (by omega)])
  (fun b k blk o z hb hb2 hρ hm=>by
   have hlt:=hS.KH hb hρ
   rcases hm with h0|⟨x,k2,o2,z2,hx,hρ2⟩
   ·have:=hS.m0.lt blk h0
    simp only at hlt
    omega
   ·obtain⟨e,sz,d,es⟩:=k2
    have hρ2:(if x<nx then ρ x else none)=some (blk,o2,z2):=hρ2
    have hx:bd H2 x=some (.row e sz d es):=hx
    rcases hrow x e sz d es hx with⟨d0,es0,h2,_⟩|⟨h1,_⟩
    ·have h1:x<nx:=hU x (hS.row x e sz d0 es0 h2).1
     rw[if_pos h1] at hρ2
     have:=hS.inj b x _ _ blk o z o2 z2 hb h2 hρ hρ2
     subst this
     rw[hx] at hb2;cases hb2
    ·rw[if_neg (by omega)] at hρ2;cases hρ2)
 refine⟨ρ2,U2, ?_,hR.NQ hS hv.2,hle,hv.1⟩
 rintro b (hb|⟨_,hb⟩)
 ·have:=hU b hb;omega
 ·exact hb
theorem Wk.refl (r:AV) (H:Hp) (nx:Nat):Wk r H nx r H nx:=by
 intro w0 ρ U w M0 hU hS
 exact⟨ρ,U,hU,hS,Cx.le.refl _,fun v hv=>hv⟩
theorem Wk.nil {H:Hp} {nx:Nat} (e:TypeId) (sz:Nat) (d:AV) (hsz:0<sz):Wk (.sc (.slice none 0 0)) H nx (.sl nx 0) ((nx,some (.row e sz d []))::H) (nx+1):=by
 refine Wk.tell (Nat.le_succ _) (fun b e' sz' d' es he=> ?_) (fun w0 c c2 hS hU hc hc2 hw hle hnew _=>⟨?_,fun b e' sz' d' es d0 es0 h1 h2=> ?_⟩)
 ·by_cases hb:b=nx
  ·subst hb
   rw[cV] at he
   cases he
   exact .inr ⟨Nat.le_refl _,Nat.lt_succ_self _,rfl,hsz⟩
  ·rw[cF hb] at he
   exact .inl ⟨d',es,he,rfl⟩
 ·have h:=hnew nx e sz d (Nat.le_refl _) (cV _ _ _)
  exact dA.nil (e:=e) (sz:=sz) (d:=d) h.1 (by rw[hc2,cV]) h.2
 ·by_cases hb:b=nx
  ·subst hb
   rw[cV] at h1
   cases h1
   have h3:c.H b=some (.row e sz d0 es0):=by rw[hc];exact h2
   exact absurd (hU _ (hS.row _ _ _ _ _ h3).1) (Nat.lt_irrefl _)
  ·rw[cF hb] at h1
   rw[h1] at h2
   cases h2
   exact cm.cE hle _
theorem cD.BR {P:Program} {f:FuncId} {args args2:List AV} {e:TypeId} {sz:Nat} {es:List AV} (h:cD P f args2 [] 0 (fun r1 H1 _=>∃b d0,r1= .sl b es.length∧bd H1 b=some (.row e sz d0 es))) (hfl:∀i,i<es.length→fe (es.getD i .any)) (d:AV) {H:Hp} {id:Nat} (ha:args.map (dR H 6)=args2) (hfa:cN 0 args2):
 lX P f args H id (fun r' H''=>r'= .sl id es.length∧H''=cq H (some (id, .row e sz d es))):=by
 refine⟨h.1,fun w0 c vs hS hH hid hv=> ?_⟩
 have hS0:dE c.w ⟨fun _=>none,bd [],fun _=>False,c.w,c.M0⟩:=⟨Below.refl _ _,hS.iw,fun b e sz d es he=>by simp[bd] at he,fun b b' k k' blk o z o' z' hk=>by simp[bd] at hk⟩
 subst ha
 have hv':cP ⟨fun _=>none,bd [],fun _=>False,c.w,c.M0⟩ (args.map (dR H 6)) vs:=kS hS hH hfa hv
 refine(h.2 c.w _ vs hS0 rfl (fun _ h=>h.elim) hv').mono ?_
 rintro en w' ⟨v,r1,H1,nx',ρ,U,he,⟨b,d0,rfl,hb⟩,hU,hS',_,hvr⟩
 rw[VR] at hvr
 obtain⟨_,ad,cap,hvv,hrr⟩:=hvr
 obtain⟨_,hr2⟩:=hrr _ _ _ _ hb
 have hr3:=hr2 rfl
 obtain⟨_,hz,hor⟩:=hS'.je b _ _ _ _ hb (sV hr3)
 have hbel:=hS'.below
 obtain⟨s1,s2⟩:=hS.world hbel
 have hHeq:bd (cq H (some (id, .row e sz d es)))=eS c.H id (some (.row e sz d es)):=by rw[dC,hH]
 rcases hor with⟨h0,hes⟩|⟨blk,o,z,hρ,hlow,⟨arr,harr,hsz⟩,hlz,hrow⟩
 ·subst hes
  obtain⟨p1,p2⟩:=s1.G2 (b:=id) (e:=e) (sz:=sz) d hz hid
  refine⟨v,_,_,eS c.ρ id none,he,⟨rfl,rfl⟩, ?_, ?_, ?_⟩
  ·rw[hHeq];exact p1
  ·rw[hHeq];exact s2.trans p2
  ·rw[hHeq,VR]
   refine⟨.inr rfl,ad,cap,hvv,fun e' sz' d' es' he'=> ?_⟩
   simp only[iX,cx,Option.some.injEq,dv.row.injEq] at he'
   obtain⟨rfl,rfl,rfl,rfl⟩:=he'
   refine⟨Nat.le_refl _,fun _=> .inl ⟨by simp[iX], ?_⟩⟩
   rcases hr3 with⟨_,h2,h3⟩|⟨blk,o,z,h2,_⟩
   ·exact⟨h2,h3⟩
   ·rw[h0] at h2;cases h2
 ·obtain⟨p1,p2⟩:=hS.pT (b:=id) (e:=e) (sz:=sz) d (es:=es) (w':=w') (blk:=blk) (o:=o) (z:=z) hz (.inl hid) (.inl hlow) hbel.os hbel.tape hbel.output hbel.size (fun k hk _=>hbel.block k hk) harr hsz hlz (fun hle i hi=>by
   obtain⟨x,x1,x2⟩:=dL hrow i hi
   refine⟨x,x1,lp ?_ x2⟩
   have:=hfl i hi
   simpa[List.getD,hi] using this)
  refine⟨v,_,_,eS c.ρ id (some (blk,o,z)),he,⟨rfl,rfl⟩, ?_, ?_, ?_⟩
  ·rw[hHeq];exact p1
  ·rw[hHeq];exact p2
  ·rw[hHeq,VR]
   refine⟨.inr rfl,ad,cap,hvv,fun e' sz' d' es' he'=> ?_⟩
   simp only[iX,cx,Option.some.injEq,dv.row.injEq] at he'
   obtain⟨rfl,rfl,rfl,rfl⟩:=he'
   refine⟨by omega,fun _=> .inr ⟨blk,o,z,by simp[iX], ?_⟩⟩
   rcases hr3 with⟨h2,_,_⟩|⟨blk',o',z',h2,h3,h4,h5,h6⟩
   ·rw[hρ] at h2;cases h2
   ·rw[hρ] at h2;cases h2
    exact⟨h3,h4,h5,h6⟩
theorem ak {P:Program} {f:FuncId} {args args2:List AV} {e:TypeId} {sz:Nat} {es:List AV} {H:Hp} {id:Nat} {K:AV→Option (Nat×dv)→List Nat→Prop} (S:List Nat) (d:AV)
 (h:cD P f args2 [] 0 (fun r1 H1 _=>∃b d0,r1= .sl b es.length∧bd H1 b=some (.row e sz d0 es))) (hfl:∀i,i<es.length→fe (es.getD i .any)) (ha:∀H1,(∀b∈S,bd H1 b=bd H b)→args.map (dR H1 6)=args2) (hfa:cN 0 args2)
 (hK:Go (K (.sl id es.length) (some (id, .row e sz d es)) S)):j4 P id f args H K:=
 j4.fresh S (fun H1 h1=>h.BR hfl d (ha H1 h1) hfa) (fun b q hq=>by cases hq;rfl) hK
theorem om {n:Nat}:∀{as:List AV},cN n as→∀a∈as,bx n a
 |[],_,a,h=>by cases h
 |b::as,hf,a,h=>by
  rw[cN] at hf
  rcases List.mem_cons.1 h with rfl|h
  ·exact hf.1
  ·exact om hf.2 a h
theorem uh {f:AV→AV} {l:List AV} (h:∀a∈l,f a=a):l.map f=l:=by
 induction l with
 |nil=>rfl
 |cons a l ih=>rw[List.map_cons,h a (by simp),ih fun b hb=>h b (by simp[hb])]
theorem dB {H:Hp}:∀(k:Nat) {a:AV},bx 0 a→dR H k a=a
 |0,a,hf=>by cases a<;>simp only[dR]
 |k+1,a,hf=>by
  have ih:=fun {l:List AV} (hl:cN 0 l)=>uh (f:=dR H k) (fun a ha=>dB k (om hl a ha))
  cases a<;>simp only[bx] at hf<;>simp only[dR]
  case sl=>omega
  case sv=>omega
  case pt=>omega
  case agg cs=>rw[ih hf]
  case dc cs=>rw[ih hf]
  case fn f p q=>rw[ih hf.1,ih hf.2]
  case ju t x=>rw[dB k hf]
end Go.cO
end
