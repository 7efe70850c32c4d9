import Derived.Test.YtekfmjjmihomlaaGreatM15
import Derived.Test.YtekfmjjmihomlaaGreatM16
import Derived.IntWalk
section
/- Marks for the walk: what is still to be reduced. -/
namespace Go.cO
open Go.RowKit
def Go (p:Prop):Prop:=p
theorem aF {p:Prop} (h:p):Go p:=h
theorem aD {p q:Prop} (h1:Go p) (h2:Go q):p∧q:=⟨h1,h2⟩
theorem aA {es:List AV} {i:Nat} {d:AV} {K:AV→Prop} {e:AV} (h:es.getD i d=e) (k:Go (K e)):mJ es i d K:=mJ.of h k
theorem bT {H:Hp} {b:Nat} {K:TypeId→Nat→AV→List AV→Prop} {e:TypeId} {sz:Nat} {d:AV} {es:List AV} (h:bd H b=some (.row e sz d es)) (k:Go (K e sz d es)):fA H b K:=fA.of h k
theorem bA {α:Type} {x:Option α} {K:α→Prop} {a:α} (h:x=some a) (k:Go (K a)):gw x K:=gw.of h k
theorem wrap64 {n:Int} (h1:-9223372036854775808≤n) (h2:n<9223372036854775808):IntKind.i64.wrap n=n:=IntWalk.i64_in _ (by omega)
theorem JC {n:Int} (h1:0≤n) (h2:n<256):IntKind.u8.wrap n=n:=by
 simp only[IntKind.wrap,IntKind.signed,IntKind.bits]
 first|omega|(simp;omega)
theorem bK {g:Option Bool} {k:IntKind} {n:Int} {K:Int→Prop} (hK:Go (K (k.wrap n))):pK g k n K:=pK.of (fun _=>rfl) hK
theorem ax {g:Option Bool} {n:Int} {K:Int→Prop} (h1:Gd g→-9223372036854775808≤n) (h2:Gd g→n<9223372036854775808) (hK:Go (K n)):pK g .i64 n K:=pK.of (fun hg=>wrap64 (h1 hg) (h2 hg)) hK
theorem ay {g:Option Bool} {n:Int} {K:Int→Prop} (h1:Gd g→0≤n) (h2:Gd g→n<256) (hK:Go (K n)):pK g .u8 n K:=pK.of (fun hg=>JC (h1 hg) (h2 hg)) hK
theorem bR {t:Bool} {A B:Prop} (ht:t=true) (h:Go A):eG t A B:=by subst ht;exact eG.lt h
theorem bQ {t:Bool} {A B:Prop} (ht:t=false) (h:Go B):eG t A B:=by subst ht;exact eG.lf h
theorem b6 {t w:Bool} {A B J:Prop} (ht:t=w) (h:Go A):dZ t w A B J:=by subst ht;exact⟨.inl ⟨fun _=>h,fun h=>absurd rfl h⟩⟩
theorem bZ {t w:Bool} {A B J:Prop} (ht:t= !w) (h:Go B):dZ t w A B J:=⟨.inl ⟨fun h2=>(by subst h2;cases t<;>cases ht),fun _=>h⟩⟩
theorem ba {A B:Prop} (h:Go A):eG true A B:=eG.lt h
theorem b9 {A B:Prop} (h:Go B):eG false A B:=eG.lf h
theorem aB {t:Bool} {A B:Prop} (h1:t=true→Go A) (h2:t=false→Go B):eG t A B:=eG.of h1 h2
theorem bc {A B J:Prop} (h:Go A):dZ true true A B J:=dZ.tt h
theorem bN {t want:Bool} {A B J:Prop} (h:Go J):dZ t want A B J:=dZ.join h
theorem b7 {t want:Bool} {A B J:Prop} (h1:t=want→Go A) (h2:t= !want→Go B):dZ t want A B J:=dZ.split h1 h2
def vV (K:List AV→Prop):Prop:=K []
def sa (a:AV) (_:List AV) (ih:(List AV→Prop)→Prop) (K:List AV→Prop):Prop:=ej a fun a=>ih fun r'=>K (a::r')
noncomputable def vU (l:List AV):(List AV→Prop)→Prop:=List.rec (motive:=fun _=>(List AV→Prop)→Prop) vV sa l
theorem qB:∀(l:List AV) (K:List AV→Prop),vU l K=K l
 |[],_=>rfl
 |a::r,K=>by
  show ej a (fun a=>vU r fun r'=>K (a::r'))=_
  rw[eA,qB r]
noncomputable def vS (v:AV) (K:AV→Prop):Prop:=
 match v with
 | .dY l=>vU l fun l=>K (.dY l)
 |v=>ej v K
theorem qA (v:AV) (K:AV→Prop):vS v K=K v:=by
 cases v<;>first|rfl|exact qB _ _
structure HT (R:AV→Prop) (r:AV):Prop where
 ok:bz 0 r∧R r
theorem HT.eq {u:AV} {r:AV} (hf:bz 0 u) (h:r=u):HT (fun x=>x=u) r:=⟨by rw[h];exact hf,h⟩
structure zh (R:AV→Hp→Nat→Prop) (r:AV) (H:Hp) (nx:Nat):Prop where
 ok:R r H nx
noncomputable def IX (lrs:List iP) (R:AV→Prop):QT
 | .exit _,_,_,_=>False
 |_,fr,H,_=>gw (gK fr H lrs) fun rs=>vS (dK H 6 (pack rs)) (HT R)
theorem IY {lrs:List iP} {R:AV→Prop} {e:Ex} {fr:Fr} {H:Hp} {nx:Nat} (h:IX lrs R e fr H nx):F8 lrs R e fr H nx:=by
 cases e
 case exit=>exact h
 all_goals
  obtain⟨rs,h1,h2⟩:=h.ok
  rw[qA] at h2
  simp only[F8,h1,gv]
  exact h2.ok
noncomputable def xp (lrs:List iP) (R:AV→Hp→Nat→Prop):QT
 | .exit _,_,_,_=>False
 |_,fr,H,nx=>gw (gK fr H lrs) fun rs=>vS (pack rs) fun r=>zh R r H nx
theorem F7 {lrs:List iP} {R:AV→Hp→Nat→Prop} {e:Ex} {fr:Fr} {H:Hp} {nx:Nat} (h:xp lrs R e fr H nx):wG lrs R e fr H nx:=by
 cases e
 case exit=>exact h
 all_goals
  obtain⟨rs,h1,h2⟩:=h.ok
  rw[qA] at h2
  simp only[wG,h1,gv]
  exact h2.ok
section
variable {P:Program} {f:FuncId} {args:List AV} {H:Hp} {nx:Nat}
theorem aO {r:AV} {K:AV→Hp→Nat→Prop} (h:Pure P f args (fun x=>x=r)) (hf:cK 0 args) (hK:Go (K r H nx)):fj P f args H nx K:=fj.DO h hf hK
theorem aJ {R K:AV→Hp→Nat→Prop} (h:cC P f args H nx R) (hK:∀r H' nx',R r H' nx'→Go (K r H' nx')):fj P f args H nx K:=fj.of h hK
theorem aN {g:Bool} {r:AV} {K:AV→Prop} (h:g=true→Pure P f args (fun x=>x=r)) (hf:cK 0 args) (hK:Go (K r)):lM P g f args H nx K:=lM.DO h hf hK
theorem aL {id:Nat} {r:AV} {K:AV→Option (Nat×dj)→List Nat→Prop} (h:Pure P f args (fun x=>x=r)) (hf:cK 0 args) (hK:Go (K r none [])):jT P id f args H K:=jT.DO h hf hK
theorem aM {g:Bool} {id:Nat} {r:AV} {K:AV→List Nat→Prop} (h:g=true→Pure P f args (fun x=>x=r)) (hf:cK 0 args) (hK:Go (K r [])):pW P g id f args H K:=pW.DO h hf hK
theorem bO {fn:Func} {lc:LC} {lrs:List iP} {R:AV→Prop} (hf:P.funcs[f]?=some fn) (hname:(fn.name== "runtime.NumGoroutine")=false)
 (hl:(fn.body.bind (cT P fn.ntmps))=some lc) (hr:fN P fn.results.toList=some lrs) {n:Nat} (hn:n=fn.ntmps) (ha:Nat.ble args.length n=true)
 (h:Go (W P n 0 lc (hP 0 args) [] 0 (IX lrs R))):Pure P f args R:=by
 subst hn
 exact Pure.jj hf hname hl hr (Nat.le_of_ble_eq_true ha) ((ec h).mono fun _ _ _ _=>IY)
theorem bY {fn:Func} {lc:LC} {lrs:List iP} {R:AV→Hp→Nat→Prop} (hf:P.funcs[f]?=some fn) (hname:(fn.name== "runtime.NumGoroutine")=false)
 (hl:(fn.body.bind (cT P fn.ntmps))=some lc) (hr:fN P fn.results.toList=some lrs) {n:Nat} (hn:n=fn.ntmps) (ha:Nat.ble args.length n=true)
 (h:Go (W P n nx lc (hP 0 args) H nx (xp lrs R))):cC P f args H nx R:=by
 subst hn
 exact cC.jj hf hname hl hr (Nat.le_of_ble_eq_true ha) ((ec h).mono fun _ _ _ _=>F7)
theorem az {segs:List ng} {fr:Fr} {H:Hp} {nx:Nat} {Q:QT} (h:Go (WS P nx segs [] fr H fun ov H' nx'=>Q .normal (fO ov fr) H' nx')):fX P segs fr H nx Q:=fX.of h
theorem aR {n lo:Nat} {x:LC} {fr:Fr} {Q:QT} {σ:Type} (F:σ→Fr) (I:σ→Hp→Nat→Prop) (μ:σ→Nat) (s0:σ) (h0:hX fr (F s0)) (h1:I s0 H nx)
 (round:∀s H nx,I s H nx→Go (W P n lo x (F s) H nx (gm (fun fr' H' nx'=>∃s',μ s'<μ s∧hX fr' (F s')∧I s' H' nx') Q))):fk P n lo x fr H nx Q:=fk.fr F I μ s0 h0 h1 round
structure lO (P:Program) (n lo:Nat) (x:LC) (fr:Fr) (H:Hp) (nx:Nat) (Q:QT):Prop where
 ok:∀c1,cT P n c1=some x→∀w0 M0 c0 a w,Holds w0 M0 c0 lo n fr H nx a w→∀b k cs,∃e a' w',LQ w0 M0 c0 lo n Q e a' w'∧Arrives P (lone (b.at a (.code c1:: .inLoop c1::k)) cs w) b k cs e a' w'
theorem b8 {n lo:Nat} {x:LC} {fr:Fr} {Q:QT} (h:lO P n lo x fr H nx Q):fk P n lo x fr H nx Q:=by
 refine⟨fun code hc w0 M0 c0 a w hh=> ?_⟩
 have:∃c1,code= .loop c1∧cT P n c1=some x:=by
  cases code<;>simp only[cT] at hc
  case loop c1=>
   simp only[Option.map_eq_some_iff,LC.loop.injEq] at hc
   obtain⟨x',h1,rfl⟩:=hc
   exact⟨c1,rfl,h1⟩
  all_goals (exfalso;repeat' (split at hc))<;>simp at hc
 obtain⟨c1,rfl,h1⟩:=this
 intro b k cs
 obtain⟨e,a',w',hq,harr⟩:=h.ok c1 h1 w0 M0 c0 a w hh b k cs
 exact⟨e,a',w',hq, .of_steps (.one step_loop) harr⟩
theorem ao {n lo:Nat} {x:LC} {fr:Fr} {Q:QT} (h:Go (W P n lo x fr H nx (gm (fun fr H nx=>lO P n lo x fr H nx Q) Q))):lO P n lo x fr H nx Q:=by
 refine⟨fun c1 h1 w0 M0 c0 a w hh b k cs=> ?_⟩
 obtain⟨e,a1,w1,hq,harr⟩:=ec h c1 h1 w0 M0 c0 a w hh b (.inLoop c1::k) cs
 obtain⟨x',fr',H',nx',rfl,hQ,hh'⟩:=hq
 cases x' with
 |normal=>
  obtain⟨e2,a2,w2,hq2,harr2⟩:=hQ.ok c1 h1 w0 M0 c0 a1 w1 hh' b k cs
  exact⟨e2,a2,w2,hq2, .of_steps (Steps.trans harr (.one step_inLoop)) harr2⟩
 |exit id=>exact⟨_,a1,w1,⟨.exit id,fr',H',nx',rfl,hQ,hh'⟩, .pass (x:= .inLoop c1) rfl (fun _ _=> .inl (by simp[Ex.to])) harr⟩
 |ret=>exact⟨_,a1,w1,⟨.ret,fr',H',nx',rfl,hQ,hh'⟩, .pass (x:= .inLoop c1) rfl (fun _ _=> .inl (by simp[Ex.to])) harr⟩
end
theorem dN {α:Type} [Inhabited α] (f:α→AV) (l:List α) (i:Nat) (d:AV) (h:i<l.length):(l.map f).getD i d=f (l.getD i default):=by simp[List.getD,h]
theorem cS (H:Hp) (b:Nat) (k:Option dj):bd ((b,k)::H) b=k:=by simp[bd]
theorem yX {H:Hp} {b d:Nat} {v k:Option dj} (hne:b≠d) (h:bd H b=k):bd ((d,v)::H) b=k:=by simp[bd,hne,h]
end Go.cO
/- What is known turned at a function's end: nil slices get names, rows that are written no more lose theirs; a call that only looks, while the caller's rows stay. -/
namespace Go.cO
open Go.RowKit
def cz (c c2:Cx) (a a2:AV):Prop:=∀v,VR c a v→VR c2 a2 v
theorem cz.cD {c c2:Cx} (h:c.le c2) (a:AV):cz c c2 a a:=fun _ hv=>VR.cD h hv
theorem cz.any (c c2:Cx) (a:AV):cz c c2 a .any:=fun _ _=>by rw[VR];trivial
theorem cz.nil {c c2:Cx} {b:Nat} {e:TypeId} {sz:Nat} {d:AV} (hU:c2.U b) (hH:c2.H b=some (.row e sz d [])) (hρ:c2.ρ b=none):cz c c2 (.sc (.slice none 0 0)) (.sl b 0):=by
 intro v hv
 rw[VR] at hv
 subst hv
 rw[VR]
 refine⟨hU,none,0,rfl,fun e' sz' d' es' he=> ?_⟩
 rw[hH] at he
 cases he
 exact⟨by simp,fun _=> .inl ⟨hρ,rfl,rfl⟩⟩
theorem cz.im {w0:World} {c c2:Cx} (hS:dB w0 c) (hle:c.le c2) {b:Nat} {e:TypeId} {sz:Nat} {d:AV} {es:List AV} (d2:AV) (hw:c2.w=c.w) (hH:c.H b=some (.row e sz d es)) (hM:∀blk o z,c.ρ b=some (blk,o,z)→¬c2.M blk):cz c c2 (.sl b es.length) (.im sz d2 es):=by
 intro v hv
 rw[VR] at hv
 obtain⟨_,a,cap,rfl,hr⟩:=hv
 obtain⟨_,hr⟩:=hr _ _ _ _ hH
 obtain⟨_,hz,hrow⟩:=hS.jZ b _ _ _ _ hH (rj (hr rfl))
 rw[VR]
 rcases hr rfl with⟨hρ,rfl,rfl⟩|⟨blk,o,z,hρ,rfl,hc1,_,_⟩
 ·rcases hrow with⟨_,rfl⟩|⟨_,_,_,hρ',_⟩
  ·exact⟨none,0,rfl,by simp, .inl rfl⟩
  ·rw[hρ] at hρ';cases hρ'
 ·rcases hrow with⟨hρ',_⟩|⟨blk1,o1,z1,hρ1,_,_,_,hrow⟩
  ·rw[hρ] at hρ';cases hρ'
  ·rw[hρ] at hρ1;cases hρ1
   exact⟨_,cap,rfl,hc1, .inr ⟨blk,o,rfl,hz,hM _ _ _ hρ,dE.cD hle (by rw[hw]) hrow⟩⟩
inductive ch (c c2:Cx):List AV→List AV→Prop where
 |nil:ch c c2 [] []
 |cons {a a2:AV} {as as2:List AV} (h:cz c c2 a a2) (hs:ch c c2 as as2):ch c c2 (a::as) (a2::as2)
theorem ch.length {c c2:Cx} {as as2:List AV} (h:ch c c2 as as2):as.length=as2.length:=by
 induction h with
 |nil=>rfl
 |cons _ _ ih=>simp[ih]
theorem ch.cD {c c2:Cx} (h:c.le c2):∀(as:List AV),ch c c2 as as
 |[]=> .nil
 |a::as=> .cons (cz.cD h a) (ch.cD h as)
theorem ch.LJ {c c2:Cx} {as as2:List AV} (h:ch c c2 as as2):∀{vs:List Value},cL c as vs→cL c2 as2 vs:=by
 induction h with
 |nil=>intro vs hv;rw[cL] at hv ⊢;exact hv
 |cons h1 _ ih=>
  intro vs hv
  rw[cL] at hv
  obtain⟨v,vs',rfl,g1,g2⟩:=hv
  rw[cL]
  exact⟨v,vs',rfl,h1 v g1,ih g2⟩
theorem ch.append {c c2:Cx} {as as2 bs bs2:List AV} (h:ch c c2 as as2) (h2:ch c c2 bs bs2):ch c c2 (as++bs) (as2++bs2):=by
 induction h with
 |nil=>exact h2
 |cons h1 _ ih=>exact .cons h1 ih
theorem ch.vq {c c2:Cx}:∀{as as2:List AV},as.length=as2.length→(∀i,i<as.length→cz c c2 (as.getD i .any) (as2.getD i .any))→ch c c2 as as2
 |[],[],_,_=> .nil
 |[],_::_,h,_=>by simp at h
 |_::_,[],h,_=>by simp at h
 |a::as,b::bs,hl,h=> .cons (by simpa using h 0 (by simp)) (ch.vq (by simpa using hl) fun i hi=>by simpa using h (i+1) (by simpa using hi))
theorem cz.agg {c c2:Cx} {as as2:List AV} (h:ch c c2 as as2):cz c c2 (.agg as) (.agg as2):=by
 intro v hv
 rw[VR] at hv ⊢
 obtain⟨vs,rfl,hr⟩:=hv
 exact⟨vs,rfl,h.LJ hr⟩
theorem cz.dY {c c2:Cx} {as as2:List AV} (h:ch c c2 as as2):cz c c2 (.dY as) (.dY as2):=by
 intro v hv
 rw[VR] at hv ⊢
 obtain⟨vs,rfl,hr⟩:=hv
 exact⟨vs,rfl,h.LJ hr⟩
theorem ch.row {c c2:Cx} (hw:c2.w=c.w) {sz:Nat} {blk:Nat} {as as2:List AV} (h:ch c c2 as as2):∀{o:Nat},dE c sz as blk o→dE c2 sz as2 blk o:=by
 induction h with
 |nil=>intro o _;rw[dE];trivial
 |cons h1 _ ih=>
  intro o hr
  rw[dE] at hr ⊢
  obtain⟨⟨v,g1,g2⟩,g3⟩:=hr
  exact⟨⟨v,by rw[hw];exact g1,h1 v g2⟩,ih g3⟩
structure nf (c c2:Cx):Prop where
 w:c2.w=c.w
 m0:c2.M0=c.M0
 U:∀b,c.U b→c2.U b
 fE:∀b,c.U b→c2.ρ b=c.ρ b
 row:∀b e sz d es,c2.H b=some (.row e sz d es)→c2.U b∧((∃d0 es0,c.H b=some (.row e sz d0 es0)∧c.U b∧es0.length=es.length)∨(es=[]∧¬c.U b∧c2.ρ b=none∧0<sz))
theorem nf.le {c c2:Cx} (h:nf c c2):c.le c2:=by
 refine⟨h.U,by rw[h.w];exact Nat.le_refl _,fun b hm _=>⟨by rw[h.w], ?_⟩,fun b hu e sz d es he=> ?_⟩
 ·rintro(h0|⟨x,k,o,z,hk,hρ⟩)
  ·exact hm (.inl (by rw[←h.m0];exact h0))
  ·obtain⟨e,sz,d,es⟩:=k
   obtain⟨_,⟨d0,es0,h1,h2,_⟩|⟨_,_,h3,_⟩⟩:=h.row x e sz d es hk
   ·exact hm (.inr ⟨x,_,o,z,h1,by rw[←h.fE x h2];exact hρ⟩)
   ·rw[h3] at hρ;cases hρ
 ·obtain⟨_,⟨d0,es0,h1,h2,h3⟩|⟨_,h2,_⟩⟩:=h.row b e sz d es he
  ·exact⟨e,d0,es0,h1, .inl ⟨h3,h.fE b hu⟩⟩
  ·exact absurd hu h2
theorem nf.MP {w0:World} {c c2:Cx} (h:nf c c2) (hS:dB w0 c) (hv:∀b e sz d es d0 es0,c2.H b=some (.row e sz d es)→c.H b=some (.row e sz d0 es0)→ch c c2 es0 es):dB w0 c2:=by
 refine⟨by rw[h.w];exact hS.below,by rw[h.m0];exact hS.m0,fun b e sz d es he=> ?_,fun b b' k k' blk o z o' z' hk hk' hρ hρ'=> ?_⟩
 ·obtain⟨hU,⟨d0,es0,h1,h2,h3⟩|⟨rfl,h2,h3,h4⟩⟩:=h.row b e sz d es he
  ·have hav:=hv b e sz d es d0 es0 he h1
   obtain⟨_,⟨g2,g3⟩|⟨g2,g3⟩⟩:=hS.row b e sz d0 es0 h1
   ·refine⟨hU, .inl ⟨g2, ?_⟩⟩
    rw[h.fE b h2,h.w]
    rcases g3 with⟨g4,g5⟩|⟨blk,o,z,g4,g5,g6,g7,g8⟩
    ·subst g5
     exact .inl ⟨g4,List.eq_nil_of_length_eq_zero (by simpa using h3.symm)⟩
    ·exact .inr ⟨blk,o,z,g4,g5,g6,by rw[←h3];exact g7,hav.row h.w g8⟩
   ·obtain⟨r,x,ms,clk,g4,g5,g6,rfl,g8⟩:=g3
    cases hav with
    |cons k1 k2=>
     cases k2
     exact⟨hU, .inr ⟨g2,r,_,ms,clk,(h.fE b h2).trans g4,g5,by rw[h.w];exact g6,rfl,k1 _ g8⟩⟩
  ·exact⟨hU, .inl ⟨h4, .inl ⟨h3,rfl⟩⟩⟩
 ·obtain⟨e,sz,d,es⟩:=k
  obtain⟨e',sz',d',es'⟩:=k'
  obtain⟨_,⟨_,_,h1,h2,_⟩|⟨_,_,h3,_⟩⟩:=h.row b _ _ _ _ hk
  ·obtain⟨_,⟨_,_,g1,g2,_⟩|⟨_,_,g3,_⟩⟩:=h.row b' _ _ _ _ hk'
   ·exact hS.inj b b' _ _ blk o z o' z' h1 g1 (by rw[←h.fE b h2];exact hρ) (by rw[←h.fE b' g2];exact hρ')
   ·rw[g3] at hρ';cases hρ'
  ·rw[h3] at hρ;cases hρ
def Wk (r:AV) (H:Hp) (nx:Nat) (r2:AV) (H2:Hp) (nx2:Nat):Prop:=
 ∀w0 ρ U w M0,(∀b,U b→b<nx)→dB w0 ⟨ρ,bd H,U,w,M0⟩→
  ∃ρ2 U2,(∀b,U2 b→b<nx2)∧dB w0 ⟨ρ2,bd H2,U2,w,M0⟩∧Cx.le ⟨ρ,bd H,U,w,M0⟩ ⟨ρ2,bd H2,U2,w,M0⟩∧cz ⟨ρ,bd H,U,w,M0⟩ ⟨ρ2,bd H2,U2,w,M0⟩ r r2
theorem cC.wk {P:Program} {f:FuncId} {args:List AV} {H:Hp} {nx:Nat} {R R2:AV→Hp→Nat→Prop} (h:cC P f args H nx R) (hR:∀r H' nx',R r H' nx'→∃r2 H2 nx2,Wk r H' nx' r2 H2 nx2∧R2 r2 H2 nx2):cC P f args H nx R2:=by
 refine⟨h.1,fun w0 c vs a1 a2 a3 a4=>(h.2 w0 c vs a1 a2 a3 a4).mono ?_⟩
 rintro e w' ⟨v,r,H',nx',ρ,U,rfl,hRr,hU,hS,hle,hv⟩
 obtain⟨r2,H2,nx2,hw,hR2⟩:=hR r H' nx' hRr
 obtain⟨ρ2,U2,k1,k2,k3,k4⟩:=hw w0 ρ U w' c.M0 hU hS
 exact⟨v,r2,H2,nx2,ρ2,U2,rfl,hR2,k1,k2,hle.trans k3,k4 v hv⟩
def s7:List AV→Prop
 |[]=>True
 | .sc _::r=>s7 r
 |_::_=>False
def gE:AV→Prop
 | .sc _=>True
 | .agg cs=>s7 cs
 | .dY cs=>∀a∈cs,(∃u,a= .sc u)∨∃ds,a= .agg ds∧s7 ds
 |_=>False
theorem pz {c c2:Cx}:∀{cs:List AV} {vs:List Value},s7 cs→cL c cs vs→cL c2 cs vs
 |[],vs,_,h=>by rw[cL] at h ⊢;exact h
 | .sc u::r,vs,hf,h=>by
  rw[cL] at h ⊢
  obtain⟨v,vs',rfl,h1,h2⟩:=h
  exact⟨v,vs',rfl,by rw[VR] at h1 ⊢;exact h1,pz hf h2⟩
theorem lY {c c2:Cx} {r:AV} {v:Value} (hf:gE r) (h:VR c r v):VR c2 r v:=by
 have one:∀{a:AV} {v:Value},((∃u,a= .sc u)∨∃ds,a= .agg ds∧s7 ds)→VR c a v→VR c2 a v:=by
  rintro a v (⟨u,rfl⟩|⟨ds,rfl,hd⟩) h
  ·rw[VR] at h ⊢;exact h
  ·rw[VR] at h ⊢;obtain⟨vs,rfl,hr⟩:=h;exact⟨vs,rfl,pz hd hr⟩
 cases r<;>simp only[gE] at hf
 case sc u=>exact one (.inl ⟨u,rfl⟩) h
 case agg cs=>exact one (.inr ⟨cs,rfl,hf⟩) h
 case dY cs=>
  rw[VR] at h ⊢
  obtain⟨vs,rfl,hr⟩:=h
  refine⟨vs,rfl, ?_⟩
  generalize vs.toList=l at hr
  induction cs generalizing l with
  |nil=>rw[cL] at hr ⊢;exact hr
  |cons a cs ih=>
   rw[cL] at hr ⊢
   obtain⟨v,vs',rfl,h1,h2⟩:=hr
   exact⟨v,vs',rfl,one (hf a (by simp)) h1,ih (fun b hb=>hf b (by simp[hb])) _ h2⟩
theorem kG {w0:World} {c:Cx} {H:Hp} (h:dB w0 c) (hH:c.H=bd H):∀{as:List AV} {vs:List Value},cK 0 (as.map (dK H 6))→cL c as vs→cL (base c.w c.M0) (as.map (dK H 6)) vs
 |[],vs,_,hv=>by rw[cL] at hv;subst hv;simp only[List.map_nil];rw[cL]
 |a::as,vs,hf,hv=>by
  rw[cL] at hv
  obtain⟨v,vs',rfl,h1,h2⟩:=hv
  simp only[List.map_cons,cK] at hf ⊢
  rw[cL]
  exact⟨v,vs',rfl,iX h hH 6 hf.1 h1,kG h hH hf.2 h2⟩
theorem Pure.view {P:Program} {f:FuncId} {args args2:List AV} {r:AV} {H:Hp} {nx:Nat} {K:AV→Hp→Nat→Prop} (h:Pure P f args2 (fun x=>x=r)) (ha:args.map (dK H 6)=args2) (hf:cK 0 args2) (hr:gE r) (hK:K r H nx):cC P f args H nx K:=by
 refine⟨h.1,fun w0 c vs hS hH hU hv=> ?_⟩
 subst ha
 refine(h.2 c.M0 c.w vs hS.iV (kG hS hH hf hv)).mono fun e w' hh=> ?_
 obtain⟨v,r',rfl,rfl,_,hvr,hb⟩:=hh
 obtain⟨s1,s2⟩:=hS.world hb
 refine⟨v,r',H,nx,c.ρ,c.U,rfl,hK,hU, ?_, ?_,lY hr hvr⟩
 ·rw[←hH];exact s1
 ·rw[←hH];exact s2
theorem Pure.KU {P:Program} {f:FuncId} {args args2:List AV} {r:AV} {H:Hp} {id:Nat} (h:Pure P f args2 (fun x=>x=r)) (ha:args.map (dK H 6)=args2) (hf:cK 0 args2) (hr:gE r):lL P f args H id (fun r' H'=>r'=r∧H'=H):=by
 refine⟨h.1,fun w0 c vs hS hH hU hv=> ?_⟩
 subst ha
 refine(h.2 c.M0 c.w vs hS.iV (kG hS hH hf hv)).mono fun e w' hh=> ?_
 obtain⟨v,r',rfl,rfl,_,hvr,hb⟩:=hh
 obtain⟨s1,s2⟩:=hS.world hb
 obtain⟨t1,t2⟩:=s1.used (U:=fun x=>c.U x∨x=id) fun _ h=> .inl h
 refine⟨v,r',H,c.ρ,rfl,⟨rfl,rfl⟩, ?_, ?_,lY hr hvr⟩
 ·rw[←hH];exact t1
 ·rw[←hH];exact s2.trans t2
theorem aT {P:Program} {f:FuncId} {args:List AV} {H:Hp} {nx:Nat} {args2:List AV} {r:AV} {K:AV→Hp→Nat→Prop} (h:Pure P f args2 (fun x=>x=r)) (ha:args.map (dK H 6)=args2) (hf:cK 0 args2) (hr:gE r) (hK:Go (K r H nx)):fj P f args H nx K:=⟨h.view ha hf hr hK⟩
theorem aX {P:Program} {f:FuncId} {args:List AV} {H:Hp} {id:Nat} (S:List Nat) {args2:List AV} {r:AV} {K:AV→Option (Nat×dj)→List Nat→Prop} (h:Pure P f args2 (fun x=>x=r)) (ha:∀H1,(∀b∈S,bd H1 b=bd H b)→args.map (dK H1 6)=args2) (hf:cK 0 args2) (hr:gE r) (hK:Go (K r none S)):jT P id f args H K:=
 jT.fresh S (fun H1 h1=>h.KU (ha H1 h1) hf hr) (fun _ _ h=>by cases h) hK
mutual
/-- Every name in it is one of these. -/
def fS (p:Nat→Prop):AV→Prop
 | .sc _=>True
 | .any=>True
 | .im _ _ es=>gI p es
 | .ip _ _ es _ _=>gI p es
 | .sl b _=>p b
 | .pt b _ _ _=>p b
 | .zc=>True
 | .agg cs=>gI p cs
 | .dY cs=>gI p cs
 | .fn _ x q=>gI p x∧gI p q
 | .je _ x=>fS p x
 | .mp b=>p b
 | .ab=>True
 | .sv b _ _ _=>p b
def gI (p:Nat→Prop):List AV→Prop
 |[]=>True
 |a::as=>fS p a∧gI p as
end
mutual
theorem VR.vm {c:Cx}:∀{a:AV} {v:Value},VR c a v→fS c.U a
 | .sc u,v,_=>by rw[fS];trivial
 | .any,_,_=>by rw[fS];trivial
 | .im sz d es,v,hv=>by
  rw[VR] at hv
  rw[fS]
  obtain⟨_,_,_,_,h0|⟨blk,o,_,_,_,hr⟩⟩:=hv
  ·subst h0;rw[gI];trivial
  ·exact dE.vm hr
 | .ip sz d es i off,v,hv=>by
  rw[VR] at hv
  rw[fS]
  obtain⟨_,_,blk,o,_,_,hr⟩:=hv
  exact dE.vm hr
 | .sl b len,v,hv=>by rw[VR] at hv;rw[fS];exact hv.1
 | .pt b len i off,v,hv=>by rw[VR] at hv;rw[fS];exact hv.1
 | .zc,v,_=>by rw[fS];trivial
 | .agg cs,v,hv=>by rw[VR] at hv;rw[fS];obtain⟨_,_,hr⟩:=hv;exact cL.vm hr
 | .dY cs,v,hv=>by rw[VR] at hv;rw[fS];obtain⟨_,_,hr⟩:=hv;exact cL.vm hr
 | .fn f p q,v,hv=>by rw[VR] at hv;rw[fS];obtain⟨_,_,_,h1,h2⟩:=hv;exact⟨cL.vm h1,cL.vm h2⟩
 | .je t x,v,hv=>by rw[VR] at hv;rw[fS];obtain⟨_,_,h1⟩:=hv;exact VR.vm h1
 | .mp b,v,hv=>by rw[VR] at hv;rw[fS];exact hv.1
 | .ab,v,_=>by rw[fS];trivial
 | .sv b len lo n,v,hv=>by rw[VR] at hv;rw[fS];exact hv.1
theorem dE.vm {c:Cx} {sz blk:Nat}:∀{es:List AV} {o:Nat},dE c sz es blk o→gI c.U es
 |[],_,_=>by rw[gI];trivial
 |e::es,o,hr=>by
  rw[dE] at hr
  rw[gI]
  obtain⟨⟨v,_,h2⟩,h3⟩:=hr
  exact⟨VR.vm h2,dE.vm h3⟩
theorem cL.vm {c:Cx}:∀{as:List AV} {vs:List Value},cL c as vs→gI c.U as
 |[],vs,_=>by rw[gI];trivial
 |a::as,vs,hv=>by
  rw[cL] at hv
  rw[gI]
  obtain⟨v,vs',_,h1,h2⟩:=hv
  exact⟨VR.vm h1,cL.vm h2⟩
end
mutual
theorem VR.wC {c:Cx} {U:Nat→Prop}:∀{a:AV} {v:Value},fS U a→VR c a v→VR { c with U:=U } a v
 | .sc u,v,_,hv=>by rw[VR] at hv ⊢;exact hv
 | .any,_,_,_=>by rw[VR];trivial
 | .im sz d es,v,hn,hv=>by
  rw[fS] at hn
  rw[VR] at hv ⊢
  obtain⟨a,cap,h1,h2,h3⟩:=hv
  refine⟨a,cap,h1,h2, ?_⟩
  rcases h3 with h3|⟨blk,o,h4,h5,h6,h7⟩
  ·exact .inl h3
  ·exact .inr ⟨blk,o,h4,h5,h6,dE.wC hn h7⟩
 | .ip sz d es i off,v,hn,hv=>by
  rw[fS] at hn
  rw[VR] at hv ⊢
  obtain⟨h1,h2,blk,o,h3,h4,h5⟩:=hv
  exact⟨h1,h2,blk,o,h3,h4,dE.wC hn h5⟩
 | .sl b len,v,hn,hv=>by rw[fS] at hn;rw[VR] at hv ⊢;exact⟨hn,hv.2⟩
 | .pt b len i off,v,hn,hv=>by rw[fS] at hn;rw[VR] at hv ⊢;exact⟨hn,hv.2⟩
 | .zc,v,_,hv=>by rw[VR] at hv ⊢;exact hv
 | .agg cs,v,hn,hv=>by rw[fS] at hn;rw[VR] at hv ⊢;obtain⟨vs,h1,h2⟩:=hv;exact⟨vs,h1,cL.wC hn h2⟩
 | .dY cs,v,hn,hv=>by rw[fS] at hn;rw[VR] at hv ⊢;obtain⟨vs,h1,h2⟩:=hv;exact⟨vs,h1,cL.wC hn h2⟩
 | .fn f p q,v,hn,hv=>by rw[fS] at hn;rw[VR] at hv ⊢;obtain⟨ps,qs,h1,h2,h3⟩:=hv;exact⟨ps,qs,h1,cL.wC hn.1 h2,cL.wC hn.2 h3⟩
 | .je t x,v,hn,hv=>by rw[fS] at hn;rw[VR] at hv ⊢;obtain⟨u,h1,h2⟩:=hv;exact⟨u,h1,VR.wC hn h2⟩
 | .mp b,v,hn,hv=>by rw[fS] at hn;rw[VR] at hv ⊢;exact⟨hn,hv.2⟩
 | .ab,v,_,hv=>by rw[VR] at hv ⊢;exact hv
 | .sv b len lo n,v,hn,hv=>by rw[fS] at hn;rw[VR] at hv ⊢;exact⟨hn,hv.2⟩
theorem dE.wC {c:Cx} {U:Nat→Prop} {sz blk:Nat}:∀{es:List AV} {o:Nat},gI U es→dE c sz es blk o→dE { c with U:=U } sz es blk o
 |[],_,_,_=>by rw[dE];trivial
 |e::es,o,hn,hr=>by
  rw[gI] at hn
  rw[dE] at hr ⊢
  obtain⟨⟨v,h1,h2⟩,h3⟩:=hr
  exact⟨⟨v,h1,VR.wC hn.1 h2⟩,dE.wC hn.2 h3⟩
theorem cL.wC {c:Cx} {U:Nat→Prop}:∀{as:List AV} {vs:List Value},gI U as→cL c as vs→cL { c with U:=U } as vs
 |[],vs,_,hv=>by rw[cL] at hv ⊢;exact hv
 |a::as,vs,hn,hv=>by
  rw[gI] at hn
  rw[cL] at hv ⊢
  obtain⟨v,vs',h0,h1,h2⟩:=hv
  exact⟨v,vs',h0,VR.wC hn.1 h1,cL.wC hn.2 h2⟩
end
theorem cC.DO {P:Program} {f:FuncId} {args:List AV} {r:AV} {H:Hp} {nx:Nat} {K:AV→Hp→Nat→Prop} (h:cC P f args H nx (fun r' H' _=>r'=r∧H'=H)) (hr:gE r) (hK:K r H nx):cC P f args H nx K:=by
 refine⟨h.1,fun w0 c vs hS hH hU hv=>(h.2 w0 c vs hS hH hU hv).mono ?_⟩
 rintro e w' ⟨v,r',H',nx',ρ,U,rfl,⟨rfl,rfl⟩,_,hS',hle,hvr⟩
 have hrows:∀b e sz d es,bd H' b=some (.row e sz d es)→c.U b∧(∀blk o z,c.ρ b=some (blk,o,z)→gI c.U es)∧(c.ρ b=none→es=[]):=by
  intro b e sz d es he
  obtain⟨g1,⟨_,g3⟩|⟨_,r,x,ms,clk,g3,_,_,rfl,g5⟩⟩:=hS.row b e sz d es (by rw[hH];exact he)
  ·refine⟨g1,fun blk o z hρ=> ?_,fun hρ=> ?_⟩
   ·rcases g3 with⟨g4,rfl⟩|⟨_,_,_,_,_,_,_,g5⟩
    ·rw[gI];trivial
    ·exact g5.vm
   ·rcases g3 with⟨_,g4⟩|⟨_,_,_,g4,_⟩
    ·exact g4
    ·rw[hρ] at g4;cases g4
  ·refine⟨g1,fun blk o z hρ=> ?_,fun hρ=> ?_⟩
   ·simp only[gI,and_true];exact g5.vm
   ·rw[hρ] at g3;cases g3
 have hnam:∀b e sz d es,bd H' b=some (.row e sz d es)→gI c.U es:=by
  intro b e sz d es he
  obtain⟨_,h2,h3⟩:=hrows b e sz d es he
  cases hρ:c.ρ b with
  |none=>rw[h3 hρ,gI];trivial
  |some x=>exact h2 _ _ _ hρ
 refine⟨v,r',H',nx,ρ,c.U,rfl,hK,hU,⟨hS'.below,hS'.m0,fun b e sz d es he=> ?_,hS'.inj⟩,⟨fun _ h=>h,hle.sz,hle.blk,hle.row⟩,lY hr hvr⟩
 obtain⟨_,⟨g2,g3⟩|⟨g2,r,x,ms,clk,g4,g5,g6,rfl,g8⟩⟩:=hS'.row b e sz d es he
 ·refine⟨(hrows b e sz d es he).1, .inl ⟨g2, ?_⟩⟩
  rcases g3 with g3|⟨blk,o,z,g4,g5,g6,g7,g8⟩
  ·exact .inl g3
  ·exact .inr ⟨blk,o,z,g4,g5,g6,g7,dE.wC (hnam b e sz d es he) g8⟩
 ·have hn:=hnam b e sz d _ he
  simp only[gI,and_true] at hn
  exact⟨(hrows b e sz d _ he).1, .inr ⟨g2,r,x,ms,clk,g4,g5,g6,rfl,VR.wC hn g8⟩⟩
theorem cC.more {P:Program} {f:FuncId} {args:List AV} {H:Hp} {nx:Nat} {K K':AV→Hp→Nat→Prop} (h:cC P f args H nx K) (hk:∀r H n,K r H n→∃n',n≤n'∧K' r H n'):cC P f args H nx K':=by
 refine⟨h.1,fun w0 c vs a1 a2 a3 a4=>(h.2 w0 c vs a1 a2 a3 a4).mono ?_⟩
 rintro e w' ⟨v,r,H',nx',ρ,U,he,hR,hU,hrest⟩
 obtain⟨n',hn,hR'⟩:=hk _ _ _ hR
 exact⟨v,r,H',n',ρ,U,he,hR',fun b hb=>Nat.lt_of_lt_of_le (hU b hb) hn,hrest⟩
theorem bL {P:Program} {f:FuncId} {args:List AV} {H:Hp} {nx:Nat} {g:Bool} {r:AV} {K:AV→Prop} (h:g=true→cC P f args H nx (fun r' H' _=>r'=r∧H'=H)) (hr:gE r) (hK:Go (K r)):lM P g f args H nx K:=
 ⟨⟨r,fun hg K' hK'=>((h hg).DO (K:=fun r' H' n=>r'=r∧H'=H∧n=nx) hr ⟨rfl,rfl,rfl⟩).more (by rintro _ _ _ ⟨rfl,rfl,rfl⟩;exact⟨_,Nat.le_succ _,hK'⟩),hK⟩⟩
theorem bM {P:Program} {f:FuncId} {args:List AV} {H:Hp} {nx:Nat} {r:AV} {K:AV→Hp→Nat→Prop} (h:cC P f args H nx (fun r' H' _=>r'=r∧H'=H)) (hr:gE r) (hK:Go (K r H nx)):fj P f args H nx K:=⟨h.DO hr hK⟩
def qa (P:Program) (f:FuncId) (args:List AV) (H:Hp) (nx:Nat) (r:AV):Prop:=cC P f args H nx (fun r' H' _=>r'=r∧∀b,b<nx→bd H' b=bd H b)
theorem qa.exact {P:Program} {f:FuncId} {args:List AV} {H:Hp} {nx:Nat} {r:AV} (h:qa P f args H nx r):cC P f args H nx (fun r' H' _=>r'=r∧H'=H):=by
 refine⟨h.1,fun w0 c vs hS hH hU hv=>(h.2 w0 c vs hS hH hU hv).mono ?_⟩
 rintro e w' ⟨v,r',H',nx',ρ,U,rfl,⟨rfl,hk⟩,hU',hS',hle,hvr⟩
 have h2:∀b,bd H b=bd H' b∨bd H b=none:=by
  intro b
  by_cases hb:b<nx
  ·exact .inl (hk b hb).symm
  ·cases hg:bd H b with
   |none=>exact .inr rfl
   |some k=>
    exfalso
    obtain⟨e,sz,d,es⟩:=k
    exact hb (hU b (hS.row b e sz d es (by rw[hH];exact hg)).1)
 obtain⟨s1,s2⟩:=hS'.drop h2
 exact⟨v,_,_,nx',ρ,U,rfl,⟨rfl,rfl⟩,hU',s1,hle.trans s2,VR.cD s2 hvr⟩
theorem aW {P:Program} {f:FuncId} {args:List AV} {H:Hp} {nx:Nat} {r:AV} {K:AV→Hp→Nat→Prop} (h:qa P f args H nx r) (hr:gE r) (hK:Go (K r H nx)):fj P f args H nx K:=bM h.exact hr hK
theorem aV {P:Program} {f:FuncId} {args:List AV} {H:Hp} {nx:Nat} {g:Bool} {r:AV} {K:AV→Prop} (h:g=true→qa P f args H nx r) (hr:gE r) (hK:Go (K r)):lM P g f args H nx K:=bL (fun hg=>(h hg).exact) hr hK
theorem cE {H:Hp} {b d:Nat} {v:Option dj} (hne:b≠d):bd ((d,v)::H) b=bd H b:=by simp[bd,hne]
theorem zh.look {r r':AV} {H H':Hp} {nx nx':Nat} (h:r'=r) (hk:∀b,b<nx→bd H' b=bd H b):zh (fun r' H' _=>r'=r∧∀b,b<nx→bd H' b=bd H b) r' H' nx':=⟨⟨h,hk⟩⟩
theorem DZ (d:Nat) (k:IntKind) (i:Nat):iH d (some (.sc (.int k (i:Int))))=some i:=by
 simp only[iH];rw[if_pos (by omega)];simp
theorem I0 {H:Hp} {s:Nat} {d:AV} {es:List AV} {lo hi:Option AV} {l h:Nat} (h1:iH 0 lo=some l) (h2:iH es.length hi=some h) (h3:l≤h∧h≤es.length):pA H s lo hi (.im s d es)=some (.im s d ((es.drop l).take (h - l))):=by
 simp only[pA,h1,h2];rw[if_pos ⟨trivial,h3⟩]
structure K0 (a b:Nat):Prop where
 ne:a≠b
def qM (b:Nat):List Nat→Prop
 |[]=>True
 |x::l=>K0 b x∧qM b l
def IF (s t:List Nat×Option Nat):Prop:=match s.2,t.2 with
 |none,none=>True
 |some b,none=>qM b t.1
 |none,some b=>qM b s.1
 |some b,some b'=>qM b t.1∧qM b' s.1∧K0 b b'
def vN (tr:Tr):List (Nat×Nat)→Prop
 |[]=>True
 |p::ps=>IF (tr.getD p.1 ([],none)) (tr.getD p.2 ([],none))∧vN tr ps
theorem ij {b:Nat}:∀{l:List Nat},qM b l→b∉l
 |[],_=>by simp
 |x::l,h=>by
  have h1:=h.1.ne
  have h2:=ij h.2
  simp[h1,h2]
theorem yR {s t:List Nat×Option Nat} (h:IF s t):qy s t:=by
 obtain⟨s1,s2⟩:=s
 obtain⟨t1,t2⟩:=t
 cases s2<;>cases t2<;>simp only[IF] at h<;>simp only[qy]
 ·simp
 ·refine⟨by simp, ?_,by simp⟩
  rintro b ⟨⟩;exact ij h
 ·refine⟨?_,by simp,by simp⟩
  rintro b ⟨⟩;exact ij h
 ·refine⟨?_, ?_, ?_⟩
  ·rintro b ⟨⟩;exact ij h.1
  ·rintro b ⟨⟩;exact ij h.2.1
  ·rintro b ⟨h1,h2⟩
   cases h1;cases h2;exact h.2.2.ne rfl
theorem oO {tr:Tr}:∀{ps:List (Nat×Nat)},vN tr ps→fc tr ps
 |[],_=>by intro p hp;cases hp
 |q::ps,h=>by
  intro p hp
  rcases List.mem_cons.1 hp with rfl|hp
  ·exact yR h.1
  ·exact oO h.2 p hp
noncomputable def wI (tr:Tr):Tr→(Tr→Prop)→Prop:=List.rec (motive:=fun _=>Tr→(Tr→Prop)→Prop) (fun acc K=>K acc) (fun x _ ih acc K=>ih (x::acc) K) tr
theorem xq:∀(tr acc:Tr) (K:Tr→Prop),wI tr acc K=K (tr.reverse++acc)
 |[],acc,K=>rfl
 |x::tr,acc,K=>by
  show wI tr (x::acc) K=_
  rw[xq tr];simp
theorem aj {tr:Tr} {ps:List (Nat×Nat)} (h:Go (wI tr [] fun t=>vN t ps)):Ask (fc tr.reverse ps):=⟨oO (by have h2:wI tr [] fun t=>vN t ps:=h;rw[xq,List.append_nil] at h2;exact h2)⟩
theorem C1 {fr:Fr} {H:Hp}:gK fr H []=some []:=rfl
theorem C2 {fr:Fr} {H:Hp} {t:Nat} {r:List iP} {q:List AV} (h:gK fr H r=some q):gK fr H (.tmp t::r)=some (cJ fr t::q):=by simp only[gK,h]
theorem zI {fr:Fr} {H:Hp} {t k b len i off sz:Nat} {ag:Bool} {e:TypeId} {d x:AV} {es q:List AV} {r:List iP} (h1:cJ fr t= .pt b len i off) (h2:bd H b=some (.row e sz d es)) (h3:es.length=len)
 (h4:tB ag k (es.getD i d) sz off=some x) (h5:gK fr H r=some q):gK fr H (.cell t ag k::r)=some (x::q):=by
 have:iA H (.pt b len i off)=some (sz,es.getD i d,off):=by simp only[iA,h2,h3];simp
 simp only[gK,h1,this,h4,h5]
end Go.cO
/- Questions that answer themselves: each is asked with the way in which it is answered. -/
namespace Go.cO
open Go.RowKit
theorem zq {l:List AV} {n k m:Nat} (hl:l.length=m) (h:(n+m) * k≤140737488355328):(n+l.length) * k≤fy:=by rw[hl];exact h
theorem I1 {H:Hp} {s b len:Nat} {e:TypeId} {d:AV} {es:List AV} {lo hi:Option AV} {l h:Nat} (h0:bd H b=some (.row e s d es)) (hl:es.length=len) (h1:iH 0 lo=some l) (h2:iH len hi=some h) (h3:l≤h∧h≤len):pA H s lo hi (.sl b len)=some (.sv b len l (h - l)):=by
 simp only[pA,h0,h1,h2];rw[if_pos ⟨hl,trivial,h3⟩]
theorem F0 {H:Hp} {b len sz:Nat} {e:TypeId} {d:AV} {es:List AV} (h:bd H b=some (.row e sz d es)) (h2:es.length=len∧0<len):om H (.sl b len)=some (some false):=by
 simp only[om,h];rw[if_pos h2]
theorem CR {H:Hp} {b:Nat}:om H (.sl b 0)=some none:=by
 simp only[om]
 split
 ·rw[if_neg (by omega)]
 ·rfl
theorem eT {α:Type} {l:List α} {i:Nat} {v d:α} (h:i<l.length):(l.set i v).getD i d=v:=by simp[List.getD,h]
theorem dX:(∀n:Nat,(n:Int).toNat=n)∧(∀(p:Prop) [Decidable p] (b:Bool),(if p then true else b)=(decide p||b))∧(∀(p:Prop) [Decidable p] (b:Bool),(if p then b else false)=(decide p&&b))∧(∀(p:Prop) [Decidable p] (b:Bool),(if p then false else b)=(!decide p&&b))∧(∀(p:Prop) [Decidable p] (b:Bool),(if p then b else true)=(!decide p||b))∧
 (∀b:Bool,decide (b=true)=b)∧(∀(p:Prop) [Decidable p],(decide p=true)=p)∧(∀(p:Prop) [Decidable p],(decide p=false)=¬p)∧(∀a b:Bool,((a&&b)=true)=(a=true∧b=true))∧(∀a b:Bool,((a||b)=true)=(a=true∨b=true))∧(∀b:Bool,((!b)=true)=(b=false))∧(∀b:Bool,((!b)=false)=(b=true))∧
 (∀a b:Bool,((a&&b)=false)=(a=false∨b=false))∧(∀a b:Bool,((a||b)=false)=(a=false∧b=false))∧(∀a b:Int,(¬a<b)=(b≤a))∧(∀a b:Int,(¬a≤b)=(b<a))∧(∀(p:Prop) [Decidable p],(¬¬p)=p):=by
 refine⟨by simp,fun p _ b=> ?_,fun p _ b=> ?_,fun p _ b=> ?_,fun p _ b=> ?_,by simp,by simp,by simp,by simp,by simp,by simp,by simp,by simp,by simp,fun a b=>propext Int.not_lt,fun a b=>propext Int.not_le,fun p _=>propext Decidable.not_not⟩
 all_goals by_cases h:p<;>simp[h]
theorem bf {p:Prop} (h:p:=by(repeat(first|exact cS _ _ _|assumption|refine yX (by first|omega|(simp only[List.length_cons,List.length_nil];omega)) ?_))<;>fail):p:=h
theorem cX {p:Prop} (h:p:=by first|omega|(simp only[List.length_cons,List.length_nil];omega)):p:=h
theorem sE {p:Prop} (h:p:=by intro _b _hb;repeat(first|exact rfl|(refine Eq.trans (cE (by first|omega|(simp only[List.length_cons,List.length_nil];omega))) ?_))):p:=h
theorem cM {p:Prop} (h:p:=by repeat' (first|exact True.intro|refine And.intro ?_ ?_|exact rfl|((conv=>lhs;whnf);(first|(simp<;>fail)|(simp;omega))))):p:=h
theorem LO {p:Prop} (h:p:=by first|exact rfl|(simp only[List.length_set,List.length_map,List.length_append,List.length_cons,List.length_nil,List.length_take,List.length_drop,List.length_replicate,Int.toNat_natCast]<;>fail)|(simp only[List.length_set,List.length_map,List.length_append,List.length_cons,List.length_nil,List.length_take,List.length_drop,List.length_replicate,Int.toNat_natCast];omega)):p:=h
theorem de {p:Prop} (h:p:=by first|exact rfl|omega|assumption|exact id|(intro h;exact h▸rfl)|(intro h;rw[h]<;>rfl)|(intros;exact rfl)|(intro h;(try simp only[List.length_map,ne_eq,dX] at h);omega)|(simp only[List.length_set,List.length_map,List.length_append,List.length_cons,List.length_nil,List.length_take,List.length_drop,List.length_replicate,Int.toNat_natCast];omega)|(intro _;constructor<;>first|exact rfl|exact Nat.le_of_ble_eq_true rfl|omega)):p:=h
theorem cx {p:Prop} (h:p:=by first|(intro h;simp_all<;>fail)|(refine zq (m:=1) rfl ?_;omega)|(show(_:Nat)≤140737488355328;first|omega|(simp only[List.length_set,List.length_map,List.length_append,List.length_cons,List.length_nil,List.length_take,List.length_drop,List.length_replicate,Int.toNat_natCast];omega))|(exact Nat.le_of_ble_eq_true rfl)|(constructor<;>first|exact rfl|exact Nat.le_of_ble_eq_true rfl|omega)|(simp_all<;>fail)):p:=h
theorem nK {p:Prop} (h:p:=by first|omega|(intro hg;simp only[Gd,List.length_map,ne_eq,dX] at hg;omega)|(intros;simp only[List.length_map,Int.toNat_natCast];omega)):p:=h
theorem cH {p:Prop} (h:p:=by first|assumption|(refine eT ?_;first|omega|(simp only[List.length_set,List.length_map,List.length_append,List.length_cons,List.length_nil,List.length_take,List.length_drop,List.length_replicate,Int.toNat_natCast];omega))|(refine dN _ _ _ _ ?_;first|omega|(simp only[List.length_map,Int.toNat_natCast];omega))|exact rfl):p:=h
theorem LP {p:Prop} (h:p:=by constructor<;>first|exact rfl|omega|(simp only[List.length_set,List.length_map,List.length_append,List.length_cons,List.length_nil,List.length_take,List.length_drop,List.length_replicate,Int.toNat_natCast];omega)):p:=h
theorem sK (d:Nat) (k:IntKind) (i:Nat):iH d (some (.sc (.int k (((i+1:Nat):Int) - 1))))=some i:=by
 simp only[iH];rw[if_pos (by omega)];congr 1;omega
theorem DW {p:Prop} (h:p:=by first|exact rfl|exact DZ _ _ _|exact sK _ _ _|((simp only[List.length_map,List.length_append,List.length_cons,List.length_nil,Nat.zero_add]);exact sK _ _ _)|(conv=>lhs;whnf);exact rfl):p:=h
theorem MB {p:Prop} (h:p:=by(try simp only[List.length_set,List.length_map,List.length_append,List.length_cons,List.length_nil,List.length_take,List.length_drop,List.length_replicate,Int.toNat_natCast]);omega):p:=h
theorem nh {p:Prop} (h:p:=by first|exact rfl|exact CR|exact F0 bf LP|exact I1 bf LO DW DW MB|exact I0 DW DW MB):p:=h
theorem HY {p:Prop} (h:p:=by(repeat(first|exact C1|(apply C2)|(apply zI;(·exact rfl);(·exact bf);(·exact rfl);(·exact rfl))))<;>fail):p:=h
theorem bo {p:Prop} (h:p:=by first|(simp[cK,bz,cA]<;>fail)):p:=h
end Go.cO
/- Rows told anew at a function's end: the general rule. -/
namespace Go.cO
open Go.RowKit
theorem Wk.tell {r r2:AV} {H H2:Hp} {nx nx2:Nat} (hn:nx≤nx2)
 (hrow:∀b e sz d es,bd H2 b=some (.row e sz d es)→(∃d0 es0,bd H b=some (.row e sz d0 es0)∧es0.length=es.length)∨(nx≤b∧b<nx2∧es=[]∧0<sz))
 (hval:∀(w0:World) (c c2:Cx),dB w0 c→(∀b,c.U b→b<nx)→c.H=bd H→c2.H=bd H2→c2.w=c.w→c.le c2→
  (∀b e sz d,nx≤b→bd H2 b=some (.row e sz d [])→c2.U b∧c2.ρ b=none)→
  (∀b k blk o z,bd H b=some k→bd H2 b=none→c.ρ b=some (blk,o,z)→¬c2.M blk)→
  cz c c2 r r2∧∀b e sz d es d0 es0,bd H2 b=some (.row e sz d es)→bd H b=some (.row e sz d0 es0)→ch c c2 es0 es):
 Wk r H nx r2 H2 nx2:=by
 intro w0 ρ U w M0 hU hS
 let ρ2:Nat→Option (Nat×Nat×Nat):=fun b=>if b<nx then ρ b else none
 let U2:Nat→Prop:=fun b=>U b∨(nx≤b∧b<nx2)
 have hR:nf ⟨ρ,bd H,U,w,M0⟩ ⟨ρ2,bd H2,U2,w,M0⟩:=by
  refine⟨rfl,rfl,fun b hb=> .inl hb,fun b hb=> ?_,fun b e sz d es he=> ?_⟩
  ·show(if b<nx then ρ b else none)=ρ b
   rw[if_pos (hU b hb)]
  ·rcases hrow b e sz d es he with⟨d0,es0,h2,h3⟩|⟨h1,h2,h3,h4⟩
   ·have hu:U b:=(hS.row b e sz d0 es0 h2).1
    exact⟨.inl hu, .inl ⟨d0,es0,h2,hu,h3⟩⟩
   ·refine⟨.inr ⟨h1,h2⟩, .inr ⟨h3,fun hu=> ?_, ?_,h4⟩⟩
    ·have:=hU b hu;omega
    ·show(if b<nx then ρ b else none)=none
     rw[if_neg (by omega)]
 have hle:=hR.le
 have hv:=hval w0 ⟨ρ,bd H,U,w,M0⟩ ⟨ρ2,bd H2,U2,w,M0⟩ hS hU rfl rfl rfl hle
  (fun b e sz d hb he=>by
   rcases hrow b e sz d [] he with⟨d0,es0,h2,_⟩|⟨h1,h2,_⟩
   ·have h1:b<nx:=hU b (hS.row b e sz d0 es0 h2).1
    omega
   ·refine⟨.inr ⟨h1,h2⟩, ?_⟩
    show(if b<nx then ρ b else none)=none
    rw[if_neg (by omega)])
  (fun b k blk o z hb hb2 hρ hm=>by
   have hlt:=hS.JN hb hρ
   rcases hm with h0|⟨x,k2,o2,z2,hx,hρ2⟩
   ·have:=hS.m0.lt blk h0
    simp only at hlt
    omega
   ·obtain⟨e,sz,d,es⟩:=k2
    have hρ2:(if x<nx then ρ x else none)=some (blk,o2,z2):=hρ2
    have hx:bd H2 x=some (.row e sz d es):=hx
    rcases hrow x e sz d es hx with⟨d0,es0,h2,_⟩|⟨h1,_⟩
    ·have h1:x<nx:=hU x (hS.row x e sz d0 es0 h2).1
     rw[if_pos h1] at hρ2
     have:=hS.inj b x _ _ blk o z o2 z2 hb h2 hρ hρ2
     subst this
     rw[hx] at hb2;cases hb2
    ·rw[if_neg (by omega)] at hρ2;cases hρ2)
 refine⟨ρ2,U2, ?_,hR.MP hS hv.2,hle,hv.1⟩
 rintro b (hb|⟨_,hb⟩)
 ·have:=hU b hb;omega
 ·exact hb
theorem Wk.refl (r:AV) (H:Hp) (nx:Nat):Wk r H nx r H nx:=by
 intro w0 ρ U w M0 hU hS
 exact⟨ρ,U,hU,hS,Cx.le.refl _,fun v hv=>hv⟩
theorem Wk.nil {H:Hp} {nx:Nat} (e:TypeId) (sz:Nat) (d:AV) (hsz:0<sz):Wk (.sc (.slice none 0 0)) H nx (.sl nx 0) ((nx,some (.row e sz d []))::H) (nx+1):=by
 refine Wk.tell (Nat.le_succ _) (fun b e' sz' d' es he=> ?_) (fun w0 c c2 hS hU hc hc2 hw hle hnew _=>⟨?_,fun b e' sz' d' es d0 es0 h1 h2=> ?_⟩)
 ·by_cases hb:b=nx
  ·subst hb
   rw[cS] at he
   cases he
   exact .inr ⟨Nat.le_refl _,Nat.lt_succ_self _,rfl,hsz⟩
  ·rw[cE hb] at he
   exact .inl ⟨d',es,he,rfl⟩
 ·have h:=hnew nx e sz d (Nat.le_refl _) (cS _ _ _)
  exact cz.nil (e:=e) (sz:=sz) (d:=d) h.1 (by rw[hc2,cS]) h.2
 ·by_cases hb:b=nx
  ·subst hb
   rw[cS] at h1
   cases h1
   have h3:c.H b=some (.row e sz d0 es0):=by rw[hc];exact h2
   exact absurd (hU _ (hS.row _ _ _ _ _ h3).1) (Nat.lt_irrefl _)
  ·rw[cE hb] at h1
   rw[h1] at h2
   cases h2
   exact ch.cD hle _
theorem cC.AW {P:Program} {f:FuncId} {args args2:List AV} {e:TypeId} {sz:Nat} {es:List AV} (h:cC P f args2 [] 0 (fun r1 H1 _=>∃b d0,r1= .sl b es.length∧bd H1 b=some (.row e sz d0 es))) (hfl:∀i,i<es.length→gE (es.getD i .any)) (d:AV) {H:Hp} {id:Nat} (ha:args.map (dK H 6)=args2) (hfa:cK 0 args2):
 lL P f args H id (fun r' H''=>r'= .sl id es.length∧H''=cm H (some (id, .row e sz d es))):=by
 refine⟨h.1,fun w0 c vs hS hH hid hv=> ?_⟩
 have hS0:dB c.w ⟨fun _=>none,bd [],fun _=>False,c.w,c.M0⟩:=⟨Below.refl _ _,hS.iV,fun b e sz d es he=>by simp[bd] at he,fun b b' k k' blk o z o' z' hk=>by simp[bd] at hk⟩
 subst ha
 have hv':cL ⟨fun _=>none,bd [],fun _=>False,c.w,c.M0⟩ (args.map (dK H 6)) vs:=kG hS hH hfa hv
 refine(h.2 c.w _ vs hS0 rfl (fun _ h=>h.elim) hv').mono ?_
 rintro en w' ⟨v,r1,H1,nx',ρ,U,he,⟨b,d0,rfl,hb⟩,hU,hS',_,hvr⟩
 rw[VR] at hvr
 obtain⟨_,ad,cap,hvv,hrr⟩:=hvr
 obtain⟨_,hr2⟩:=hrr _ _ _ _ hb
 have hr3:=hr2 rfl
 obtain⟨_,hz,hor⟩:=hS'.jZ b _ _ _ _ hb (rj hr3)
 have hbel:=hS'.below
 obtain⟨s1,s2⟩:=hS.world hbel
 have hHeq:bd (cm H (some (id, .row e sz d es)))=eN c.H id (some (.row e sz d es)):=by rw[dA,hH]
 rcases hor with⟨h0,hes⟩|⟨blk,o,z,hρ,hlow,⟨arr,harr,hsz⟩,hlz,hrow⟩
 ·subst hes
  obtain⟨p1,p2⟩:=s1.F5 (b:=id) (e:=e) (sz:=sz) d hz hid
  refine⟨v,_,_,eN c.ρ id none,he,⟨rfl,rfl⟩, ?_, ?_, ?_⟩
  ·rw[hHeq];exact p1
  ·rw[hHeq];exact s2.trans p2
  ·rw[hHeq,VR]
   refine⟨.inr rfl,ad,cap,hvv,fun e' sz' d' es' he'=> ?_⟩
   simp only[iL,cw,Option.some.injEq,dj.row.injEq] at he'
   obtain⟨rfl,rfl,rfl,rfl⟩:=he'
   refine⟨Nat.le_refl _,fun _=> .inl ⟨by simp[iL], ?_⟩⟩
   rcases hr3 with⟨_,h2,h3⟩|⟨blk,o,z,h2,_⟩
   ·exact⟨h2,h3⟩
   ·rw[h0] at h2;cases h2
 ·obtain⟨p1,p2⟩:=hS.ox (b:=id) (e:=e) (sz:=sz) d (es:=es) (w':=w') (blk:=blk) (o:=o) (z:=z) hz (.inl hid) (.inl hlow) hbel.os hbel.tape hbel.output hbel.size (fun k hk _=>hbel.block k hk) harr hsz hlz (fun hle i hi=>by
   obtain⟨x,x1,x2⟩:=dF hrow i hi
   refine⟨x,x1,lY ?_ x2⟩
   have:=hfl i hi
   simpa[List.getD,hi] using this)
  refine⟨v,_,_,eN c.ρ id (some (blk,o,z)),he,⟨rfl,rfl⟩, ?_, ?_, ?_⟩
  ·rw[hHeq];exact p1
  ·rw[hHeq];exact p2
  ·rw[hHeq,VR]
   refine⟨.inr rfl,ad,cap,hvv,fun e' sz' d' es' he'=> ?_⟩
   simp only[iL,cw,Option.some.injEq,dj.row.injEq] at he'
   obtain⟨rfl,rfl,rfl,rfl⟩:=he'
   refine⟨by omega,fun _=> .inr ⟨blk,o,z,by simp[iL], ?_⟩⟩
   rcases hr3 with⟨h2,_,_⟩|⟨blk',o',z',h2,h3,h4,h5,h6⟩
   ·rw[hρ] at h2;cases h2
   ·rw[hρ] at h2;cases h2
    exact⟨h3,h4,h5,h6⟩
theorem ak {P:Program} {f:FuncId} {args args2:List AV} {e:TypeId} {sz:Nat} {es:List AV} {H:Hp} {id:Nat} {K:AV→Option (Nat×dj)→List Nat→Prop} (S:List Nat) (d:AV)
 (h:cC P f args2 [] 0 (fun r1 H1 _=>∃b d0,r1= .sl b es.length∧bd H1 b=some (.row e sz d0 es))) (hfl:∀i,i<es.length→gE (es.getD i .any)) (ha:∀H1,(∀b∈S,bd H1 b=bd H b)→args.map (dK H1 6)=args2) (hfa:cK 0 args2)
 (hK:Go (K (.sl id es.length) (some (id, .row e sz d es)) S)):jT P id f args H K:=
 jT.fresh S (fun H1 h1=>h.AW hfl d (ha H1 h1) hfa) (fun b q hq=>by cases hq;rfl) hK
theorem oP {n:Nat}:∀{as:List AV},cK n as→∀a∈as,bz n a
 |[],_,a,h=>by cases h
 |b::as,hf,a,h=>by
  rw[cK] at hf
  rcases List.mem_cons.1 h with rfl|h
  ·exact hf.1
  ·exact oP hf.2 a h
theorem uG {f:AV→AV} {l:List AV} (h:∀a∈l,f a=a):l.map f=l:=by
 induction l with
 |nil=>rfl
 |cons a l ih=>rw[List.map_cons,h a (by simp),ih fun b hb=>h b (by simp[hb])]
theorem dS {H:Hp}:∀(k:Nat) {a:AV},bz 0 a→dK H k a=a
 |0,a,hf=>by cases a<;>simp only[dK]
 |k+1,a,hf=>by
  have ih:=fun {l:List AV} (hl:cK 0 l)=>uG (f:=dK H k) (fun a ha=>dS k (oP hl a ha))
  cases a<;>simp only[bz] at hf<;>simp only[dK]
  case sl=>omega
  case sv=>omega
  case pt=>omega
  case agg cs=>rw[ih hf]
  case dY cs=>rw[ih hf]
  case fn f p q=>rw[ih hf.1,ih hf.2]
  case je t x=>rw[dS k hf]
end Go.cO
end
