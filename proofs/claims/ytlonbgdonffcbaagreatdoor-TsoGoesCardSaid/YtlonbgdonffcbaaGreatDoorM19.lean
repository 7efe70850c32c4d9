import Derived.Test.YtlonbgdonffcbaaGreatDoorM18
import Derived.Test.YtlonbgdonffcbaaGreatDoorM10
section
/- The walk's own moves, each a step from one goal to the next. -/
namespace Go.cY
open Go.RowKit
theorem bV {H:Hp} {b:Nat} {K:TypeId→AV→List AV→Prop} {e:TypeId} {d:AV} {es:List AV} (h:bf H b=some (.row e 0 d (mapA es))) (k:Go (K e d es)):o6 H b K:=o6.of h k
structure Mv (q p:Prop):Prop where
 go:q→p
theorem Mv.AX {tr:Tr} {ps:List (Nat×Nat)}:Mv (Go (yZ tr [] fun t=>x6 t ps)) (Ask (gb tr.reverse ps)):=⟨aq⟩
theorem Mv.mS {P:Program} {n lo:Nat} {x:LC} {fr:Fr} {H:Hp} {nx:Nat} {Q:QT}:Mv (Go (W P n lo x fr H nx (jU (fun fr H nx=>ma P n lo x fr H nx Q) Q))) (ma P n lo x fr H nx Q):=⟨au⟩
theorem Mv.drawn {P:Program} {segs:List pq} {fr:Fr} {H:Hp} {nx:Nat} {Q:QT}:Mv (Go (WS P nx segs [] fr H fun ov H' nx'=>Q .normal (gJ ov fr) H' nx')) (gU P segs fr H nx Q):=⟨bC⟩
theorem Mv.qF {g:Option Bool} {n:Int} {K:Int→Prop} (h1:Gd g→-9223372036854775808≤n) (h2:Gd g→n<9223372036854775808):Mv (Go (K n)) (rU g .i64 n K):=⟨az h1 h2⟩
theorem Mv.qG {g:Option Bool} {n:Int} {K:Int→Prop} (h1:Gd g→0≤n) (h2:Gd g→n<256):Mv (Go (K n)) (rU g .u8 n K):=⟨bA h1 h2⟩
theorem Mv.xL {g:Option Bool} {k:IntKind} {n:Int} {K:Int→Prop}:Mv (Go (K (k.wrap n))) (rU g k n K):=⟨bM⟩
theorem Mv.row {H:Hp} {b:Nat} {K:TypeId→Nat→AV→List AV→Prop} {e:TypeId} {sz:Nat} {d:AV} {es:List AV} (h:bf H b=some (.row e sz d es)):Mv (Go (K e sz d es)) (fV H b K):=⟨bW h⟩
theorem Mv.map {H:Hp} {b:Nat} {K:TypeId→AV→List AV→Prop} {e:TypeId} {d:AV} {es:List AV} (h:bf H b=some (.row e 0 d (mapA es))):Mv (Go (K e d es)) (o6 H b K):=⟨bV h⟩
theorem Mv.oo {α:Type} {x:Option α} {K:α→Prop} {a:α} (h:x=some a):Mv (Go (K a)) (iW x K):=⟨bD h⟩
theorem Mv.res {u:AV} {r:AV} (hf:cB 0 u):Mv (r=u) (LY (fun x=>x=u) r):=⟨LY.eq hf⟩
theorem Mv.lt {t:Bool} {A B:Prop} (ht:t=true):Mv (Go A) (eW t A B):=⟨bU ht⟩
theorem Mv.lf {t:Bool} {A B:Prop} (ht:t=false):Mv (Go B) (eW t A B):=⟨bT ht⟩
theorem Mv.gt {t w:Bool} {A B J:Prop} (ht:t=w):Mv (Go A) (dj t w A B J):=⟨b8 ht⟩
theorem Mv.gf {t w:Bool} {A B J:Prop} (ht:t= !w):Mv (Go B) (dj t w A B J):=⟨b7 ht⟩
theorem Mv.join {t w:Bool} {A B J:Prop}:Mv (Go J) (dj t w A B J):=⟨bP⟩
theorem aG {p q:Prop} (hq:q) (h:Mv q p:=by first|with_reducible (first|apply Mv.AX|apply Mv.mS|apply Mv.drawn)|((with_reducible apply Mv.qF);(·exact pE);(·exact pE))|((with_reducible apply Mv.qG);(·exact pE);(·exact pE))|(with_reducible apply Mv.xL)|((with_reducible apply Mv.row);exact bo)|((with_reducible apply Mv.map);exact bo)|((with_reducible apply Mv.oo);exact py)|((with_reducible apply Mv.res);exact bn)):p:=h.go hq
theorem aC {p:Prop} (h:p:=by first|with_reducible (first|exact True.intro|exact ao)|((with_reducible refine PZ.mk ?_);(try dsimp only);omega)|((with_reducible refine Ask.mk ?_);first|exact P2|exact OJ)):p:=h
theorem aH {p q:Prop} (hq:q) (h:Mv q p:=by first|((with_reducible apply Mv.oo);exact L4)|(apply Mv.gt;exact rfl)|(apply Mv.gf;exact rfl)|(with_reducible apply Mv.join)|(apply Mv.lt;exact rfl)|(apply Mv.lf;exact rfl)):p:=h.go hq
section
variable {P:Program} {f:FuncId} {args:List AV} {H:Hp} {nx:Nat}
theorem aI {R:AV→Prop} (X:dG P f) (ha:Nat.ble args.length X.n=true) (h:Go (W P X.n 0 X.lc (ig 0 args) [] 0 (NH X.rs R))):Pure P f args R:=by
 obtain⟨fn,h1,h2,h3,h4,h5⟩:=X.ok
 exact bQ h1 h2 h3 h4 h5 ha h
theorem aO {R:AV→Hp→Nat→Prop} (X:dG P f) (ha:Nat.ble args.length X.n=true) (h:Go (W P X.n nx X.lc (ig 0 args) H nx (we X.rs R))):bz P f args H nx R:=by
 obtain⟨fn,h1,h2,h3,h4,h5⟩:=X.ok
 exact b6 h1 h2 h3 h4 h5 ha h
theorem aS {r:AV} (X:dG P f) (ha:Nat.ble args.length X.n=true) (h:Go (W P X.n nx X.lc (ig 0 args) H nx (we X.rs (fun r' H' _=>r'=r∧∀b,b<nx→bf H' b=bf H b)))):jB P f args H nx r:=aO X ha h
structure Mk (C q p:Prop):Prop where
 go:C→q→p
theorem Mk.cV {r:AV} {K:AV→Hp→Nat→Prop} (hf:cJ 0 args):Mk (Pure P f args (fun x=>x=r)) (Go (K r H nx)) (gB P f args H nx K):=⟨fun h hK=>aN h hf hK⟩
theorem Mk.cU {g:Bool} {r:AV} {K:AV→Prop} (hf:cJ 0 args):Mk (Pure P f args (fun x=>x=r)) (Go (K r)) (mY P g f args H nx K):=⟨fun h hK=>aM (fun _=>h) hf hK⟩
theorem Mk.cS {id:Nat} {r:AV} {K:AV→Option (Nat×eB)→List Nat→Prop} (hf:cJ 0 args):Mk (Pure P f args (fun x=>x=r)) (Go (K r none [])) (kP P id f args H K):=⟨fun h hK=>aJ h hf hK⟩
theorem Mk.cT {g:Bool} {id:Nat} {r:AV} {K:AV→List Nat→Prop} (hf:cJ 0 args):Mk (Pure P f args (fun x=>x=r)) (Go (K r [])) (sC P g id f args H K):=⟨fun h hK=>aL (fun _=>h) hf hK⟩
theorem Mk.lookW {r:AV} {K:AV→Hp→Nat→Prop} (hr:jK r):Mk (jB P f args H nx r) (Go (K r H nx)) (gB P f args H nx K):=⟨fun h hK=>aR h hr hK⟩
theorem Mk.dq {g:Bool} {r:AV} {K:AV→Prop} (hr:jK r):Mk (jB P f args H nx r) (Go (K r)) (mY P g f args H nx K):=⟨fun h hK=>aV (fun _=>h) hr hK⟩
end
theorem aK {C p q:Prop} (c:C) (hq:q) (h:Mk C q p:=by first|((with_reducible apply Mk.cV);exact bn)|((with_reducible apply Mk.cU);exact bn)|((with_reducible apply Mk.cS);exact bn)|((with_reducible apply Mk.cT);exact bn)|((with_reducible apply Mk.lookW);exact True.intro)|((with_reducible apply Mk.dq);exact True.intro)):p:=h.go c hq
end Go.cY
end
