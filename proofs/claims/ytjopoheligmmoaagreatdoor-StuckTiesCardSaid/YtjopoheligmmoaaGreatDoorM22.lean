import Derived.Test.YtjopoheligmmoaaGreatDoorM19
import Derived.Test.YtjopoheligmmoaaGreatDoorM10
section
/- The walk's own moves, each a step from one goal to the next. -/
namespace Go.cY
open Go.RowKit
theorem bY {H:Hp} {b:Nat} {K:TypeId→AV→List AV→Prop} {e:TypeId} {d:AV} {es:List AV} (h:bt H b=some (.row e 0 d (mapA es))) (k:Go (K e d es)):qO H b K:=qO.of h k
structure Mv (q p:Prop):Prop where
 go:q→p
theorem Mv.HX {tr:Tr} {ps:List (Nat×Nat)}:Mv (Go (C9 tr [] fun t=>BP t ps)) (Ask (hX tr.reverse ps)):=⟨ar⟩
theorem Mv.oB {P:Program} {n lo:Nat} {x:LC} {fr:Fr} {H:Hp} {nx:Nat} {Q:QT}:Mv (Go (W P n lo x fr H nx (gv (fun fr H nx=>oH P n lo x fr H nx Q) Q))) (oH P n lo x fr H nx Q):=⟨ax⟩
theorem Mv.drawn {P:Program} {segs:List rN} {fr:Fr} {H:Hp} {nx:Nat} {Q:QT}:Mv (Go (WS P nx segs [] fr H fun ov H' nx'=>Q .normal (gh ov fr) H' nx')) (gx P segs fr H nx Q):=⟨bF⟩
theorem Mv.rX {g:Option Bool} {n:Int} {K:Int→Prop} (h1:Gd g→-9223372036854775808≤n) (h2:Gd g→n<9223372036854775808):Mv (Go (K n)) (tL g .i64 n K):=⟨bD h1 h2⟩
theorem Mv.rY {g:Option Bool} {n:Int} {K:Int→Prop} (h1:Gd g→0≤n) (h2:Gd g→n<256):Mv (Go (K n)) (tL g .u8 n K):=⟨bE h1 h2⟩
theorem Mv.A0 {g:Option Bool} {k:IntKind} {n:Int} {K:Int→Prop}:Mv (Go (K (k.wrap n))) (tL g k n K):=⟨bQ⟩
theorem Mv.row {H:Hp} {b:Nat} {K:TypeId→Nat→AV→List AV→Prop} {e:TypeId} {sz:Nat} {d:AV} {es:List AV} (h:bt H b=some (.row e sz d es)):Mv (Go (K e sz d es)) (fx H b K):=⟨bZ h⟩
theorem Mv.map {H:Hp} {b:Nat} {K:TypeId→AV→List AV→Prop} {e:TypeId} {d:AV} {es:List AV} (h:bt H b=some (.row e 0 d (mapA es))):Mv (Go (K e d es)) (qO H b K):=⟨bY h⟩
theorem Mv.nL {α:Type} {x:Option α} {K:α→Prop} {a:α} (h:x=some a):Mv (Go (K a)) (jC x K):=⟨aW h⟩
theorem Mv.res {u:AV} {r:AV} (hf:cK 0 u):Mv (r=u) (QB (fun x=>x=u) r):=⟨QB.eq hf⟩
theorem Mv.lt {t:Bool} {A B:Prop} (ht:t=true):Mv (Go A) (fI t A B):=⟨bX ht⟩
theorem Mv.lf {t:Bool} {A B:Prop} (ht:t=false):Mv (Go B) (fI t A B):=⟨bW ht⟩
theorem Mv.gt {t w:Bool} {A B J:Prop} (ht:t=w):Mv (Go A) (eQ t w A B J):=⟨bj ht⟩
theorem Mv.gf {t w:Bool} {A B J:Prop} (ht:t= !w):Mv (Go B) (eQ t w A B J):=⟨bh ht⟩
theorem Mv.join {t w:Bool} {A B J:Prop}:Mv (Go J) (eQ t w A B J):=⟨bT⟩
theorem aG {p q:Prop} (hq:q) (h:Mv q p:=by first|with_reducible (first|apply Mv.HX|apply Mv.oB|apply Mv.drawn)|((with_reducible apply Mv.rX);(·exact ql);(·exact ql))|((with_reducible apply Mv.rY);(·exact ql);(·exact ql))|(with_reducible apply Mv.A0)|((with_reducible apply Mv.row);exact bx)|((with_reducible apply Mv.map);exact bx)|((with_reducible apply Mv.nL);exact rO)|((with_reducible apply Mv.res);exact cF)):p:=h.go hq
theorem aC {p:Prop} (h:p:=by first|with_reducible (first|exact True.intro|exact af)|((with_reducible refine YY.mk ?_);(try dsimp only);omega)|((with_reducible refine Ask.mk ?_);first|exact dw|exact dE)):p:=h
theorem gF {p:Prop} (h:p:=by first|with_reducible (first|exact True.intro|exact af)|((with_reducible refine YY.mk ?_);(try dsimp only);omega)|((with_reducible refine Ask.mk ?_);exact dw)):p:=h
theorem aH {p q:Prop} (hq:q) (h:Mv q p:=by first|((with_reducible apply Mv.nL);exact UY)|(apply Mv.gt;exact rfl)|(apply Mv.gf;exact rfl)|(with_reducible apply Mv.join)|(apply Mv.lt;exact rfl)|(apply Mv.lf;exact rfl)):p:=h.go hq
section
variable {P:Program} {f:FuncId} {args:List AV} {H:Hp} {nx:Nat}
theorem aI {R:AV→Prop} (X:cu P f) (ha:Nat.ble args.length X.n=true) (h:Go (W P X.n 0 X.lc (iK 0 args) [] 0 (V7 X.rs R))):Pure P f args R:=by
 obtain⟨fn,h1,h2,h3,h4,h5⟩:=X.ok
 exact bU h1 h2 h3 h4 h5 ha h
theorem aL {R:AV→Hp→Nat→Prop} (X:cu P f) (ha:Nat.ble args.length X.n=true) (h:Go (W P X.n nx X.lc (iK 0 args) H nx (sq X.rs R))):cJ P f args H nx R:=by
 obtain⟨fn,h1,h2,h3,h4,h5⟩:=X.ok
 exact bg h1 h2 h3 h4 h5 ha h
theorem aa {r:AV} (X:cu P f) (ha:Nat.ble args.length X.n=true) (h:Go (W P X.n nx X.lc (iK 0 args) H nx (sq X.rs (fun r' H' _=>r'=r∧∀b,b<nx→bt H' b=bt H b)))):vR P f args H nx r:=aL X ha h
structure Mk (C q p:Prop):Prop where
 go:C→q→p
theorem Mk.dI {r:AV} {K:AV→Hp→Nat→Prop} (hf:cZ 0 args):Mk (Pure P f args (fun x=>x=r)) (Go (K r H nx)) (iF P f args H nx K):=⟨fun h hK=>aQ h hf hK⟩
theorem Mk.dH {g:Bool} {r:AV} {K:AV→Prop} (hf:cZ 0 args):Mk (Pure P f args (fun x=>x=r)) (Go (K r)) (nF P g f args H nx K):=⟨fun h hK=>aP (fun _=>h) hf hK⟩
theorem Mk.dF {id:Nat} {r:AV} {K:AV→Option (Nat×eT)→List Nat→Prop} (hf:cZ 0 args):Mk (Pure P f args (fun x=>x=r)) (Go (K r none [])) (lM P id f args H K):=⟨fun h hK=>aN h hf hK⟩
theorem Mk.dG {g:Bool} {id:Nat} {r:AV} {K:AV→List Nat→Prop} (hf:cZ 0 args):Mk (Pure P f args (fun x=>x=r)) (Go (K r [])) (tm P g id f args H K):=⟨fun h hK=>aO (fun _=>h) hf hK⟩
theorem Mk.lookW {r:AV} {K:AV→Hp→Nat→Prop} (hr:gA r):Mk (vR P f args H nx r) (Go (K r H nx)) (iF P f args H nx K):=⟨fun h hK=>aY h hr hK⟩
theorem Mk.fN {g:Bool} {r:AV} {K:AV→Prop} (hr:gA r):Mk (vR P f args H nx r) (Go (K r)) (nF P g f args H nx K):=⟨fun h hK=>aX (fun _=>h) hr hK⟩
end
theorem aK {C p q:Prop} (c:C) (hq:q) (h:Mk C q p:=by first|((with_reducible apply Mk.dI);exact cF)|((with_reducible apply Mk.dH);exact cF)|((with_reducible apply Mk.dF);exact cF)|((with_reducible apply Mk.dG);exact cF)|((with_reducible apply Mk.lookW);exact True.intro)|((with_reducible apply Mk.fN);exact True.intro)):p:=h.go c hq
end Go.cY
end
