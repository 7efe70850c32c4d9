import Derived.Test.YtekfmjjmihomlaaGreatM18
import Derived.Test.YtekfmjjmihomlaaGreatM10
section
/- The walk's own moves, each a step from one goal to the next. -/
namespace Go.cV
open Go.RowKit
theorem bS {H:Hp} {b:Nat} {K:TypeId→AV→List AV→Prop} {e:TypeId} {d:AV} {es:List AV} (h:bd H b=some (.row e 0 d (mapA es))) (k:Go (K e d es)):oj H b K:=oj.of h k
structure Mv (q p:Prop):Prop where
 go:q→p
theorem Mv.BZ {tr:Tr} {ps:List (Nat×Nat)}:Mv (Go (zJ tr [] fun t=>yI t ps)) (Ask (iC tr.reverse ps)):=⟨ao⟩
theorem Mv.mq {P:Program} {n lo:Nat} {x:LC} {fr:Fr} {H:Hp} {nx:Nat} {Q:QT}:Mv (Go (W P n lo x fr H nx (jQ (fun fr H nx=>nH P n lo x fr H nx Q) Q))) (nH P n lo x fr H nx Q):=⟨ar⟩
theorem Mv.drawn {P:Program} {segs:List pK} {fr:Fr} {H:Hp} {nx:Nat} {Q:QT}:Mv (Go (WS P nx segs [] fr H fun ov H' nx'=>Q .normal (gh ov fr) H' nx')) (fY P segs fr H nx Q):=⟨bB⟩
theorem Mv.qC {g:Option Bool} {n:Int} {K:Int→Prop} (h1:Gd g→-9223372036854775808≤n) (h2:Gd g→n<9223372036854775808):Mv (Go (K n)) (rV g .i64 n K):=⟨az h1 h2⟩
theorem Mv.qD {g:Option Bool} {n:Int} {K:Int→Prop} (h1:Gd g→0≤n) (h2:Gd g→n<256):Mv (Go (K n)) (rV g .u8 n K):=⟨bA h1 h2⟩
theorem Mv.xo {g:Option Bool} {k:IntKind} {n:Int} {K:Int→Prop}:Mv (Go (K (k.wrap n))) (rV g k n K):=⟨bK⟩
theorem Mv.row {H:Hp} {b:Nat} {K:TypeId→Nat→AV→List AV→Prop} {e:TypeId} {sz:Nat} {d:AV} {es:List AV} (h:bd H b=some (.row e sz d es)):Mv (Go (K e sz d es)) (gH H b K):=⟨bT h⟩
theorem Mv.map {H:Hp} {b:Nat} {K:TypeId→AV→List AV→Prop} {e:TypeId} {d:AV} {es:List AV} (h:bd H b=some (.row e 0 d (mapA es))):Mv (Go (K e d es)) (oj H b K):=⟨bS h⟩
theorem Mv.nX {α:Type} {x:Option α} {K:α→Prop} {a:α} (h:x=some a):Mv (Go (K a)) (jU x K):=⟨a8 h⟩
theorem Mv.res {u:AV} {r:AV} (hf:bw 0 u):Mv (r=u) (MU (fun x=>x=u) r):=⟨MU.eq hf⟩
theorem Mv.lt {t:Bool} {A B:Prop} (ht:t=true):Mv (Go A) (fE t A B):=⟨bR ht⟩
theorem Mv.lf {t:Bool} {A B:Prop} (ht:t=false):Mv (Go B) (fE t A B):=⟨bQ ht⟩
theorem Mv.gt {t w:Bool} {A B J:Prop} (ht:t=w):Mv (Go A) (eH t w A B J):=⟨b6 ht⟩
theorem Mv.gf {t w:Bool} {A B J:Prop} (ht:t= !w):Mv (Go B) (eH t w A B J):=⟨bZ ht⟩
theorem Mv.join {t w:Bool} {A B J:Prop}:Mv (Go J) (eH t w A B J):=⟨bN⟩
theorem aG {p q:Prop} (hq:q) (h:Mv q p:=by first|with_reducible (first|apply Mv.BZ|apply Mv.mq|apply Mv.drawn)|((with_reducible apply Mv.qC);(·exact pL);(·exact pL))|((with_reducible apply Mv.qD);(·exact pL);(·exact pL))|(with_reducible apply Mv.xo)|((with_reducible apply Mv.row);exact bf)|((with_reducible apply Mv.map);exact bf)|((with_reducible apply Mv.nX);exact po)|((with_reducible apply Mv.res);exact bq)):p:=h.go hq
theorem aC {p:Prop} (h:p:=by first|with_reducible (first|exact True.intro|exact aZ)|((with_reducible refine P2.mk ?_);(try dsimp only);omega)|((with_reducible refine Ask.mk ?_);first|exact cw|exact cT)):p:=h
theorem eO {p:Prop} (h:p:=by first|with_reducible (first|exact True.intro|exact aZ)|((with_reducible refine P2.mk ?_);(try dsimp only);omega)|((with_reducible refine Ask.mk ?_);exact cw)):p:=h
theorem aH {p q:Prop} (hq:q) (h:Mv q p:=by first|((with_reducible apply Mv.nX);exact MZ)|(apply Mv.gt;exact rfl)|(apply Mv.gf;exact rfl)|(with_reducible apply Mv.join)|(apply Mv.lt;exact rfl)|(apply Mv.lf;exact rfl)):p:=h.go hq
section
variable {P:Program} {f:FuncId} {args:List AV} {H:Hp} {nx:Nat}
theorem aI {R:AV→Prop} (X:dK P f) (ha:Nat.ble args.length X.n=true) (h:Go (W P X.n 0 X.lc (jY 0 args) [] 0 (NX X.rs R))):Pure P f args R:=by
 obtain⟨fn,h1,h2,h3,h4,h5⟩:=X.ok
 exact bO h1 h2 h3 h4 h5 ha h
theorem aQ {R:AV→Hp→Nat→Prop} (X:dK P f) (ha:Nat.ble args.length X.n=true) (h:Go (W P X.n nx X.lc (jY 0 args) H nx (A7 X.rs R))):cJ P f args H nx R:=by
 obtain⟨fn,h1,h2,h3,h4,h5⟩:=X.ok
 exact bY h1 h2 h3 h4 h5 ha h
theorem aY {r:AV} (X:dK P f) (ha:Nat.ble args.length X.n=true) (h:Go (W P X.n nx X.lc (jY 0 args) H nx (A7 X.rs (fun r' H' _=>r'=r∧∀b,b<nx→bd H' b=bd H b)))):tQ P f args H nx r:=aQ X ha h
structure Mk (C q p:Prop):Prop where
 go:C→q→p
theorem Mk.cj {r:AV} {K:AV→Hp→Nat→Prop} (hf:cP 0 args):Mk (Pure P f args (fun x=>x=r)) (Go (K r H nx)) (gQ P f args H nx K):=⟨fun h hK=>aO h hf hK⟩
theorem Mk.ca {g:Bool} {r:AV} {K:AV→Prop} (hf:cP 0 args):Mk (Pure P f args (fun x=>x=r)) (Go (K r)) (nF P g f args H nx K):=⟨fun h hK=>aJ (fun _=>h) hf hK⟩
theorem Mk.cg {id:Nat} {r:AV} {K:AV→Option (Nat×eT)→List Nat→Prop} (hf:cP 0 args):Mk (Pure P f args (fun x=>x=r)) (Go (K r none [])) (jT P id f args H K):=⟨fun h hK=>aM h hf hK⟩
theorem Mk.ch {g:Bool} {id:Nat} {r:AV} {K:AV→List Nat→Prop} (hf:cP 0 args):Mk (Pure P f args (fun x=>x=r)) (Go (K r [])) (sA P g id f args H K):=⟨fun h hK=>aN (fun _=>h) hf hK⟩
theorem Mk.lookW {r:AV} {K:AV→Hp→Nat→Prop} (hr:gp r):Mk (tQ P f args H nx r) (Go (K r H nx)) (gQ P f args H nx K):=⟨fun h hK=>aX h hr hK⟩
theorem Mk.fF {g:Bool} {r:AV} {K:AV→Prop} (hr:gp r):Mk (tQ P f args H nx r) (Go (K r)) (nF P g f args H nx K):=⟨fun h hK=>aW (fun _=>h) hr hK⟩
end
theorem aK {C p q:Prop} (c:C) (hq:q) (h:Mk C q p:=by first|((with_reducible apply Mk.cj);exact bq)|((with_reducible apply Mk.ca);exact bq)|((with_reducible apply Mk.cg);exact bq)|((with_reducible apply Mk.ch);exact bq)|((with_reducible apply Mk.lookW);exact True.intro)|((with_reducible apply Mk.fF);exact True.intro)):p:=h.go c hq
end Go.cV
end
