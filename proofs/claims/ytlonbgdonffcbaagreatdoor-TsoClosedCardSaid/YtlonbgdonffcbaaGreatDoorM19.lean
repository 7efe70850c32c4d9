import Derived.Test.YtlonbgdonffcbaaGreatDoorM18
import Derived.Test.YtlonbgdonffcbaaGreatDoorM10
section
/- The walk's own moves, each a step from one goal to the next. -/
namespace Go.cW
open Go.RowKit
theorem bU {H:Hp} {b:Nat} {K:TypeId→AV→List AV→Prop} {e:TypeId} {d:AV} {es:List AV} (h:bd H b=some (.row e 0 d (mapA es))) (k:Go (K e d es)):oG H b K:=oG.of h k
structure Mv (q p:Prop):Prop where
 go:q→p
theorem Mv.zp {tr:Tr} {ps:List (Nat×Nat)}:Mv (Go (xu tr [] fun t=>xA t ps)) (Ask (gR tr.reverse ps)):=⟨ao⟩
theorem Mv.mC {P:Program} {n lo:Nat} {x:LC} {fr:Fr} {H:Hp} {nx:Nat} {Q:QT}:Mv (Go (W P n lo x fr H nx (jL (fun fr H nx=>mJ P n lo x fr H nx Q) Q))) (mJ P n lo x fr H nx Q):=⟨ar⟩
theorem Mv.drawn {P:Program} {segs:List o7} {fr:Fr} {H:Hp} {nx:Nat} {Q:QT}:Mv (Go (WS P nx segs [] fr H fun ov H' nx'=>Q .normal (gC ov fr) H' nx')) (fE P segs fr H nx Q):=⟨bB⟩
theorem Mv.pX {g:Option Bool} {n:Int} {K:Int→Prop} (h1:Gd g→-9223372036854775808≤n) (h2:Gd g→n<9223372036854775808):Mv (Go (K n)) (qu g .i64 n K):=⟨ay h1 h2⟩
theorem Mv.pY {g:Option Bool} {n:Int} {K:Int→Prop} (h1:Gd g→0≤n) (h2:Gd g→n<256):Mv (Go (K n)) (qu g .u8 n K):=⟨az h1 h2⟩
theorem Mv.wa {g:Option Bool} {k:IntKind} {n:Int} {K:Int→Prop}:Mv (Go (K (k.wrap n))) (qu g k n K):=⟨bL⟩
theorem Mv.row {H:Hp} {b:Nat} {K:TypeId→Nat→AV→List AV→Prop} {e:TypeId} {sz:Nat} {d:AV} {es:List AV} (h:bd H b=some (.row e sz d es)):Mv (Go (K e sz d es)) (fS H b K):=⟨bV h⟩
theorem Mv.map {H:Hp} {b:Nat} {K:TypeId→AV→List AV→Prop} {e:TypeId} {d:AV} {es:List AV} (h:bd H b=some (.row e 0 d (mapA es))):Mv (Go (K e d es)) (oG H b K):=⟨bU h⟩
theorem Mv.oR {α:Type} {x:Option α} {K:α→Prop} {a:α} (h:x=some a):Mv (Go (K a)) (iJ x K):=⟨bC h⟩
theorem Mv.res {u:AV} {r:AV} (hf:cC 0 u):Mv (r=u) (KT (fun x=>x=u) r):=⟨KT.eq hf⟩
theorem Mv.lt {t:Bool} {A B:Prop} (ht:t=true):Mv (Go A) (eT t A B):=⟨bT ht⟩
theorem Mv.lf {t:Bool} {A B:Prop} (ht:t=false):Mv (Go B) (eT t A B):=⟨bS ht⟩
theorem Mv.gt {t w:Bool} {A B J:Prop} (ht:t=w):Mv (Go A) (dh t w A B J):=⟨b7 ht⟩
theorem Mv.gf {t w:Bool} {A B J:Prop} (ht:t= !w):Mv (Go B) (dh t w A B J):=⟨b6 ht⟩
theorem Mv.join {t w:Bool} {A B J:Prop}:Mv (Go J) (dh t w A B J):=⟨bO⟩
theorem aG {p q:Prop} (hq:q) (h:Mv q p:=by first|with_reducible (first|apply Mv.zp|apply Mv.mC|apply Mv.drawn)|((with_reducible apply Mv.pX);(·exact o8);(·exact o8))|((with_reducible apply Mv.pY);(·exact o8);(·exact o8))|(with_reducible apply Mv.wa)|((with_reducible apply Mv.row);exact bo)|((with_reducible apply Mv.map);exact bo)|((with_reducible apply Mv.oR);exact pR)|((with_reducible apply Mv.res);exact bj)):p:=h.go hq
theorem aC {p:Prop} (h:p:=by first|with_reducible (first|exact True.intro|exact ak)|((with_reducible refine OV.mk ?_);(try dsimp only);omega)|((with_reducible refine Ask.mk ?_);first|exact OY|exact NK)):p:=h
theorem aH {p q:Prop} (hq:q) (h:Mv q p:=by first|((with_reducible apply Mv.oR);exact KX)|(apply Mv.gt;exact rfl)|(apply Mv.gf;exact rfl)|(with_reducible apply Mv.join)|(apply Mv.lt;exact rfl)|(apply Mv.lf;exact rfl)):p:=h.go hq
section
variable {P:Program} {f:FuncId} {args:List AV} {H:Hp} {nx:Nat}
theorem aI {R:AV→Prop} (X:dB P f) (ha:Nat.ble args.length X.n=true) (h:Go (W P X.n 0 X.lc (iQ 0 args) [] 0 (MG X.rs R))):Pure P f args R:=by
 obtain⟨fn,h1,h2,h3,h4,h5⟩:=X.ok
 exact bP h1 h2 h3 h4 h5 ha h
theorem aO {R:AV→Hp→Nat→Prop} (X:dB P f) (ha:Nat.ble args.length X.n=true) (h:Go (W P X.n nx X.lc (iQ 0 args) H nx (wL X.rs R))):bw P f args H nx R:=by
 obtain⟨fn,h1,h2,h3,h4,h5⟩:=X.ok
 exact b5 h1 h2 h3 h4 h5 ha h
theorem aS {r:AV} (X:dB P f) (ha:Nat.ble args.length X.n=true) (h:Go (W P X.n nx X.lc (iQ 0 args) H nx (wL X.rs (fun r' H' _=>r'=r∧∀b,b<nx→bd H' b=bd H b)))):ij P f args H nx r:=aO X ha h
structure Mk (C q p:Prop):Prop where
 go:C→q→p
theorem Mk.cU {r:AV} {K:AV→Hp→Nat→Prop} (hf:cG 0 args):Mk (Pure P f args (fun x=>x=r)) (Go (K r H nx)) (ft P f args H nx K):=⟨fun h hK=>aN h hf hK⟩
theorem Mk.cT {g:Bool} {r:AV} {K:AV→Prop} (hf:cG 0 args):Mk (Pure P f args (fun x=>x=r)) (Go (K r)) (mH P g f args H nx K):=⟨fun h hK=>aM (fun _=>h) hf hK⟩
theorem Mk.cR {id:Nat} {r:AV} {K:AV→Option (Nat×du)→List Nat→Prop} (hf:cG 0 args):Mk (Pure P f args (fun x=>x=r)) (Go (K r none [])) (kH P id f args H K):=⟨fun h hK=>aJ h hf hK⟩
theorem Mk.cS {g:Bool} {id:Nat} {r:AV} {K:AV→List Nat→Prop} (hf:cG 0 args):Mk (Pure P f args (fun x=>x=r)) (Go (K r [])) (rO P g id f args H K):=⟨fun h hK=>aL (fun _=>h) hf hK⟩
theorem Mk.lookW {r:AV} {K:AV→Hp→Nat→Prop} (hr:jA r):Mk (ij P f args H nx r) (Go (K r H nx)) (ft P f args H nx K):=⟨fun h hK=>aQ h hr hK⟩
theorem Mk.di {g:Bool} {r:AV} {K:AV→Prop} (hr:jA r):Mk (ij P f args H nx r) (Go (K r)) (mH P g f args H nx K):=⟨fun h hK=>aV (fun _=>h) hr hK⟩
end
theorem aK {C p q:Prop} (c:C) (hq:q) (h:Mk C q p:=by first|((with_reducible apply Mk.cU);exact bj)|((with_reducible apply Mk.cT);exact bj)|((with_reducible apply Mk.cR);exact bj)|((with_reducible apply Mk.cS);exact bj)|((with_reducible apply Mk.lookW);exact True.intro)|((with_reducible apply Mk.di);exact True.intro)):p:=h.go c hq
end Go.cW
end
