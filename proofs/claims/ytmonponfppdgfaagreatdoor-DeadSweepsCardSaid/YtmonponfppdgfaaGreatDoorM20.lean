import Derived.Test.YtmonponfppdgfaaGreatDoorM17
import Derived.Test.YtmonponfppdgfaaGreatDoorM9
section
/- The walk's own moves, each a step from one goal to the next. -/
namespace Go.ch
open Go.RowKit
theorem bG {H:Hp} {b:Nat} {K:TypeId→AV→List AV→Prop} {e:TypeId} {d:AV} {es:List AV} (h:bj H b=some (.row e 0 d (mapA es))) (k:Go (K e d es)):pI H b K:=pI.of h k
structure Mv (q p:Prop):Prop where
 go:q→p
theorem Mv.zA {tr:Tr} {ps:List (Nat×Nat)}:Mv (Go (yU tr [] fun t=>x6 t ps)) (Ask (iM tr.reverse ps)):=⟨aa⟩
theorem Mv.pF {P:Program} {n lo:Nat} {x:LC} {fr:Fr} {H:Hp} {nx:Nat} {Q:QT}:Mv (Go (W P n lo x fr H nx (j9 (fun fr H nx=>n7 P n lo x fr H nx Q) Q))) (n7 P n lo x fr H nx Q):=⟨af⟩
theorem Mv.drawn {P:Program} {segs:List tu} {fr:Fr} {H:Hp} {nx:Nat} {Q:QT}:Mv (Go (WS P nx segs [] fr H fun ov H' nx'=>Q .normal (hO ov fr) H' nx')) (kg P segs fr H nx Q):=⟨aj⟩
theorem Mv.sj {g:Option Bool} {n:Int} {K:Int→Prop} (h1:Gd g→-9223372036854775808≤n) (h2:Gd g→n<9223372036854775808):Mv (Go (K n)) (sG g .i64 n K):=⟨ah h1 h2⟩
theorem Mv.sk {g:Option Bool} {n:Int} {K:Int→Prop} (h1:Gd g→0≤n) (h2:Gd g→n<256):Mv (Go (K n)) (sG g .u8 n K):=⟨ai h1 h2⟩
theorem Mv.z6 {g:Option Bool} {k:IntKind} {n:Int} {K:Int→Prop}:Mv (Go (K (k.wrap n))) (sG g k n K):=⟨ar⟩
theorem Mv.row {H:Hp} {b:Nat} {K:TypeId→Nat→AV→List AV→Prop} {e:TypeId} {sz:Nat} {d:AV} {es:List AV} (h:bj H b=some (.row e sz d es)):Mv (Go (K e sz d es)) (iC H b K):=⟨bH h⟩
theorem Mv.map {H:Hp} {b:Nat} {K:TypeId→AV→List AV→Prop} {e:TypeId} {d:AV} {es:List AV} (h:bj H b=some (.row e 0 d (mapA es))):Mv (Go (K e d es)) (pI H b K):=⟨bG h⟩
theorem Mv.mi {α:Type} {x:Option α} {K:α→Prop} {a:α} (h:x=some a):Mv (Go (K a)) (jf x K):=⟨aW h⟩
theorem Mv.res {u:AV} {r:AV} (hf:cG 0 u):Mv (r=u) (xI (fun x=>x=u) r):=⟨xI.eq hf⟩
theorem Mv.lt {t:Bool} {A B:Prop} (ht:t=true):Mv (Go A) (fU t A B):=⟨bF ht⟩
theorem Mv.lf {t:Bool} {A B:Prop} (ht:t=false):Mv (Go B) (fU t A B):=⟨bE ht⟩
theorem Mv.gt {t w:Bool} {A B J:Prop} (ht:t=w):Mv (Go A) (da t w A B J):=⟨bN ht⟩
theorem Mv.gf {t w:Bool} {A B J:Prop} (ht:t= !w):Mv (Go B) (da t w A B J):=⟨bM ht⟩
theorem Mv.join {t w:Bool} {A B J:Prop}:Mv (Go J) (da t w A B J):=⟨ay⟩
theorem aG {p q:Prop} (hq:q) (h:Mv q p:=by first|with_reducible (first|apply Mv.zA|apply Mv.pF|apply Mv.drawn)|((with_reducible apply Mv.sj);(·exact ux);(·exact ux))|((with_reducible apply Mv.sk);(·exact ux);(·exact ux))|(with_reducible apply Mv.z6)|((with_reducible apply Mv.row);exact bk)|((with_reducible apply Mv.map);exact bk)|((with_reducible apply Mv.mi);exact xP)|((with_reducible apply Mv.res);exact cO)):p:=h.go hq
theorem aC {p:Prop} (h:p:=by first|with_reducible (first|exact True.intro|exact aX)|((with_reducible refine L6.mk ?_);(try dsimp only);omega)|((with_reducible refine Ask.mk ?_);first|exact bw|exact br)):p:=h
theorem cN {p:Prop} (h:p:=by first|with_reducible (first|exact True.intro|exact aX)|((with_reducible refine L6.mk ?_);(try dsimp only);omega)|((with_reducible refine Ask.mk ?_);exact bw)):p:=h
theorem aH {p q:Prop} (hq:q) (h:Mv q p:=by first|((with_reducible apply Mv.mi);exact KX)|(apply Mv.gt;exact rfl)|(apply Mv.gf;exact rfl)|(with_reducible apply Mv.join)|(apply Mv.lt;exact rfl)|(apply Mv.lf;exact rfl)):p:=h.go hq
section
variable {P:Program} {f:FuncId} {args:List AV} {H:Hp} {nx:Nat}
theorem aJ {R:AV→Prop} (X:dw P f) (ha:Nat.ble args.length X.n=true) (h:Go (W P X.n 0 X.lc (jr 0 args) [] 0 (J7 X.rs R))):Pure P f args R:=by
 obtain⟨fn,h1,h2,h3,h4,h5⟩:=X.ok
 exact az h1 h2 h3 h4 h5 ha h
theorem aL {R:AV→Hp→Nat→Prop} (X:dw P f) (ha:Nat.ble args.length X.n=true) (h:Go (W P X.n nx X.lc (jr 0 args) H nx (zI X.rs R))):cM P f args H nx R:=by
 obtain⟨fn,h1,h2,h3,h4,h5⟩:=X.ok
 exact bL h1 h2 h3 h4 h5 ha h
theorem aU {r:AV} (X:dw P f) (ha:Nat.ble args.length X.n=true) (h:Go (W P X.n nx X.lc (jr 0 args) H nx (zI X.rs (fun r' H' _=>r'=r∧∀b,b<nx→bj H' b=bj H b)))):kB P f args H nx r:=aL X ha h
structure Mk (C q p:Prop):Prop where
 go:C→q→p
theorem Mk.dj {r:AV} {K:AV→Hp→Nat→Prop} (hf:cL 0 args):Mk (Pure P f args (fun x=>x=r)) (Go (K r H nx)) (jF P f args H nx K):=⟨fun h hK=>aQ h hf hK⟩
theorem Mk.dU {g:Bool} {r:AV} {K:AV→Prop} (hf:cL 0 args):Mk (Pure P f args (fun x=>x=r)) (Go (K r)) (n0 P g f args H nx K):=⟨fun h hK=>aM (fun _=>h) hf hK⟩
theorem Mk.df {id:Nat} {r:AV} {K:AV→Option (Nat×eP)→List Nat→Prop} (hf:cL 0 args):Mk (Pure P f args (fun x=>x=r)) (Go (K r none [])) (lK P id f args H K):=⟨fun h hK=>aO h hf hK⟩
theorem Mk.dh {g:Bool} {id:Nat} {r:AV} {K:AV→List Nat→Prop} (hf:cL 0 args):Mk (Pure P f args (fun x=>x=r)) (Go (K r [])) (qS P g id f args H K):=⟨fun h hK=>aP (fun _=>h) hf hK⟩
theorem Mk.lookW {r:AV} {K:AV→Hp→Nat→Prop} (hr:gZ r):Mk (kB P f args H nx r) (Go (K r H nx)) (jF P f args H nx K):=⟨fun h hK=>aT h hr hK⟩
theorem Mk.fH {g:Bool} {r:AV} {K:AV→Prop} (hr:gZ r):Mk (kB P f args H nx r) (Go (K r)) (n0 P g f args H nx K):=⟨fun h hK=>aS (fun _=>h) hr hK⟩
end
theorem aK {C p q:Prop} (c:C) (hq:q) (h:Mk C q p:=by first|((with_reducible apply Mk.dj);exact cO)|((with_reducible apply Mk.dU);exact cO)|((with_reducible apply Mk.df);exact cO)|((with_reducible apply Mk.dh);exact cO)|((with_reducible apply Mk.lookW);exact True.intro)|((with_reducible apply Mk.fH);exact True.intro)):p:=h.go c hq
end Go.ch
end
