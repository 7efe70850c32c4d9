import Derived.Test.YtjopoheligmmoaaGreatDoorM19
import Derived.Test.YtjopoheligmmoaaGreatDoorM10
section
/- The walk's own moves, each a step from one goal to the next. -/
namespace Go.cZ
open Go.RowKit
theorem bZ {H:Hp} {b:Nat} {K:TypeId→AV→List AV→Prop} {e:TypeId} {d:AV} {es:List AV} (h:bu H b=some (.row e 0 d (mapA es))) (k:Go (K e d es)):qZ H b K:=qZ.of h k
structure Mv (q p:Prop):Prop where
 go:q→p
theorem Mv.IP {tr:Tr} {ps:List (Nat×Nat)}:Mv (Go (DR tr [] fun t=>B7 t ps)) (Ask (iG tr.reverse ps)):=⟨ar⟩
theorem Mv.oI {P:Program} {n lo:Nat} {x:LC} {fr:Fr} {H:Hp} {nx:Nat} {Q:QT}:Mv (Go (W P n lo x fr H nx (hX (fun fr H nx=>oP P n lo x fr H nx Q) Q))) (oP P n lo x fr H nx Q):=⟨ay⟩
theorem Mv.drawn {P:Program} {segs:List rY} {fr:Fr} {H:Hp} {nx:Nat} {Q:QT}:Mv (Go (WS P nx segs [] fr H fun ov H' nx'=>Q .normal (gq ov fr) H' nx')) (iB P segs fr H nx Q):=⟨bG⟩
theorem Mv.rl {g:Option Bool} {n:Int} {K:Int→Prop} (h1:Gd g→-9223372036854775808≤n) (h2:Gd g→n<9223372036854775808):Mv (Go (K n)) (ta g .i64 n K):=⟨bE h1 h2⟩
theorem Mv.rn {g:Option Bool} {n:Int} {K:Int→Prop} (h1:Gd g→0≤n) (h2:Gd g→n<256):Mv (Go (K n)) (ta g .u8 n K):=⟨bF h1 h2⟩
theorem Mv.BN {g:Option Bool} {k:IntKind} {n:Int} {K:Int→Prop}:Mv (Go (K (k.wrap n))) (ta g k n K):=⟨bR⟩
theorem Mv.row {H:Hp} {b:Nat} {K:TypeId→Nat→AV→List AV→Prop} {e:TypeId} {sz:Nat} {d:AV} {es:List AV} (h:bu H b=some (.row e sz d es)):Mv (Go (K e sz d es)) (gB H b K):=⟨ba h⟩
theorem Mv.map {H:Hp} {b:Nat} {K:TypeId→AV→List AV→Prop} {e:TypeId} {d:AV} {es:List AV} (h:bu H b=some (.row e 0 d (mapA es))):Mv (Go (K e d es)) (qZ H b K):=⟨bZ h⟩
theorem Mv.nS {α:Type} {x:Option α} {K:α→Prop} {a:α} (h:x=some a):Mv (Go (K a)) (jJ x K):=⟨aW h⟩
theorem Mv.res {u:AV} {r:AV} (hf:cI 0 u):Mv (r=u) (QQ (fun x=>x=u) r):=⟨QQ.eq hf⟩
theorem Mv.lt {t:Bool} {A B:Prop} (ht:t=true):Mv (Go A) (fI t A B):=⟨bY ht⟩
theorem Mv.lf {t:Bool} {A B:Prop} (ht:t=false):Mv (Go B) (fI t A B):=⟨bX ht⟩
theorem Mv.gt {t w:Bool} {A B J:Prop} (ht:t=w):Mv (Go A) (eR t w A B J):=⟨bk ht⟩
theorem Mv.gf {t w:Bool} {A B J:Prop} (ht:t= !w):Mv (Go B) (eR t w A B J):=⟨bj ht⟩
theorem Mv.join {t w:Bool} {A B J:Prop}:Mv (Go J) (eR t w A B J):=⟨bU⟩
theorem aG {p q:Prop} (hq:q) (h:Mv q p:=by first|with_reducible (first|apply Mv.IP|apply Mv.oI|apply Mv.drawn)|((with_reducible apply Mv.rl);(·exact qv);(·exact qv))|((with_reducible apply Mv.rn);(·exact qv);(·exact qv))|(with_reducible apply Mv.BN)|((with_reducible apply Mv.row);exact bw)|((with_reducible apply Mv.map);exact bw)|((with_reducible apply Mv.nS);exact rZ)|((with_reducible apply Mv.res);exact cH)):p:=h.go hq
theorem aC {p:Prop} (h:p:=by first|with_reducible (first|exact True.intro|exact af)|((with_reducible refine ZH.mk ?_);(try dsimp only);omega)|((with_reducible refine Ask.mk ?_);first|exact dz|exact dD)):p:=h
theorem gG {p:Prop} (h:p:=by first|with_reducible (first|exact True.intro|exact af)|((with_reducible refine ZH.mk ?_);(try dsimp only);omega)|((with_reducible refine Ask.mk ?_);exact dz)):p:=h
theorem aH {p q:Prop} (hq:q) (h:Mv q p:=by first|((with_reducible apply Mv.nS);exact VG)|(apply Mv.gt;exact rfl)|(apply Mv.gf;exact rfl)|(with_reducible apply Mv.join)|(apply Mv.lt;exact rfl)|(apply Mv.lf;exact rfl)):p:=h.go hq
section
variable {P:Program} {f:FuncId} {args:List AV} {H:Hp} {nx:Nat}
theorem aJ {R:AV→Prop} (X:cu P f) (ha:Nat.ble args.length X.n=true) (h:Go (W P X.n 0 X.lc (iQ 0 args) [] 0 (WV X.rs R))):Pure P f args R:=by
 obtain⟨fn,h1,h2,h3,h4,h5⟩:=X.ok
 exact bV h1 h2 h3 h4 h5 ha h
theorem aM {R:AV→Hp→Nat→Prop} (X:cu P f) (ha:Nat.ble args.length X.n=true) (h:Go (W P X.n nx X.lc (iQ 0 args) H nx (tJ X.rs R))):cG P f args H nx R:=by
 obtain⟨fn,h1,h2,h3,h4,h5⟩:=X.ok
 exact bh h1 h2 h3 h4 h5 ha h
theorem aa {r:AV} (X:cu P f) (ha:Nat.ble args.length X.n=true) (h:Go (W P X.n nx X.lc (iQ 0 args) H nx (tJ X.rs (fun r' H' _=>r'=r∧∀b,b<nx→bu H' b=bu H b)))):ve P f args H nx r:=aM X ha h
structure Mk (C q p:Prop):Prop where
 go:C→q→p
theorem Mk.dH {r:AV} {K:AV→Hp→Nat→Prop} (hf:cX 0 args):Mk (Pure P f args (fun x=>x=r)) (Go (K r H nx)) (iL P f args H nx K):=⟨fun h hK=>aR h hf hK⟩
theorem Mk.dG {g:Bool} {r:AV} {K:AV→Prop} (hf:cX 0 args):Mk (Pure P f args (fun x=>x=r)) (Go (K r)) (nM P g f args H nx K):=⟨fun h hK=>aQ (fun _=>h) hf hK⟩
theorem Mk.dE {id:Nat} {r:AV} {K:AV→Option (Nat×eU)→List Nat→Prop} (hf:cX 0 args):Mk (Pure P f args (fun x=>x=r)) (Go (K r none [])) (lV P id f args H K):=⟨fun h hK=>aO h hf hK⟩
theorem Mk.dF {g:Bool} {id:Nat} {r:AV} {K:AV→List Nat→Prop} (hf:cX 0 args):Mk (Pure P f args (fun x=>x=r)) (Go (K r [])) (uG P g id f args H K):=⟨fun h hK=>aP (fun _=>h) hf hK⟩
theorem Mk.lookW {r:AV} {K:AV→Hp→Nat→Prop} (hr:fc r):Mk (ve P f args H nx r) (Go (K r H nx)) (iL P f args H nx K):=⟨fun h hK=>aY h hr hK⟩
theorem Mk.fN {g:Bool} {r:AV} {K:AV→Prop} (hr:fc r):Mk (ve P f args H nx r) (Go (K r)) (nM P g f args H nx K):=⟨fun h hK=>aX (fun _=>h) hr hK⟩
end
theorem aK {C p q:Prop} (c:C) (hq:q) (h:Mk C q p:=by first|((with_reducible apply Mk.dH);exact cH)|((with_reducible apply Mk.dG);exact cH)|((with_reducible apply Mk.dE);exact cH)|((with_reducible apply Mk.dF);exact cH)|((with_reducible apply Mk.lookW);exact True.intro)|((with_reducible apply Mk.fN);exact True.intro)):p:=h.go c hq
end Go.cZ
end
