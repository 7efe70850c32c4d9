import Derived.Test.YtjopoheligmmoaaGreatDoorM19
import Derived.Test.YtjopoheligmmoaaGreatDoorM10
section
/- The walk's own moves, each a step from one goal to the next. -/
namespace Go.cY
open Go.RowKit
theorem bX {H:Hp} {b:Nat} {K:TypeId→AV→List AV→Prop} {e:TypeId} {d:AV} {es:List AV} (h:br H b=some (.row e 0 d (mapA es))) (k:Go (K e d es)):qO H b K:=qO.of h k
structure Mv (q p:Prop):Prop where
 go:q→p
theorem Mv.IA {tr:Tr} {ps:List (Nat×Nat)}:Mv (Go (DC tr [] fun t=>BQ t ps)) (Ask (iA tr.reverse ps)):=⟨aq⟩
theorem Mv.ny {P:Program} {n lo:Nat} {x:LC} {fr:Fr} {H:Hp} {nx:Nat} {Q:QT}:Mv (Go (W P n lo x fr H nx (gu (fun fr H nx=>oE P n lo x fr H nx Q) Q))) (oE P n lo x fr H nx Q):=⟨ax⟩
theorem Mv.drawn {P:Program} {segs:List rO} {fr:Fr} {H:Hp} {nx:Nat} {Q:QT}:Mv (Go (WS P nx segs [] fr H fun ov H' nx'=>Q .normal (gb ov fr) H' nx')) (gx P segs fr H nx Q):=⟨bE⟩
theorem Mv.rY {g:Option Bool} {n:Int} {K:Int→Prop} (h1:Gd g→-9223372036854775808≤n) (h2:Gd g→n<9223372036854775808):Mv (Go (K n)) (tO g .i64 n K):=⟨bC h1 h2⟩
theorem Mv.rZ {g:Option Bool} {n:Int} {K:Int→Prop} (h1:Gd g→0≤n) (h2:Gd g→n<256):Mv (Go (K n)) (tO g .u8 n K):=⟨bD h1 h2⟩
theorem Mv.A1 {g:Option Bool} {k:IntKind} {n:Int} {K:Int→Prop}:Mv (Go (K (k.wrap n))) (tO g k n K):=⟨bP⟩
theorem Mv.row {H:Hp} {b:Nat} {K:TypeId→Nat→AV→List AV→Prop} {e:TypeId} {sz:Nat} {d:AV} {es:List AV} (h:br H b=some (.row e sz d es)):Mv (Go (K e sz d es)) (fw H b K):=⟨bY h⟩
theorem Mv.map {H:Hp} {b:Nat} {K:TypeId→AV→List AV→Prop} {e:TypeId} {d:AV} {es:List AV} (h:br H b=some (.row e 0 d (mapA es))):Mv (Go (K e d es)) (qO H b K):=⟨bX h⟩
theorem Mv.nH {α:Type} {x:Option α} {K:α→Prop} {a:α} (h:x=some a):Mv (Go (K a)) (jD x K):=⟨aV h⟩
theorem Mv.res {u:AV} {r:AV} (hf:cI 0 u):Mv (r=u) (QB (fun x=>x=u) r):=⟨QB.eq hf⟩
theorem Mv.lt {t:Bool} {A B:Prop} (ht:t=true):Mv (Go A) (fH t A B):=⟨bW ht⟩
theorem Mv.lf {t:Bool} {A B:Prop} (ht:t=false):Mv (Go B) (fH t A B):=⟨bV ht⟩
theorem Mv.gt {t w:Bool} {A B J:Prop} (ht:t=w):Mv (Go A) (eP t w A B J):=⟨bh ht⟩
theorem Mv.gf {t w:Bool} {A B J:Prop} (ht:t= !w):Mv (Go B) (eP t w A B J):=⟨bg ht⟩
theorem Mv.join {t w:Bool} {A B J:Prop}:Mv (Go J) (eP t w A B J):=⟨bS⟩
theorem aG {p q:Prop} (hq:q) (h:Mv q p:=by first|with_reducible (first|apply Mv.IA|apply Mv.ny|apply Mv.drawn)|((with_reducible apply Mv.rY);(·exact qj);(·exact qj))|((with_reducible apply Mv.rZ);(·exact qj);(·exact qj))|(with_reducible apply Mv.A1)|((with_reducible apply Mv.row);exact bw)|((with_reducible apply Mv.map);exact bw)|((with_reducible apply Mv.nH);exact rQ)|((with_reducible apply Mv.res);exact cE)):p:=h.go hq
theorem aC {p:Prop} (h:p:=by first|with_reducible (first|exact True.intro|exact aa)|((with_reducible refine YY.mk ?_);(try dsimp only);omega)|((with_reducible refine Ask.mk ?_);first|exact dv|exact cz)):p:=h
theorem gD {p:Prop} (h:p:=by first|with_reducible (first|exact True.intro|exact aa)|((with_reducible refine YY.mk ?_);(try dsimp only);omega)|((with_reducible refine Ask.mk ?_);exact dv)):p:=h
theorem aH {p q:Prop} (hq:q) (h:Mv q p:=by first|((with_reducible apply Mv.nH);exact UT)|(apply Mv.gt;exact rfl)|(apply Mv.gf;exact rfl)|(with_reducible apply Mv.join)|(apply Mv.lt;exact rfl)|(apply Mv.lf;exact rfl)):p:=h.go hq
section
variable {P:Program} {f:FuncId} {args:List AV} {H:Hp} {nx:Nat}
theorem aI {R:AV→Prop} (X:cr P f) (ha:Nat.ble args.length X.n=true) (h:Go (W P X.n 0 X.lc (iL 0 args) [] 0 (V6 X.rs R))):Pure P f args R:=by
 obtain⟨fn,h1,h2,h3,h4,h5⟩:=X.ok
 exact bT h1 h2 h3 h4 h5 ha h
theorem aL {R:AV→Hp→Nat→Prop} (X:cr P f) (ha:Nat.ble args.length X.n=true) (h:Go (W P X.n nx X.lc (iL 0 args) H nx (ss X.rs R))):cH P f args H nx R:=by
 obtain⟨fn,h1,h2,h3,h4,h5⟩:=X.ok
 exact bf h1 h2 h3 h4 h5 ha h
theorem aZ {r:AV} (X:cr P f) (ha:Nat.ble args.length X.n=true) (h:Go (W P X.n nx X.lc (iL 0 args) H nx (ss X.rs (fun r' H' _=>r'=r∧∀b,b<nx→br H' b=br H b)))):vS P f args H nx r:=aL X ha h
structure Mk (C q p:Prop):Prop where
 go:C→q→p
theorem Mk.dE {r:AV} {K:AV→Hp→Nat→Prop} (hf:cX 0 args):Mk (Pure P f args (fun x=>x=r)) (Go (K r H nx)) (iG P f args H nx K):=⟨fun h hK=>aQ h hf hK⟩
theorem Mk.dD {g:Bool} {r:AV} {K:AV→Prop} (hf:cX 0 args):Mk (Pure P f args (fun x=>x=r)) (Go (K r)) (nC P g f args H nx K):=⟨fun h hK=>aP (fun _=>h) hf hK⟩
theorem Mk.dB {id:Nat} {r:AV} {K:AV→Option (Nat×eS)→List Nat→Prop} (hf:cX 0 args):Mk (Pure P f args (fun x=>x=r)) (Go (K r none [])) (lK P id f args H K):=⟨fun h hK=>aN h hf hK⟩
theorem Mk.dC {g:Bool} {id:Nat} {r:AV} {K:AV→List Nat→Prop} (hf:cX 0 args):Mk (Pure P f args (fun x=>x=r)) (Go (K r [])) (tu P g id f args H K):=⟨fun h hK=>aO (fun _=>h) hf hK⟩
theorem Mk.lookW {r:AV} {K:AV→Hp→Nat→Prop} (hr:fx r):Mk (vS P f args H nx r) (Go (K r H nx)) (iG P f args H nx K):=⟨fun h hK=>aX h hr hK⟩
theorem Mk.fM {g:Bool} {r:AV} {K:AV→Prop} (hr:fx r):Mk (vS P f args H nx r) (Go (K r)) (nC P g f args H nx K):=⟨fun h hK=>aW (fun _=>h) hr hK⟩
end
theorem aK {C p q:Prop} (c:C) (hq:q) (h:Mk C q p:=by first|((with_reducible apply Mk.dE);exact cE)|((with_reducible apply Mk.dD);exact cE)|((with_reducible apply Mk.dB);exact cE)|((with_reducible apply Mk.dC);exact cE)|((with_reducible apply Mk.lookW);exact True.intro)|((with_reducible apply Mk.fM);exact True.intro)):p:=h.go c hq
end Go.cY
end
