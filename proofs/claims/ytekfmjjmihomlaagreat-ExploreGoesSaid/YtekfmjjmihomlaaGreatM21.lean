import Derived.Test.YtekfmjjmihomlaaGreatM18
import Derived.Test.YtekfmjjmihomlaaGreatM10
section
/- The walk's own moves, each a step from one goal to the next. -/
namespace Go.cO
open Go.RowKit
theorem bS {H:Hp} {b:Nat} {K:TypeId→AV→List AV→Prop} {e:TypeId} {d:AV} {es:List AV} (h:bd H b=some (.row e 0 d (mapA es))) (k:Go (K e d es)):nN H b K:=nN.of h k
structure Mv (q p:Prop):Prop where
 go:q→p
theorem Mv.zC {tr:Tr} {ps:List (Nat×Nat)}:Mv (Go (wq tr [] fun t=>vx t ps)) (Ask (fu tr.reverse ps)):=⟨aj⟩
theorem Mv.lT {P:Program} {n lo:Nat} {x:LC} {fr:Fr} {H:Hp} {nx:Nat} {Q:QT}:Mv (Go (W P n lo x fr H nx (iA (fun fr H nx=>l3 P n lo x fr H nx Q) Q))) (l3 P n lo x fr H nx Q):=⟨ao⟩
theorem Mv.drawn {P:Program} {segs:List oP} {fr:Fr} {H:Hp} {nx:Nat} {Q:QT}:Mv (Go (WS P nx segs [] fr H fun ov H' nx'=>Q .normal (fV ov fr) H' nx')) (fj P segs fr H nx Q):=⟨az⟩
theorem Mv.oW {g:Option Bool} {n:Int} {K:Int→Prop} (h1:Gd g→-9223372036854775808≤n) (h2:Gd g→n<9223372036854775808):Mv (Go (K n)) (ph g .i64 n K):=⟨ax h1 h2⟩
theorem Mv.oX {g:Option Bool} {n:Int} {K:Int→Prop} (h1:Gd g→0≤n) (h2:Gd g→n<256):Mv (Go (K n)) (ph g .u8 n K):=⟨ay h1 h2⟩
theorem Mv.v8 {g:Option Bool} {k:IntKind} {n:Int} {K:Int→Prop}:Mv (Go (K (k.wrap n))) (ph g k n K):=⟨bK⟩
theorem Mv.row {H:Hp} {b:Nat} {K:TypeId→Nat→AV→List AV→Prop} {e:TypeId} {sz:Nat} {d:AV} {es:List AV} (h:bd H b=some (.row e sz d es)):Mv (Go (K e sz d es)) (fJ H b K):=⟨bT h⟩
theorem Mv.map {H:Hp} {b:Nat} {K:TypeId→AV→List AV→Prop} {e:TypeId} {d:AV} {es:List AV} (h:bd H b=some (.row e 0 d (mapA es))):Mv (Go (K e d es)) (nN H b K):=⟨bS h⟩
theorem Mv.nV {α:Type} {x:Option α} {K:α→Prop} {a:α} (h:x=some a):Mv (Go (K a)) (iF x K):=⟨bA h⟩
theorem Mv.res {u:AV} {r:AV} (hf:bx 0 u):Mv (r=u) (IU (fun x=>x=u) r):=⟨IU.eq hf⟩
theorem Mv.lt {t:Bool} {A B:Prop} (ht:t=true):Mv (Go A) (eL t A B):=⟨bR ht⟩
theorem Mv.lf {t:Bool} {A B:Prop} (ht:t=false):Mv (Go B) (eL t A B):=⟨bQ ht⟩
theorem Mv.gt {t w:Bool} {A B J:Prop} (ht:t=w):Mv (Go A) (de t w A B J):=⟨b6 ht⟩
theorem Mv.gf {t w:Bool} {A B J:Prop} (ht:t= !w):Mv (Go B) (de t w A B J):=⟨bZ ht⟩
theorem Mv.join {t w:Bool} {A B J:Prop}:Mv (Go J) (de t w A B J):=⟨bN⟩
theorem aG {p q:Prop} (hq:q) (h:Mv q p:=by first|with_reducible (first|apply Mv.zC|apply Mv.lT|apply Mv.drawn)|((with_reducible apply Mv.oW);(·exact nj);(·exact nj))|((with_reducible apply Mv.oX);(·exact nj);(·exact nj))|(with_reducible apply Mv.v8)|((with_reducible apply Mv.row);exact bg)|((with_reducible apply Mv.map);exact bg)|((with_reducible apply Mv.nV);exact oQ)|((with_reducible apply Mv.res);exact bo)):p:=h.go hq
theorem aC {p:Prop} (h:p:=by first|with_reducible (first|exact True.intro|exact aZ)|((with_reducible refine L4.mk ?_);(try dsimp only);omega)|((with_reducible refine Ask.mk ?_);first|exact dj|exact cy)):p:=h
theorem gJ {p:Prop} (h:p:=by first|with_reducible (first|exact True.intro|exact aZ)|((with_reducible refine L4.mk ?_);(try dsimp only);omega)|((with_reducible refine Ask.mk ?_);exact dj)):p:=h
theorem aH {p q:Prop} (hq:q) (h:Mv q p:=by first|((with_reducible apply Mv.nV);exact IZ)|(apply Mv.gt;exact rfl)|(apply Mv.gf;exact rfl)|(with_reducible apply Mv.join)|(apply Mv.lt;exact rfl)|(apply Mv.lf;exact rfl)):p:=h.go hq
section
variable {P:Program} {f:FuncId} {args:List AV} {H:Hp} {nx:Nat}
theorem aI {R:AV→Prop} (X:cw P f) (ha:Nat.ble args.length X.n=true) (h:Go (W P X.n 0 X.lc (iL 0 args) [] 0 (JR X.rs R))):Pure P f args R:=by
 obtain⟨fn,h1,h2,h3,h4,h5⟩:=X.ok
 exact bO h1 h2 h3 h4 h5 ha h
theorem aQ {R:AV→Hp→Nat→Prop} (X:cw P f) (ha:Nat.ble args.length X.n=true) (h:Go (W P X.n nx X.lc (iL 0 args) H nx (y7 X.rs R))):cD P f args H nx R:=by
 obtain⟨fn,h1,h2,h3,h4,h5⟩:=X.ok
 exact bY h1 h2 h3 h4 h5 ha h
theorem aY {r:AV} (X:cw P f) (ha:Nat.ble args.length X.n=true) (h:Go (W P X.n nx X.lc (iL 0 args) H nx (y7 X.rs (fun r' H' _=>r'=r∧∀b,b<nx→bd H' b=bd H b)))):rI P f args H nx r:=aQ X ha h
structure Mk (C q p:Prop):Prop where
 go:C→q→p
theorem Mk.cg {r:AV} {K:AV→Hp→Nat→Prop} (hf:cN 0 args):Mk (Pure P f args (fun x=>x=r)) (Go (K r H nx)) (gB P f args H nx K):=⟨fun h hK=>aO h hf hK⟩
theorem Mk.cd {g:Bool} {r:AV} {K:AV→Prop} (hf:cN 0 args):Mk (Pure P f args (fun x=>x=r)) (Go (K r)) (lY P g f args H nx K):=⟨fun h hK=>aN (fun _=>h) hf hK⟩
theorem Mk.ca {id:Nat} {r:AV} {K:AV→Option (Nat×dv)→List Nat→Prop} (hf:cN 0 args):Mk (Pure P f args (fun x=>x=r)) (Go (K r none [])) (j4 P id f args H K):=⟨fun h hK=>aL h hf hK⟩
theorem Mk.cc {g:Bool} {id:Nat} {r:AV} {K:AV→List Nat→Prop} (hf:cN 0 args):Mk (Pure P f args (fun x=>x=r)) (Go (K r [])) (qH P g id f args H K):=⟨fun h hK=>aM (fun _=>h) hf hK⟩
theorem Mk.lookW {r:AV} {K:AV→Hp→Nat→Prop} (hr:fe r):Mk (rI P f args H nx r) (Go (K r H nx)) (gB P f args H nx K):=⟨fun h hK=>aW h hr hK⟩
theorem Mk.eO {g:Bool} {r:AV} {K:AV→Prop} (hr:fe r):Mk (rI P f args H nx r) (Go (K r)) (lY P g f args H nx K):=⟨fun h hK=>aV (fun _=>h) hr hK⟩
end
theorem aK {C p q:Prop} (c:C) (hq:q) (h:Mk C q p:=by first|((with_reducible apply Mk.cg);exact bo)|((with_reducible apply Mk.cd);exact bo)|((with_reducible apply Mk.ca);exact bo)|((with_reducible apply Mk.cc);exact bo)|((with_reducible apply Mk.lookW);exact True.intro)|((with_reducible apply Mk.eO);exact True.intro)):p:=h.go c hq
end Go.cO
end
