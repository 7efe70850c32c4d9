import Derived.Test.YtlonbgdonffcbaaGreatDoorM18
import Derived.Test.YtlonbgdonffcbaaGreatDoorM10
section
/- The walk's own moves, each a step from one goal to the next. -/
namespace Go.cU
open Go.RowKit
theorem bU {H:Hp} {b:Nat} {K:TypeId→AV→List AV→Prop} {e:TypeId} {d:AV} {es:List AV} (h:bf H b=some (.row e 0 d (mapA es))) (k:Go (K e d es)):oC H b K:=oC.of h k
structure Mv (q p:Prop):Prop where
 go:q→p
theorem Mv.zo {tr:Tr} {ps:List (Nat×Nat)}:Mv (Go (xq tr [] fun t=>wx t ps)) (Ask (gQ tr.reverse ps)):=⟨ao⟩
theorem Mv.ly {P:Program} {n lo:Nat} {x:LC} {fr:Fr} {H:Hp} {nx:Nat} {Q:QT}:Mv (Go (W P n lo x fr H nx (jI (fun fr H nx=>mF P n lo x fr H nx Q) Q))) (mF P n lo x fr H nx Q):=⟨ar⟩
theorem Mv.drawn {P:Program} {segs:List pM} {fr:Fr} {H:Hp} {nx:Nat} {Q:QT}:Mv (Go (WS P nx segs [] fr H fun ov H' nx'=>Q .normal (fy ov fr) H' nx')) (gJ P segs fr H nx Q):=⟨bB⟩
theorem Mv.pT {g:Option Bool} {n:Int} {K:Int→Prop} (h1:Gd g→-9223372036854775808≤n) (h2:Gd g→n<9223372036854775808):Mv (Go (K n)) (qq g .i64 n K):=⟨ay h1 h2⟩
theorem Mv.pU {g:Option Bool} {n:Int} {K:Int→Prop} (h1:Gd g→0≤n) (h2:Gd g→n<256):Mv (Go (K n)) (qq g .u8 n K):=⟨az h1 h2⟩
theorem Mv.w6 {g:Option Bool} {k:IntKind} {n:Int} {K:Int→Prop}:Mv (Go (K (k.wrap n))) (qq g k n K):=⟨bL⟩
theorem Mv.row {H:Hp} {b:Nat} {K:TypeId→Nat→AV→List AV→Prop} {e:TypeId} {sz:Nat} {d:AV} {es:List AV} (h:bf H b=some (.row e sz d es)):Mv (Go (K e sz d es)) (fQ H b K):=⟨bV h⟩
theorem Mv.map {H:Hp} {b:Nat} {K:TypeId→AV→List AV→Prop} {e:TypeId} {d:AV} {es:List AV} (h:bf H b=some (.row e 0 d (mapA es))):Mv (Go (K e d es)) (oC H b K):=⟨bU h⟩
theorem Mv.oO {α:Type} {x:Option α} {K:α→Prop} {a:α} (h:x=some a):Mv (Go (K a)) (iN x K):=⟨bC h⟩
theorem Mv.res {u:AV} {r:AV} (hf:cA 0 u):Mv (r=u) (KY (fun x=>x=u) r):=⟨KY.eq hf⟩
theorem Mv.lt {t:Bool} {A B:Prop} (ht:t=true):Mv (Go A) (eV t A B):=⟨bT ht⟩
theorem Mv.lf {t:Bool} {A B:Prop} (ht:t=false):Mv (Go B) (eV t A B):=⟨bS ht⟩
theorem Mv.gt {t w:Bool} {A B J:Prop} (ht:t=w):Mv (Go A) (dg t w A B J):=⟨b7 ht⟩
theorem Mv.gf {t w:Bool} {A B J:Prop} (ht:t= !w):Mv (Go B) (dg t w A B J):=⟨b6 ht⟩
theorem Mv.join {t w:Bool} {A B J:Prop}:Mv (Go J) (dg t w A B J):=⟨bO⟩
theorem aG {p q:Prop} (hq:q) (h:Mv q p:=by first|with_reducible (first|apply Mv.zo|apply Mv.ly|apply Mv.drawn)|((with_reducible apply Mv.pT);(·exact oZ);(·exact oZ))|((with_reducible apply Mv.pU);(·exact oZ);(·exact oZ))|(with_reducible apply Mv.w6)|((with_reducible apply Mv.row);exact bn)|((with_reducible apply Mv.map);exact bn)|((with_reducible apply Mv.oO);exact pO)|((with_reducible apply Mv.res);exact bj)):p:=h.go hq
theorem aC {p:Prop} (h:p:=by first|with_reducible (first|exact True.intro|exact ak)|((with_reducible refine OX.mk ?_);(try dsimp only);omega)|((with_reducible refine Ask.mk ?_);first|exact O0|exact NO)):p:=h
theorem aH {p q:Prop} (hq:q) (h:Mv q p:=by first|((with_reducible apply Mv.oO);exact K2)|(apply Mv.gt;exact rfl)|(apply Mv.gf;exact rfl)|(with_reducible apply Mv.join)|(apply Mv.lt;exact rfl)|(apply Mv.lf;exact rfl)):p:=h.go hq
section
variable {P:Program} {f:FuncId} {args:List AV} {H:Hp} {nx:Nat}
theorem aI {R:AV→Prop} (X:cz P f) (ha:Nat.ble args.length X.n=true) (h:Go (W P X.n 0 X.lc (iT 0 args) [] 0 (MK X.rs R))):Pure P f args R:=by
 obtain⟨fn,h1,h2,h3,h4,h5⟩:=X.ok
 exact bP h1 h2 h3 h4 h5 ha h
theorem aO {R:AV→Hp→Nat→Prop} (X:cz P f) (ha:Nat.ble args.length X.n=true) (h:Go (W P X.n nx X.lc (iT 0 args) H nx (wG X.rs R))):bw P f args H nx R:=by
 obtain⟨fn,h1,h2,h3,h4,h5⟩:=X.ok
 exact b5 h1 h2 h3 h4 h5 ha h
theorem aT {r:AV} (X:cz P f) (ha:Nat.ble args.length X.n=true) (h:Go (W P X.n nx X.lc (iT 0 args) H nx (wG X.rs (fun r' H' _=>r'=r∧∀b,b<nx→bf H' b=bf H b)))):ic P f args H nx r:=aO X ha h
structure Mk (C q p:Prop):Prop where
 go:C→q→p
theorem Mk.cO {r:AV} {K:AV→Hp→Nat→Prop} (hf:cH 0 args):Mk (Pure P f args (fun x=>x=r)) (Go (K r H nx)) (fm P f args H nx K):=⟨fun h hK=>aJ h hf hK⟩
theorem Mk.cT {g:Bool} {r:AV} {K:AV→Prop} (hf:cH 0 args):Mk (Pure P f args (fun x=>x=r)) (Go (K r)) (mD P g f args H nx K):=⟨fun h hK=>aN (fun _=>h) hf hK⟩
theorem Mk.cR {id:Nat} {r:AV} {K:AV→Option (Nat×dx)→List Nat→Prop} (hf:cH 0 args):Mk (Pure P f args (fun x=>x=r)) (Go (K r none [])) (kG P id f args H K):=⟨fun h hK=>aL h hf hK⟩
theorem Mk.cS {g:Bool} {id:Nat} {r:AV} {K:AV→List Nat→Prop} (hf:cH 0 args):Mk (Pure P f args (fun x=>x=r)) (Go (K r [])) (rN P g id f args H K):=⟨fun h hK=>aM (fun _=>h) hf hK⟩
theorem Mk.lookW {r:AV} {K:AV→Hp→Nat→Prop} (hr:iz r):Mk (ic P f args H nx r) (Go (K r H nx)) (fm P f args H nx K):=⟨fun h hK=>aQ h hr hK⟩
theorem Mk.dn {g:Bool} {r:AV} {K:AV→Prop} (hr:iz r):Mk (ic P f args H nx r) (Go (K r)) (mD P g f args H nx K):=⟨fun h hK=>aV (fun _=>h) hr hK⟩
end
theorem aK {C p q:Prop} (c:C) (hq:q) (h:Mk C q p:=by first|((with_reducible apply Mk.cO);exact bj)|((with_reducible apply Mk.cT);exact bj)|((with_reducible apply Mk.cR);exact bj)|((with_reducible apply Mk.cS);exact bj)|((with_reducible apply Mk.lookW);exact True.intro)|((with_reducible apply Mk.dn);exact True.intro)):p:=h.go c hq
end Go.cU
end
