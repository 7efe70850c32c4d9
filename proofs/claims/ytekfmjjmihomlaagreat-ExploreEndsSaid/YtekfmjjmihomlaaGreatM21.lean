import Derived.Test.YtekfmjjmihomlaaGreatM18
import Derived.Test.YtekfmjjmihomlaaGreatM10
section
/- The walk's own moves, each a step from one goal to the next. -/
namespace Go.cZ
open Go.RowKit
theorem bU {H:Hp} {b:Nat} {K:TypeId→AV→List AV→Prop} {e:TypeId} {d:AV} {es:List AV} (h:bn H b=some (.row e 0 d (mapA es))) (k:Go (K e d es)):pP H b K:=pP.of h k
structure Mv (q p:Prop):Prop where
 go:q→p
theorem Mv.C2 {tr:Tr} {ps:List (Nat×Nat)}:Mv (Go (zq tr [] fun t=>yn t ps)) (Ask (iG tr.reverse ps)):=⟨ar⟩
theorem Mv.nR {P:Program} {n lo:Nat} {x:LC} {fr:Fr} {H:Hp} {nx:Nat} {Q:QT}:Mv (Go (W P n lo x fr H nx (jV (fun fr H nx=>na P n lo x fr H nx Q) Q))) (na P n lo x fr H nx Q):=⟨ax⟩
theorem Mv.drawn {P:Program} {segs:List pn} {fr:Fr} {H:Hp} {nx:Nat} {Q:QT}:Mv (Go (WS P nx segs [] fr H fun ov H' nx'=>Q .normal (gq ov fr) H' nx')) (fe P segs fr H nx Q):=⟨bD⟩
theorem Mv.qe {g:Option Bool} {n:Int} {K:Int→Prop} (h1:Gd g→-9223372036854775808≤n) (h2:Gd g→n<9223372036854775808):Mv (Go (K n)) (sM g .i64 n K):=⟨bB h1 h2⟩
theorem Mv.qf {g:Option Bool} {n:Int} {K:Int→Prop} (h1:Gd g→0≤n) (h2:Gd g→n<256):Mv (Go (K n)) (sM g .u8 n K):=⟨bC h1 h2⟩
theorem Mv.yX {g:Option Bool} {k:IntKind} {n:Int} {K:Int→Prop}:Mv (Go (K (k.wrap n))) (sM g k n K):=⟨bM⟩
theorem Mv.row {H:Hp} {b:Nat} {K:TypeId→Nat→AV→List AV→Prop} {e:TypeId} {sz:Nat} {d:AV} {es:List AV} (h:bn H b=some (.row e sz d es)):Mv (Go (K e sz d es)) (gP H b K):=⟨bV h⟩
theorem Mv.map {H:Hp} {b:Nat} {K:TypeId→AV→List AV→Prop} {e:TypeId} {d:AV} {es:List AV} (h:bn H b=some (.row e 0 d (mapA es))):Mv (Go (K e d es)) (pP H b K):=⟨bU h⟩
theorem Mv.nz {α:Type} {x:Option α} {K:α→Prop} {a:α} (h:x=some a):Mv (Go (K a)) (jZ x K):=⟨aa h⟩
theorem Mv.res {u:AV} {r:AV} (hf:cE 0 u):Mv (r=u) (N4 (fun x=>x=u) r):=⟨N4.eq hf⟩
theorem Mv.lt {t:Bool} {A B:Prop} (ht:t=true):Mv (Go A) (fK t A B):=⟨bT ht⟩
theorem Mv.lf {t:Bool} {A B:Prop} (ht:t=false):Mv (Go B) (fK t A B):=⟨bS ht⟩
theorem Mv.gt {t w:Bool} {A B J:Prop} (ht:t=w):Mv (Go A) (eN t w A B J):=⟨bd ht⟩
theorem Mv.gf {t w:Bool} {A B J:Prop} (ht:t= !w):Mv (Go B) (eN t w A B J):=⟨bc ht⟩
theorem Mv.join {t w:Bool} {A B J:Prop}:Mv (Go J) (eN t w A B J):=⟨bP⟩
theorem aG {p q:Prop} (hq:q) (h:Mv q p:=by first|with_reducible (first|apply Mv.C2|apply Mv.nR|apply Mv.drawn)|((with_reducible apply Mv.qe);(·exact po);(·exact po))|((with_reducible apply Mv.qf);(·exact po);(·exact po))|(with_reducible apply Mv.yX)|((with_reducible apply Mv.row);exact bq)|((with_reducible apply Mv.map);exact bq)|((with_reducible apply Mv.nz);exact q6)|((with_reducible apply Mv.res);exact bz)):p:=h.go hq
theorem aC {p:Prop} (h:p:=by first|with_reducible (first|exact True.intro|exact aZ)|((with_reducible refine RC.mk ?_);(try dsimp only);omega)|((with_reducible refine Ask.mk ?_);first|exact cz|exact cU)):p:=h
theorem eK {p:Prop} (h:p:=by first|with_reducible (first|exact True.intro|exact aZ)|((with_reducible refine RC.mk ?_);(try dsimp only);omega)|((with_reducible refine Ask.mk ?_);exact cz)):p:=h
theorem aH {p q:Prop} (hq:q) (h:Mv q p:=by first|((with_reducible apply Mv.nz);exact N9)|(apply Mv.gt;exact rfl)|(apply Mv.gf;exact rfl)|(with_reducible apply Mv.join)|(apply Mv.lt;exact rfl)|(apply Mv.lf;exact rfl)):p:=h.go hq
section
variable {P:Program} {f:FuncId} {args:List AV} {H:Hp} {nx:Nat}
theorem aI {R:AV→Prop} (X:dR P f) (ha:Nat.ble args.length X.n=true) (h:Go (W P X.n 0 X.lc (j6 0 args) [] 0 (O5 X.rs R))):Pure P f args R:=by
 obtain⟨fn,h1,h2,h3,h4,h5⟩:=X.ok
 exact bQ h1 h2 h3 h4 h5 ha h
theorem aQ {R:AV→Hp→Nat→Prop} (X:dR P f) (ha:Nat.ble args.length X.n=true) (h:Go (W P X.n nx X.lc (j6 0 args) H nx (B7 X.rs R))):cP P f args H nx R:=by
 obtain⟨fn,h1,h2,h3,h4,h5⟩:=X.ok
 exact ba h1 h2 h3 h4 h5 ha h
theorem aY {r:AV} (X:dR P f) (ha:Nat.ble args.length X.n=true) (h:Go (W P X.n nx X.lc (j6 0 args) H nx (B7 X.rs (fun r' H' _=>r'=r∧∀b,b<nx→bn H' b=bn H b)))):uI P f args H nx r:=aQ X ha h
structure Mk (C q p:Prop):Prop where
 go:C→q→p
theorem Mk.ct {r:AV} {K:AV→Hp→Nat→Prop} (hf:cT 0 args):Mk (Pure P f args (fun x=>x=r)) (Go (K r H nx)) (gQ P f args H nx K):=⟨fun h hK=>aN h hf hK⟩
theorem Mk.cn {g:Bool} {r:AV} {K:AV→Prop} (hf:cT 0 args):Mk (Pure P f args (fun x=>x=r)) (Go (K r)) (nZ P g f args H nx K):=⟨fun h hK=>aJ (fun _=>h) hf hK⟩
theorem Mk.cq {id:Nat} {r:AV} {K:AV→Option (Nat×eV)→List Nat→Prop} (hf:cT 0 args):Mk (Pure P f args (fun x=>x=r)) (Go (K r none [])) (jY P id f args H K):=⟨fun h hK=>aL h hf hK⟩
theorem Mk.cr {g:Bool} {id:Nat} {r:AV} {K:AV→List Nat→Prop} (hf:cT 0 args):Mk (Pure P f args (fun x=>x=r)) (Go (K r [])) (se P g id f args H K):=⟨fun h hK=>aM (fun _=>h) hf hK⟩
theorem Mk.lookW {r:AV} {K:AV→Hp→Nat→Prop} (hr:fw r):Mk (uI P f args H nx r) (Go (K r H nx)) (gQ P f args H nx K):=⟨fun h hK=>aX h hr hK⟩
theorem Mk.fM {g:Bool} {r:AV} {K:AV→Prop} (hr:fw r):Mk (uI P f args H nx r) (Go (K r)) (nZ P g f args H nx K):=⟨fun h hK=>aW (fun _=>h) hr hK⟩
end
theorem aK {C p q:Prop} (c:C) (hq:q) (h:Mk C q p:=by first|((with_reducible apply Mk.ct);exact bz)|((with_reducible apply Mk.cn);exact bz)|((with_reducible apply Mk.cq);exact bz)|((with_reducible apply Mk.cr);exact bz)|((with_reducible apply Mk.lookW);exact True.intro)|((with_reducible apply Mk.fM);exact True.intro)):p:=h.go c hq
end Go.cZ
end
