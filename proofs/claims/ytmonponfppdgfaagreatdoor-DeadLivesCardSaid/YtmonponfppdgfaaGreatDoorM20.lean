import Derived.Test.YtmonponfppdgfaaGreatDoorM17
section
/- The walk's own moves, each a step from one goal to the next. -/
namespace Go.Abs
open Go.RowKit
theorem Go.map {H:Hp} {b:Nat} {K:TypeId→AV→List AV→Prop} {e:TypeId} {d:AV} {es:List AV} (h:getH H b = some (.row e 0 d (mapA es))) (k:Go (K e d es)):AtMap H b K:=AtMap.of h k
structure Mv (q p:Prop):Prop where
 go:q→p
theorem Mv.far {tr:Tr} {ps:List (Nat × Nat)}:Mv (Go (revW tr [] fun t => farL t ps)) (Ask (farAll tr.reverse ps)):=⟨Go.far⟩
theorem Mv.unroll {P:Program} {n lo:Nat} {x:LC} {fr:Fr} {H:Hp} {nx:Nat} {Q:QT}:Mv (Go (W P n lo x fr H nx (thenK (fun fr H nx => HeadW P n lo x fr H nx Q) Q))) (HeadW P n lo x fr H nx Q):=⟨Go.unroll⟩
theorem Mv.drawn {P:Program} {segs:List Seg} {fr:Fr} {H:Hp} {nx:Nat} {Q:QT}:Mv (Go (WS P nx segs [] fr H fun ov H' nx' => Q .normal (plainO ov fr) H' nx')) (DrawnW P segs fr H nx Q):=⟨Go.drawn⟩
theorem Mv.ari64 {g:Option Bool} {n:Int} {K:Int→Prop} (h1:Gd g→-9223372036854775808 ≤ n) (h2:Gd g→n < 9223372036854775808):Mv (Go (K n)) (Ari g .i64 n K):=⟨Go.ari64 h1 h2⟩
theorem Mv.ariu8 {g:Option Bool} {n:Int} {K:Int→Prop} (h1:Gd g→0 ≤ n) (h2:Gd g→n < 256):Mv (Go (K n)) (Ari g .u8 n K):=⟨Go.ariu8 h1 h2⟩
theorem Mv.ari0 {g:Option Bool} {k:IntKind} {n:Int} {K:Int→Prop}:Mv (Go (K (k.wrap n))) (Ari g k n K):=⟨Go.ari0⟩
theorem Mv.row {H:Hp} {b:Nat} {K:TypeId→Nat→AV→List AV→Prop} {e:TypeId} {sz:Nat} {d:AV} {es:List AV} (h:getH H b = some (.row e sz d es)):Mv (Go (K e sz d es)) (AtRow H b K):=⟨Go.row h⟩
theorem Mv.map {H:Hp} {b:Nat} {K:TypeId→AV→List AV→Prop} {e:TypeId} {d:AV} {es:List AV} (h:getH H b = some (.row e 0 d (mapA es))):Mv (Go (K e d es)) (AtMap H b K):=⟨Go.map h⟩
theorem Mv.gives {α:Type} {x:Option α} {K:α→Prop} {a:α} (h:x = some a):Mv (Go (K a)) (Gives x K):=⟨Go.gives h⟩
theorem Mv.res {u:AV} {r:AV} (hf:fitA 0 u):Mv (r = u) (Res (fun x => x = u) r):=⟨Res.eq hf⟩
theorem Mv.lt {t:Bool} {A B:Prop} (ht:t = true):Mv (Go A) (BoolC t A B):=⟨Go.lt' ht⟩
theorem Mv.lf {t:Bool} {A B:Prop} (ht:t = false):Mv (Go B) (BoolC t A B):=⟨Go.lf' ht⟩
theorem Mv.gt {t w:Bool} {A B J:Prop} (ht:t = w):Mv (Go A) (GuardW t w A B J):=⟨Go.gt ht⟩
theorem Mv.gf {t w:Bool} {A B J:Prop} (ht:t = !w):Mv (Go B) (GuardW t w A B J):=⟨Go.gf ht⟩
theorem Mv.join {t w:Bool} {A B J:Prop}:Mv (Go J) (GuardW t w A B J):=⟨Go.join⟩
theorem aG {p q:Prop} (hq:q) (h:Mv q p:=by first|with_reducible (first|apply Mv.far|apply Mv.unroll|apply Mv.drawn)|((with_reducible apply Mv.ari64);(·exact aBnd);(·exact aBnd))|((with_reducible apply Mv.ariu8);(·exact aBnd);(·exact aBnd))|(with_reducible apply Mv.ari0)|((with_reducible apply Mv.row);exact aRow)|((with_reducible apply Mv.map);exact aRow)|((with_reducible apply Mv.gives);exact aGives)|((with_reducible apply Mv.res);exact aFit)):p:=h.go hq
theorem aC {p:Prop} (h:p:=by first|with_reducible (first|exact True.intro|exact Go.askRep)|((with_reducible refine Apt.mk ?_);(try dsimp only);omega)|((with_reducible refine Ask.mk ?_);first|exact aAsk|exact aAsk2)):p:=h
theorem aCn {p:Prop} (h:p:=by first|with_reducible (first|exact True.intro|exact Go.askRep)|((with_reducible refine Apt.mk ?_);(try dsimp only);omega)|((with_reducible refine Ask.mk ?_);exact aAsk)):p:=h
theorem aH {p q:Prop} (hq:q) (h:Mv q p:=by first|((with_reducible apply Mv.gives);exact aRes)|(apply Mv.gt;exact rfl)|(apply Mv.gf;exact rfl)|(with_reducible apply Mv.join)|(apply Mv.lt;exact rfl)|(apply Mv.lf;exact rfl)):p:=h.go hq
section
variable {P:Program} {f:FuncId} {args:List AV} {H:Hp} {nx:Nat}
theorem Go.pureL {n:Nat} {lc:LC} {rs:List LRes} {fz:Bool} {R:AV→Prop} (lf:LFok P ⟨f,n,lc,rs,fz⟩) (ha:Nat.ble args.length n = true) (h:Go (W P n 0 lc (initF 0 args) [] 0 (retW rs R))):Pure P f args R:=by
 obtain ⟨fn,h1,h2,h3,h4,h5⟩:=lf
 exact Go.pure h1 h2 h3 h4 h5 ha h
theorem Go.fnL {n:Nat} {lc:LC} {rs:List LRes} {fz:Bool} {R:AV→Hp→Nat→Prop} (lf:LFok P ⟨f,n,lc,rs,fz⟩) (ha:Nat.ble args.length n = true) (h:Go (W P n nx lc (initF 0 args) H nx (retNW rs R))):CallN P f args H nx R:=by
 obtain ⟨fn,h1,h2,h3,h4,h5⟩:=lf
 exact Go.fn h1 h2 h3 h4 h5 ha h
theorem Go.lookAtL {n:Nat} {lc:LC} {rs:List LRes} {fz:Bool} {r:AV} (lf:LFok P ⟨f,n,lc,rs,fz⟩) (ha:Nat.ble args.length n = true) (h:Go (W P n nx lc (initF 0 args) H nx (retNW rs (fun r' H' _ => r' = r∧∀ b,b < nx→getH H' b = getH H b)))):Look P f args H nx r:=Go.fnL lf ha h
structure Mk (C q p:Prop):Prop where
 go:C→q→p
theorem Mk.callW {r:AV} {K:AV→Hp→Nat→Prop} (hf:fitL 0 args):Mk (Pure P f args (fun x => x = r)) (Go (K r H nx)) (CallW P f args H nx K):=⟨fun h hK => Go.callW h hf hK⟩
theorem Mk.callJ {g:Bool} {r:AV} {K:AV→Prop} (hf:fitL 0 args):Mk (Pure P f args (fun x => x = r)) (Go (K r)) (CallJ P g f args H nx K):=⟨fun h hK => Go.callJ (fun _ => h) hf hK⟩
theorem Mk.callE {id:Nat} {r:AV} {K:AV→Option (Nat × Blk)→List Nat→Prop} (hf:fitL 0 args):Mk (Pure P f args (fun x => x = r)) (Go (K r none [])) (CallE P id f args H K):=⟨fun h hK => Go.callE h hf hK⟩
theorem Mk.callF {g:Bool} {id:Nat} {r:AV} {K:AV→List Nat→Prop} (hf:fitL 0 args):Mk (Pure P f args (fun x => x = r)) (Go (K r [])) (CallF P g id f args H K):=⟨fun h hK => Go.callF (fun _ => h) hf hK⟩
theorem Mk.lookW {r:AV} {K:AV→Hp→Nat→Prop} (hr:flatR r):Mk (Look P f args H nx r) (Go (K r H nx)) (CallW P f args H nx K):=⟨fun h hK => Go.lookW h hr hK⟩
theorem Mk.lookJ {g:Bool} {r:AV} {K:AV→Prop} (hr:flatR r):Mk (Look P f args H nx r) (Go (K r)) (CallJ P g f args H nx K):=⟨fun h hK => Go.lookJ (fun _ => h) hr hK⟩
end
theorem aK {C p q:Prop} (c:C) (hq:q) (h:Mk C q p:=by first|((with_reducible apply Mk.callW);exact aFit)|((with_reducible apply Mk.callJ);exact aFit)|((with_reducible apply Mk.callE);exact aFit)|((with_reducible apply Mk.callF);exact aFit)|((with_reducible apply Mk.lookW);exact True.intro)|((with_reducible apply Mk.lookJ);exact True.intro)):p:=h.go c hq
end Go.Abs
end
