import Derived.Test.YtjopoheligmmoaaGreatDoorM19
import Derived.Test.YtjopoheligmmoaaGreatDoorM10
section
/- The walk's own moves, each a step from one goal to the next. -/
namespace Go.cX
open Go.RowKit
theorem bX {H:Hp} {b:Nat} {K:TypeId→AV→List AV→Prop} {e:TypeId} {d:AV} {es:List AV} (h:br H b=some (.row e 0 d (mapA es))) (k:Go (K e d es)):qF H b K:=qF.of h k
structure Mv (q p:Prop):Prop where
 go:q→p
theorem Mv.HD {tr:Tr} {ps:List (Nat×Nat)}:Mv (Go (CT tr [] fun t=>BA t ps)) (Ask (gz tr.reverse ps)):=⟨aq⟩
theorem Mv.nq {P:Program} {n lo:Nat} {x:LC} {fr:Fr} {H:Hp} {nx:Nat} {Q:QT}:Mv (Go (W P n lo x fr H nx (gp (fun fr H nx=>nz P n lo x fr H nx Q) Q))) (nz P n lo x fr H nx Q):=⟨ax⟩
theorem Mv.drawn {P:Program} {segs:List qw} {fr:Fr} {H:Hp} {nx:Nat} {Q:QT}:Mv (Go (WS P nx segs [] fr H fun ov H' nx'=>Q .normal (gY ov fr) H' nx')) (gu P segs fr H nx Q):=⟨bE⟩
theorem Mv.rG {g:Option Bool} {n:Int} {K:Int→Prop} (h1:Gd g→-9223372036854775808≤n) (h2:Gd g→n<9223372036854775808):Mv (Go (K n)) (sx g .i64 n K):=⟨bC h1 h2⟩
theorem Mv.rI {g:Option Bool} {n:Int} {K:Int→Prop} (h1:Gd g→0≤n) (h2:Gd g→n<256):Mv (Go (K n)) (sx g .u8 n K):=⟨bD h1 h2⟩
theorem Mv.AL {g:Option Bool} {k:IntKind} {n:Int} {K:Int→Prop}:Mv (Go (K (k.wrap n))) (sx g k n K):=⟨bP⟩
theorem Mv.row {H:Hp} {b:Nat} {K:TypeId→Nat→AV→List AV→Prop} {e:TypeId} {sz:Nat} {d:AV} {es:List AV} (h:br H b=some (.row e sz d es)):Mv (Go (K e sz d es)) (fq H b K):=⟨bY h⟩
theorem Mv.map {H:Hp} {b:Nat} {K:TypeId→AV→List AV→Prop} {e:TypeId} {d:AV} {es:List AV} (h:br H b=some (.row e 0 d (mapA es))):Mv (Go (K e d es)) (qF H b K):=⟨bX h⟩
theorem Mv.nC {α:Type} {x:Option α} {K:α→Prop} {a:α} (h:x=some a):Mv (Go (K a)) (iw x K):=⟨aV h⟩
theorem Mv.res {u:AV} {r:AV} (hf:cK 0 u):Mv (r=u) (PN (fun x=>x=u) r):=⟨PN.eq hf⟩
theorem Mv.lt {t:Bool} {A B:Prop} (ht:t=true):Mv (Go A) (fD t A B):=⟨bW ht⟩
theorem Mv.lf {t:Bool} {A B:Prop} (ht:t=false):Mv (Go B) (fD t A B):=⟨bV ht⟩
theorem Mv.gt {t w:Bool} {A B J:Prop} (ht:t=w):Mv (Go A) (eN t w A B J):=⟨bh ht⟩
theorem Mv.gf {t w:Bool} {A B J:Prop} (ht:t= !w):Mv (Go B) (eN t w A B J):=⟨bg ht⟩
theorem Mv.join {t w:Bool} {A B J:Prop}:Mv (Go J) (eN t w A B J):=⟨bS⟩
theorem aG {p q:Prop} (hq:q) (h:Mv q p:=by first|with_reducible (first|apply Mv.HD|apply Mv.nq|apply Mv.drawn)|((with_reducible apply Mv.rG);(·exact qa);(·exact qa))|((with_reducible apply Mv.rI);(·exact qa);(·exact qa))|(with_reducible apply Mv.AL)|((with_reducible apply Mv.row);exact bu)|((with_reducible apply Mv.map);exact bu)|((with_reducible apply Mv.nC);exact qx)|((with_reducible apply Mv.res);exact cE)):p:=h.go hq
theorem aC {p:Prop} (h:p:=by first|with_reducible (first|exact True.intro|exact aa)|((with_reducible refine YC.mk ?_);(try dsimp only);omega)|((with_reducible refine Ask.mk ?_);first|exact dv|exact dA)):p:=h
theorem gB {p:Prop} (h:p:=by first|with_reducible (first|exact True.intro|exact aa)|((with_reducible refine YC.mk ?_);(try dsimp only);omega)|((with_reducible refine Ask.mk ?_);exact dv)):p:=h
theorem aH {p q:Prop} (hq:q) (h:Mv q p:=by first|((with_reducible apply Mv.nC);exact UA)|(apply Mv.gt;exact rfl)|(apply Mv.gf;exact rfl)|(with_reducible apply Mv.join)|(apply Mv.lt;exact rfl)|(apply Mv.lf;exact rfl)):p:=h.go hq
section
variable {P:Program} {f:FuncId} {args:List AV} {H:Hp} {nx:Nat}
theorem aI {R:AV→Prop} (X:cr P f) (ha:Nat.ble args.length X.n=true) (h:Go (W P X.n 0 X.lc (iE 0 args) [] 0 (VL X.rs R))):Pure P f args R:=by
 obtain⟨fn,h1,h2,h3,h4,h5⟩:=X.ok
 exact bT h1 h2 h3 h4 h5 ha h
theorem aM {R:AV→Hp→Nat→Prop} (X:cr P f) (ha:Nat.ble args.length X.n=true) (h:Go (W P X.n nx X.lc (iE 0 args) H nx (s7 X.rs R))):cI P f args H nx R:=by
 obtain⟨fn,h1,h2,h3,h4,h5⟩:=X.ok
 exact bf h1 h2 h3 h4 h5 ha h
theorem aZ {r:AV} (X:cr P f) (ha:Nat.ble args.length X.n=true) (h:Go (W P X.n nx X.lc (iE 0 args) H nx (s7 X.rs (fun r' H' _=>r'=r∧∀b,b<nx→br H' b=br H b)))):vC P f args H nx r:=aM X ha h
structure Mk (C q p:Prop):Prop where
 go:C→q→p
theorem Mk.dF {r:AV} {K:AV→Hp→Nat→Prop} (hf:cW 0 args):Mk (Pure P f args (fun x=>x=r)) (Go (K r H nx)) (hX P f args H nx K):=⟨fun h hK=>aQ h hf hK⟩
theorem Mk.dD {g:Bool} {r:AV} {K:AV→Prop} (hf:cW 0 args):Mk (Pure P f args (fun x=>x=r)) (Go (K r)) (mq P g f args H nx K):=⟨fun h hK=>aP (fun _=>h) hf hK⟩
theorem Mk.dB {id:Nat} {r:AV} {K:AV→Option (Nat×eQ)→List Nat→Prop} (hf:cW 0 args):Mk (Pure P f args (fun x=>x=r)) (Go (K r none [])) (lB P id f args H K):=⟨fun h hK=>aN h hf hK⟩
theorem Mk.dC {g:Bool} {id:Nat} {r:AV} {K:AV→List Nat→Prop} (hf:cW 0 args):Mk (Pure P f args (fun x=>x=r)) (Go (K r [])) (tS P g id f args H K):=⟨fun h hK=>aO (fun _=>h) hf hK⟩
theorem Mk.lookW {r:AV} {K:AV→Hp→Nat→Prop} (hr:ft r):Mk (vC P f args H nx r) (Go (K r H nx)) (hX P f args H nx K):=⟨fun h hK=>aX h hr hK⟩
theorem Mk.fH {g:Bool} {r:AV} {K:AV→Prop} (hr:ft r):Mk (vC P f args H nx r) (Go (K r)) (mq P g f args H nx K):=⟨fun h hK=>aW (fun _=>h) hr hK⟩
end
theorem aK {C p q:Prop} (c:C) (hq:q) (h:Mk C q p:=by first|((with_reducible apply Mk.dF);exact cE)|((with_reducible apply Mk.dD);exact cE)|((with_reducible apply Mk.dB);exact cE)|((with_reducible apply Mk.dC);exact cE)|((with_reducible apply Mk.lookW);exact True.intro)|((with_reducible apply Mk.fH);exact True.intro)):p:=h.go c hq
end Go.cX
end
