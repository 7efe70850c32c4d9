import Derived.Test.YtjopoheligmmoaaGreatDoorM19
import Derived.Test.YtjopoheligmmoaaGreatDoorM10
namespace Go.cw
open Go.RowKit
theorem bX {H:Hp} {b:Nat} {K:TypeId->AV->List AV->Prop} {e:TypeId} {d:AV} {es:List AV} (h:bt H b=some (.row e 0 d (mapA es))) (k:Go (K e d es)):sD H b K:=sD.of h k
structure Mv (q p:Prop):Prop where
 go:q->p
theorem Mv.HT {tr:Tr} {ps:List (Nat×Nat)}:Mv (Go (EJ tr [] fun t=>C2 t ps)) (Ask (j5 tr.reverse ps)):=⟨aq⟩
theorem Mv.pd {P:Program} {n lo:Nat} {x:LC} {fr:Fr} {H:Hp} {nx:Nat} {Q:QT}:Mv (Go (W P n lo x fr H nx (jH (fun fr H nx=>ph P n lo x fr H nx Q) Q))) (ph P n lo x fr H nx Q):=⟨ax⟩
theorem Mv.drawn {P:Program} {segs:List tS} {fr:Fr} {H:Hp} {nx:Nat} {Q:QT}:Mv (Go (WS P nx segs [] fr H fun ov H' nx'=>Q .normal (iy ov fr) H' nx')) (gZ P segs fr H nx Q):=⟨bF⟩
theorem Mv.tf {g:Option Bool} {n:Int} {K:Int->Prop} (h1:Gd g->-9223372036854775808<=n) (h2:Gd g->n<9223372036854775808):Mv (Go (K n)) (vZ g .i64 n K):=⟨bD h1 h2⟩
theorem Mv.tg {g:Option Bool} {n:Int} {K:Int->Prop} (h1:Gd g->0<=n) (h2:Gd g->n<256):Mv (Go (K n)) (vZ g .u8 n K):=⟨bE h1 h2⟩
theorem Mv.CE {g:Option Bool} {k:IntKind} {n:Int} {K:Int->Prop}:Mv (Go (K (k.wrap n))) (vZ g k n K):=⟨bP⟩
theorem Mv.row {H:Hp} {b:Nat} {K:TypeId->Nat->AV->List AV->Prop} {e:TypeId} {sz:Nat} {d:AV} {es:List AV} (h:bt H b=some (.row e sz d es)):Mv (Go (K e sz d es)) (gx H b K):=⟨bZ h⟩
theorem Mv.map {H:Hp} {b:Nat} {K:TypeId->AV->List AV->Prop} {e:TypeId} {d:AV} {es:List AV} (h:bt H b=some (.row e 0 d (mapA es))):Mv (Go (K e d es)) (sD H b K):=⟨bX h⟩
theorem Mv.nU {α:Type} {x:Option α} {K:α->Prop} {a:α} (h:x=some a):Mv (Go (K a)) (jx x K):=⟨aT h⟩
theorem Mv.res {u:AV} {r:AV} (hf:cH 0 u):Mv (r=u) (PF (fun x=>x=u) r):=⟨PF.eq hf⟩
theorem Mv.lt {t:Bool} {A B:Prop} (ht:t=true):Mv (Go A) (fj t A B):=⟨bW ht⟩
theorem Mv.lf {t:Bool} {A B:Prop} (ht:t=false):Mv (Go B) (fj t A B):=⟨bV ht⟩
theorem Mv.gt {t w:Bool} {A B J:Prop} (ht:t=w):Mv (Go A) (eu t w A B J):=⟨bj ht⟩
theorem Mv.gf {t w:Bool} {A B J:Prop} (ht:t= !w):Mv (Go B) (eu t w A B J):=⟨bh ht⟩
theorem Mv.join {t w:Bool} {A B J:Prop}:Mv (Go J) (eu t w A B J):=⟨bS⟩
theorem Mv.id {p:Prop}:Mv p p:=⟨fun h=>h⟩
theorem Mv.tr {q r p:Prop} (s:Mv r p) (k:Mv q r):Mv q p:=⟨fun h=>s.go (k.go h)⟩
theorem G.red {q p p2:Prop} (e:p=p2) (k:Mv q p2):Mv q (Go p):=Mv.tr (⟨fun h=>by subst e;exact h⟩:Mv p2 (Go p)) k
theorem aQ {p q:Prop} (hq:q) (h:Mv q p:=by first|((with_reducible apply G.red);(·conv=>lhs;whnf);exact Mv.id)|with_reducible (first|apply Mv.HT|apply Mv.pd|apply Mv.drawn)|((with_reducible apply Mv.tf);(·exact sf);(·exact sf))|((with_reducible apply Mv.tg);(·exact sf);(·exact sf))|(with_reducible apply Mv.CE)|((with_reducible apply Mv.row);exact bu)|((with_reducible apply Mv.map);exact bu)|((with_reducible apply Mv.nU);exact tT)|((with_reducible apply Mv.res);exact cJ)):p:=h.go hq
theorem aC {p:Prop} (h:p:=by first|with_reducible (first|exact True.intro|exact aZ)|((with_reducible refine ZW.mk ?_);(try dsimp only);omega)|((with_reducible refine Ask.mk ?_);first|exact dJ|exact cj)):p:=h
theorem eh {p:Prop} (h:p:=by first|with_reducible (first|exact True.intro|exact aZ)|((with_reducible refine ZW.mk ?_);(try dsimp only);omega)|((with_reducible refine Ask.mk ?_);exact dJ)):p:=h
theorem aE {t:Bool} {A B P Q:Prop} (h1:P->Go A) (h2:Q->Go B) (e1:(t=true)=P:=by first|(conv=>lhs;simp only[List.length_map,ne_eq,qq])|exact rfl) (e2:(t=false)=Q:=by first|(conv=>lhs;simp only[List.length_map,ne_eq,qq])|exact rfl):fj t A B:=aV (fun h=>h1 (e1▸h)) (fun h=>h2 (e2▸h))
theorem aH {p q:Prop} (hq:q) (h:Mv q p:=by first|((with_reducible apply Mv.nU);exact S5)|(apply Mv.gt;exact rfl)|(apply Mv.gf;exact rfl)|(with_reducible apply Mv.join)|(apply Mv.lt;exact rfl)|(apply Mv.lf;exact rfl)):p:=h.go hq
section
variable {P:Program} {f:FuncId} {args:List AV} {H:Hp} {nx:Nat}
theorem aD {R:AV->Prop} (X:dw P f) (ha:Nat.ble args.length X.n=true) (h:Go (W P X.n 0 X.lc (kG 0 args) [] 0 (UI X.rs R))):Pure P f args R:=by
 obtain⟨fn,h1,h2,h3,h4,h5⟩:=X.ok
 exact bT h1 h2 h3 h4 h5 ha h
theorem aJ {R:AV->Hp->Nat->Prop} (X:dw P f) (ha:Nat.ble args.length X.n=true) (h:Go (W P X.n nx X.lc (kG 0 args) H nx (vD X.rs R))):cU P f args H nx R:=by
 obtain⟨fn,h1,h2,h3,h4,h5⟩:=X.ok
 exact bg h1 h2 h3 h4 h5 ha h
theorem aY {r:AV} (X:dw P f) (ha:Nat.ble args.length X.n=true) (h:Go (W P X.n nx X.lc (kG 0 args) H nx (vD X.rs (fun r' H' _=>r'=r/\∀b,b<nx->bt H' b=bt H b)))):xT P f args H nx r:=aJ X ha h
structure Mk (C q p:Prop):Prop where
 go:C->q->p
theorem Mk.dG {r:AV} {K:AV->Hp->Nat->Prop} (hf:c8 0 args):Mk (Pure P f args (fun x=>x=r)) (Go (K r H nx)) (iR P f args H nx K):=⟨fun h hK=>aN h hf hK⟩
theorem Mk.dB {g:Bool} {r:AV} {K:AV->Prop} (hf:c8 0 args):Mk (Pure P f args (fun x=>x=r)) (Go (K r)) (oo P g f args H nx K):=⟨fun h hK=>aI (fun _=>h) hf hK⟩
theorem Mk.dE {id:Nat} {r:AV} {K:AV->Option (Nat×fH)->List Nat->Prop} (hf:c8 0 args):Mk (Pure P f args (fun x=>x=r)) (Go (K r none [])) (kU P id f args H K):=⟨fun h hK=>aL h hf hK⟩
theorem Mk.dF {g:Bool} {id:Nat} {r:AV} {K:AV->List Nat->Prop} (hf:c8 0 args):Mk (Pure P f args (fun x=>x=r)) (Go (K r [])) (wB P g id f args H K):=⟨fun h hK=>aM (fun _=>h) hf hK⟩
theorem Mk.lookW {r:AV} {K:AV->Hp->Nat->Prop} (hr:gT r):Mk (xT P f args H nx r) (Go (K r H nx)) (iR P f args H nx K):=⟨fun h hK=>aX h hr hK⟩
theorem Mk.fx {g:Bool} {r:AV} {K:AV->Prop} (hr:gT r):Mk (xT P f args H nx r) (Go (K r)) (oo P g f args H nx K):=⟨fun h hK=>aW (fun _=>h) hr hK⟩
end
theorem aK {C p q:Prop} (c:C) (hq:q) (h:Mk C q p:=by first|((with_reducible apply Mk.dG);exact cJ)|((with_reducible apply Mk.dB);exact cJ)|((with_reducible apply Mk.dE);exact cJ)|((with_reducible apply Mk.dF);exact cJ)|((with_reducible apply Mk.lookW);exact True.intro)|((with_reducible apply Mk.fx);exact True.intro)):p:=h.go c hq
end Go.cw
