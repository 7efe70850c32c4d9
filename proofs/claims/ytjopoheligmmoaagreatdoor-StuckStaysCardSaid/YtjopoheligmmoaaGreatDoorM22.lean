import Derived.Test.YtjopoheligmmoaaGreatDoorM19
import Derived.Test.YtjopoheligmmoaaGreatDoorM10
namespace Go.cp
open Go.RowKit
theorem bZ {H:Hp} {b:Nat} {K:TypeId->AV->List AV->Prop} {e:TypeId} {d:AV} {es:List AV} (h:bw H b=some (.row e 0 d (mapA es))) (k:Go (K e d es)):qH H b K:=qH.of h k
structure Mv (q p:Prop):Prop where
 go:q->p
theorem Mv.DN {tr:Tr} {ps:List (Nat×Nat)}:Mv (Go (AQ tr [] fun t=>zP t ps)) (Ask (iO tr.reverse ps)):=⟨ar⟩
theorem Mv.nq {P:Program} {n lo:Nat} {x:LC} {fr:Fr} {H:Hp} {nx:Nat} {Q:QT}:Mv (Go (W P n lo x fr H nx (gw (fun fr H nx=>nu P n lo x fr H nx Q) Q))) (nu P n lo x fr H nx Q):=⟨ay⟩
theorem Mv.drawn {P:Program} {segs:List tG} {fr:Fr} {H:Hp} {nx:Nat} {Q:QT}:Mv (Go (WS P nx segs [] fr H fun ov H' nx'=>Q .normal (gk ov fr) H' nx')) (gx P segs fr H nx Q):=⟨bG⟩
theorem Mv.rG {g:Option Bool} {n:Int} {K:Int->Prop} (h1:Gd g->-9223372036854775808<=n) (h2:Gd g->n<9223372036854775808):Mv (Go (K n)) (tC g .i64 n K):=⟨bE h1 h2⟩
theorem Mv.rI {g:Option Bool} {n:Int} {K:Int->Prop} (h1:Gd g->0<=n) (h2:Gd g->n<256):Mv (Go (K n)) (tC g .u8 n K):=⟨bF h1 h2⟩
theorem Mv.yn {g:Option Bool} {k:IntKind} {n:Int} {K:Int->Prop}:Mv (Go (K (k.wrap n))) (tC g k n K):=⟨bR⟩
theorem Mv.row {H:Hp} {b:Nat} {K:TypeId->Nat->AV->List AV->Prop} {e:TypeId} {sz:Nat} {d:AV} {es:List AV} (h:bw H b=some (.row e sz d es)):Mv (Go (K e sz d es)) (fy H b K):=⟨bc h⟩
theorem Mv.map {H:Hp} {b:Nat} {K:TypeId->AV->List AV->Prop} {e:TypeId} {d:AV} {es:List AV} (h:bw H b=some (.row e 0 d (mapA es))):Mv (Go (K e d es)) (qH H b K):=⟨bZ h⟩
theorem Mv.nG {α:Type} {x:Option α} {K:α->Prop} {a:α} (h:x=some a):Mv (Go (K a)) (jB x K):=⟨aW h⟩
theorem Mv.res {u:AV} {r:AV} (hf:cK 0 u):Mv (r=u) (KK (fun x=>x=u) r):=⟨KK.eq hf⟩
theorem Mv.lt {t:Bool} {A B:Prop} (ht:t=true):Mv (Go A) (fF t A B):=⟨bY ht⟩
theorem Mv.lf {t:Bool} {A B:Prop} (ht:t=false):Mv (Go B) (fF t A B):=⟨bX ht⟩
theorem Mv.gt {t w:Bool} {A B J:Prop} (ht:t=w):Mv (Go A) (eR t w A B J):=⟨bn ht⟩
theorem Mv.gf {t w:Bool} {A B J:Prop} (ht:t= !w):Mv (Go B) (eR t w A B J):=⟨bk ht⟩
theorem Mv.join {t w:Bool} {A B J:Prop}:Mv (Go J) (eR t w A B J):=⟨bU⟩
theorem Mv.id {p:Prop}:Mv p p:=⟨fun h=>h⟩
theorem Mv.tr {q r p:Prop} (s:Mv r p) (k:Mv q r):Mv q p:=⟨fun h=>s.go (k.go h)⟩
theorem G.red {q p p2:Prop} (e:p=p2) (k:Mv q p2):Mv q (Go p):=Mv.tr (⟨fun h=>by subst e;exact h⟩:Mv p2 (Go p)) k
theorem aQ {p q:Prop} (hq:q) (h:Mv q p:=by first|((with_reducible apply G.red);(·conv=>lhs;whnf);exact Mv.id)|with_reducible (first|apply Mv.DN|apply Mv.nq|apply Mv.drawn)|((with_reducible apply Mv.rG);(·exact q8);(·exact q8))|((with_reducible apply Mv.rI);(·exact q8);(·exact q8))|(with_reducible apply Mv.yn)|((with_reducible apply Mv.row);exact cA)|((with_reducible apply Mv.map);exact cA)|((with_reducible apply Mv.nG);exact qx)|((with_reducible apply Mv.res);exact cH)):p:=h.go hq
theorem aC {p:Prop} (h:p:=by first|with_reducible (first|exact True.intro|exact af)|((with_reducible refine TY.mk ?_);(try dsimp only);omega)|((with_reducible refine Ask.mk ?_);first|exact dy|exact dC)):p:=h
theorem gH {p:Prop} (h:p:=by first|with_reducible (first|exact True.intro|exact af)|((with_reducible refine TY.mk ?_);(try dsimp only);omega)|((with_reducible refine Ask.mk ?_);exact dy)):p:=h
theorem aE {t:Bool} {A B P Q:Prop} (h1:P->Go A) (h2:Q->Go B) (e1:(t=true)=P:=by first|(conv=>lhs;simp only[List.length_map,ne_eq,pc])|exact rfl) (e2:(t=false)=Q:=by first|(conv=>lhs;simp only[List.length_map,ne_eq,pc])|exact rfl):fF t A B:=aV (fun h=>h1 (e1▸h)) (fun h=>h2 (e2▸h))
theorem aH {p q:Prop} (hq:q) (h:Mv q p:=by first|((with_reducible apply Mv.nG);exact N7)|(apply Mv.gt;exact rfl)|(apply Mv.gf;exact rfl)|(with_reducible apply Mv.join)|(apply Mv.lt;exact rfl)|(apply Mv.lf;exact rfl)):p:=h.go hq
section
variable {P:Program} {f:FuncId} {args:List AV} {H:Hp} {nx:Nat}
theorem aG {R:AV->Prop} (X:eF P f) (ha:Nat.ble args.length X.n=true) (h:Go (W P X.n 0 X.lc (jI 0 args) [] 0 (PF X.rs R))):Pure P f args R:=by
 obtain⟨fn,h1,h2,h3,h4,h5⟩:=X.ok
 exact bV h1 h2 h3 h4 h5 ha h
theorem aJ {R:AV->Hp->Nat->Prop} (X:eF P f) (ha:Nat.ble args.length X.n=true) (h:Go (W P X.n nx X.lc (jI 0 args) H nx (sd X.rs R))):cO P f args H nx R:=by
 obtain⟨fn,h1,h2,h3,h4,h5⟩:=X.ok
 exact bj h1 h2 h3 h4 h5 ha h
theorem aa {r:AV} (X:eF P f) (ha:Nat.ble args.length X.n=true) (h:Go (W P X.n nx X.lc (jI 0 args) H nx (sd X.rs (fun r' H' _=>r'=r/\∀b,b<nx->bw H' b=bw H b)))):vC P f args H nx r:=aJ X ha h
structure Mk (C q p:Prop):Prop where
 go:C->q->p
theorem Mk.dG {r:AV} {K:AV->Hp->Nat->Prop} (hf:c8 0 args):Mk (Pure P f args (fun x=>x=r)) (Go (K r H nx)) (iE P f args H nx K):=⟨fun h hK=>aP h hf hK⟩
theorem Mk.dF {g:Bool} {r:AV} {K:AV->Prop} (hf:c8 0 args):Mk (Pure P f args (fun x=>x=r)) (Go (K r)) (nB P g f args H nx K):=⟨fun h hK=>aO (fun _=>h) hf hK⟩
theorem Mk.dD {id:Nat} {r:AV} {K:AV->Option (Nat×e8)->List Nat->Prop} (hf:c8 0 args):Mk (Pure P f args (fun x=>x=r)) (Go (K r none [])) (lL P id f args H K):=⟨fun h hK=>aM h hf hK⟩
theorem Mk.dE {g:Bool} {id:Nat} {r:AV} {K:AV->List Nat->Prop} (hf:c8 0 args):Mk (Pure P f args (fun x=>x=r)) (Go (K r [])) (tX P g id f args H K):=⟨fun h hK=>aN (fun _=>h) hf hK⟩
theorem Mk.lookW {r:AV} {K:AV->Hp->Nat->Prop} (hr:fT r):Mk (vC P f args H nx r) (Go (K r H nx)) (iE P f args H nx K):=⟨fun h hK=>aY h hr hK⟩
theorem Mk.fM {g:Bool} {r:AV} {K:AV->Prop} (hr:fT r):Mk (vC P f args H nx r) (Go (K r)) (nB P g f args H nx K):=⟨fun h hK=>aX (fun _=>h) hr hK⟩
end
theorem aK {C p q:Prop} (c:C) (hq:q) (h:Mk C q p:=by first|((with_reducible apply Mk.dG);exact cH)|((with_reducible apply Mk.dF);exact cH)|((with_reducible apply Mk.dD);exact cH)|((with_reducible apply Mk.dE);exact cH)|((with_reducible apply Mk.lookW);exact True.intro)|((with_reducible apply Mk.fM);exact True.intro)):p:=h.go c hq
end Go.cp
