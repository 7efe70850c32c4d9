import Derived.Test.YtjopoheligmmoaaGreatDoorM19
import Derived.Test.YtjopoheligmmoaaGreatDoorM10
namespace Go.dA
open Go.RowKit
theorem bf {H:Hp} {b:Nat} {K:TypeId->AV->List AV->Prop} {e:TypeId} {d:AV} {es:List AV} (h:cC H b=some (.row e 0 d (mapA es))) (k:Go (K e d es)):sA H b K:=sA.of h k
structure Mv (q p:Prop):Prop where
 go:q->p
theorem Mv.HM {tr:Tr} {ps:List (Nat×Nat)}:Mv (Go (D7 tr [] fun t=>CN t ps)) (Ask (j3 tr.reverse ps)):=⟨bC⟩
theorem Mv.pa {P:Program} {n lo:Nat} {x:LC} {fr:Fr} {H:Hp} {nx:Nat} {Q:QT}:Mv (Go (W P n lo x fr H nx (jA (fun fr H nx=>pd P n lo x fr H nx Q) Q))) (pd P n lo x fr H nx Q):=⟨bF⟩
theorem Mv.drawn {P:Program} {segs:List vD} {fr:Fr} {H:Hp} {nx:Nat} {Q:QT}:Mv (Go (WS P nx segs [] fr H fun ov H' nx'=>Q .normal (iV ov fr) H' nx')) (jC P segs fr H nx Q):=⟨bL⟩
theorem Mv.tJ {g:Option Bool} {n:Int} {K:Int->Prop} (h1:Gd g->-9223372036854775808<=n) (h2:Gd g->n<9223372036854775808):Mv (Go (K n)) (vA g .i64 n K):=⟨bJ h1 h2⟩
theorem Mv.tK {g:Option Bool} {n:Int} {K:Int->Prop} (h1:Gd g->0<=n) (h2:Gd g->n<256):Mv (Go (K n)) (vA g .u8 n K):=⟨bK h1 h2⟩
theorem Mv.BY {g:Option Bool} {k:IntKind} {n:Int} {K:Int->Prop}:Mv (Go (K (k.wrap n))) (vA g k n K):=⟨bV⟩
theorem Mv.row {H:Hp} {b:Nat} {K:TypeId->Nat->AV->List AV->Prop} {e:TypeId} {sz:Nat} {d:AV} {es:List AV} (h:cC H b=some (.row e sz d es)):Mv (Go (K e sz d es)) (gn H b K):=⟨bh h⟩
theorem Mv.map {H:Hp} {b:Nat} {K:TypeId->AV->List AV->Prop} {e:TypeId} {d:AV} {es:List AV} (h:cC H b=some (.row e 0 d (mapA es))):Mv (Go (K e d es)) (sA H b K):=⟨bf h⟩
theorem Mv.l6 {α:Type} {x:Option α} {K:α->Prop} {a:α} (h:x=some a):Mv (Go (K a)) (kE x K):=⟨aZ h⟩
theorem Mv.res {u:AV} {r:AV} (hf:cP 0 u):Mv (r=u) (KS (fun x=>x=u) r):=⟨KS.eq hf⟩
theorem Mv.lt {t:Bool} {A B:Prop} (ht:t=true):Mv (Go A) (fb t A B):=⟨bd ht⟩
theorem Mv.lf {t:Bool} {A B:Prop} (ht:t=false):Mv (Go B) (fb t A B):=⟨bc ht⟩
theorem Mv.gt {t w:Bool} {A B J:Prop} (ht:t=w):Mv (Go A) (ez t w A B J):=⟨bu ht⟩
theorem Mv.gf {t w:Bool} {A B J:Prop} (ht:t= !w):Mv (Go B) (ez t w A B J):=⟨bt ht⟩
theorem Mv.join {t w:Bool} {A B J:Prop}:Mv (Go J) (ez t w A B J):=⟨bY⟩
theorem Mv.id {p:Prop}:Mv p p:=⟨fun h=>h⟩
theorem Mv.tr {q r p:Prop} (s:Mv r p) (k:Mv q r):Mv q p:=⟨fun h=>s.go (k.go h)⟩
theorem G.red {q p p2:Prop} (e:p=p2) (k:Mv q p2):Mv q (Go p):=Mv.tr (⟨fun h=>by subst e;exact h⟩:Mv p2 (Go p)) k
theorem aQ {p q:Prop} (hq:q) (h:Mv q p:=by first|((with_reducible apply G.red);(·conv=>lhs;whnf);exact Mv.id)|with_reducible (first|apply Mv.HM|apply Mv.pa|apply Mv.drawn)|((with_reducible apply Mv.tJ);(·exact sX);(·exact sX))|((with_reducible apply Mv.tK);(·exact sX);(·exact sX))|(with_reducible apply Mv.BY)|((with_reducible apply Mv.row);exact cE)|((with_reducible apply Mv.map);exact cE)|((with_reducible apply Mv.l6);exact tB)|((with_reducible apply Mv.res);exact cN)):p:=h.go hq
theorem aC {p:Prop} (h:p:=by first|with_reducible (first|exact True.intro|exact aj)|((with_reducible refine ZI.mk ?_);(try dsimp only);omega)|((with_reducible refine Ask.mk ?_);first|exact cw|exact cX)):p:=h
theorem eE {p:Prop} (h:p:=by first|with_reducible (first|exact True.intro|exact aj)|((with_reducible refine ZI.mk ?_);(try dsimp only);omega)|((with_reducible refine Ask.mk ?_);exact cw)):p:=h
theorem aE {t:Bool} {A B P Q:Prop} (h1:P->Go A) (h2:Q->Go B) (e1:(t=true)=P:=by first|(conv=>lhs;simp only[List.length_map,ne_eq,ot])|exact rfl) (e2:(t=false)=Q:=by first|(conv=>lhs;simp only[List.length_map,ne_eq,ot])|exact rfl):fb t A B:=aY (fun h=>h1 (e1▸h)) (fun h=>h2 (e2▸h))
theorem aH {p q:Prop} (hq:q) (h:Mv q p:=by first|((with_reducible apply Mv.l6);exact SU)|(apply Mv.gt;exact rfl)|(apply Mv.gf;exact rfl)|(with_reducible apply Mv.join)|(apply Mv.lt;exact rfl)|(apply Mv.lf;exact rfl)):p:=h.go hq
section
variable {P:Program} {f:FuncId} {args:List AV} {H:Hp} {nx:Nat}
theorem aG {R:AV->Prop} (X:eB P f) (ha:Nat.ble args.length X.n=true) (h:Go (W P X.n 0 X.lc (kI 0 args) [] 0 (T8 X.rs R))):Pure P f args R:=by
 obtain⟨fn,h1,h2,h3,h4,h5⟩:=X.ok
 exact bZ h1 h2 h3 h4 h5 ha h
theorem aM {R:AV->Hp->Nat->Prop} (X:eB P f) (ha:Nat.ble args.length X.n=true) (h:Go (W P X.n nx X.lc (kI 0 args) H nx (ua X.rs R))):cT P f args H nx R:=by
 obtain⟨fn,h1,h2,h3,h4,h5⟩:=X.ok
 exact br h1 h2 h3 h4 h5 ha h
theorem ai {r:AV} (X:eB P f) (ha:Nat.ble args.length X.n=true) (h:Go (W P X.n nx X.lc (kI 0 args) H nx (ua X.rs (fun r' H' _=>r'=r/\∀b,b<nx->cC H' b=cC H b)))):xD P f args H nx r:=aM X ha h
structure Mk (C q p:Prop):Prop where
 go:C->q->p
theorem Mk.dH {r:AV} {K:AV->Hp->Nat->Prop} (hf:cg 0 args):Mk (Pure P f args (fun x=>x=r)) (Go (K r H nx)) (jL P f args H nx K):=⟨fun h hK=>aP h hf hK⟩
theorem Mk.dB {g:Bool} {r:AV} {K:AV->Prop} (hf:cg 0 args):Mk (Pure P f args (fun x=>x=r)) (Go (K r)) (oh P g f args H nx K):=⟨fun h hK=>aL (fun _=>h) hf hK⟩
theorem Mk.dF {id:Nat} {r:AV} {K:AV->Option (Nat×fD)->List Nat->Prop} (hf:cg 0 args):Mk (Pure P f args (fun x=>x=r)) (Go (K r none [])) (kR P id f args H K):=⟨fun h hK=>aN h hf hK⟩
theorem Mk.dG {g:Bool} {id:Nat} {r:AV} {K:AV->List Nat->Prop} (hf:cg 0 args):Mk (Pure P f args (fun x=>x=r)) (Go (K r [])) (vX P g id f args H K):=⟨fun h hK=>aO (fun _=>h) hf hK⟩
theorem Mk.lookW {r:AV} {K:AV->Hp->Nat->Prop} (hr:fu r):Mk (xD P f args H nx r) (Go (K r H nx)) (jL P f args H nx K):=⟨fun h hK=>af h hr hK⟩
theorem Mk.fm {g:Bool} {r:AV} {K:AV->Prop} (hr:fu r):Mk (xD P f args H nx r) (Go (K r)) (oh P g f args H nx K):=⟨fun h hK=>aa (fun _=>h) hr hK⟩
end
theorem aK {C p q:Prop} (c:C) (hq:q) (h:Mk C q p:=by first|((with_reducible apply Mk.dH);exact cN)|((with_reducible apply Mk.dB);exact cN)|((with_reducible apply Mk.dF);exact cN)|((with_reducible apply Mk.dG);exact cN)|((with_reducible apply Mk.lookW);exact True.intro)|((with_reducible apply Mk.fm);exact True.intro)):p:=h.go c hq
end Go.dA
