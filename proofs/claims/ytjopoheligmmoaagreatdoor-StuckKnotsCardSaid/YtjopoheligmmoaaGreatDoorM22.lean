import Derived.Test.YtjopoheligmmoaaGreatDoorM19
import Derived.Test.YtjopoheligmmoaaGreatDoorM10
namespace Go.cu
open Go.RowKit
theorem bY {H:Hp} {b:Nat} {K:TypeId->AV->List AV->Prop} {e:TypeId} {d:AV} {es:List AV} (h:bu H b=some (.row e 0 d (mapA es))) (k:Go (K e d es)):qw H b K:=qw.of h k
structure Mv (q p:Prop):Prop where
 go:q->p
theorem Mv.FT {tr:Tr} {ps:List (Nat×Nat)}:Mv (Go (CS tr [] fun t=>BC t ps)) (Ask (jP tr.reverse ps)):=⟨ar⟩
theorem Mv.ow {P:Program} {n lo:Nat} {x:LC} {fr:Fr} {H:Hp} {nx:Nat} {Q:QT}:Mv (Go (W P n lo x fr H nx (ic (fun fr H nx=>pA P n lo x fr H nx Q) Q))) (pA P n lo x fr H nx Q):=⟨ay⟩
theorem Mv.drawn {P:Program} {segs:List sM} {fr:Fr} {H:Hp} {nx:Nat} {Q:QT}:Mv (Go (WS P nx segs [] fr H fun ov H' nx'=>Q .normal (iP ov fr) H' nx')) (gL P segs fr H nx Q):=⟨bG⟩
theorem Mv.sW {g:Option Bool} {n:Int} {K:Int->Prop} (h1:Gd g->-9223372036854775808<=n) (h2:Gd g->n<9223372036854775808):Mv (Go (K n)) (uP g .i64 n K):=⟨bE h1 h2⟩
theorem Mv.sX {g:Option Bool} {n:Int} {K:Int->Prop} (h1:Gd g->0<=n) (h2:Gd g->n<256):Mv (Go (K n)) (uP g .u8 n K):=⟨bF h1 h2⟩
theorem Mv.AM {g:Option Bool} {k:IntKind} {n:Int} {K:Int->Prop}:Mv (Go (K (k.wrap n))) (uP g k n K):=⟨bQ⟩
theorem Mv.row {H:Hp} {b:Nat} {K:TypeId->Nat->AV->List AV->Prop} {e:TypeId} {sz:Nat} {d:AV} {es:List AV} (h:bu H b=some (.row e sz d es)):Mv (Go (K e sz d es)) (gk H b K):=⟨ba h⟩
theorem Mv.map {H:Hp} {b:Nat} {K:TypeId->AV->List AV->Prop} {e:TypeId} {d:AV} {es:List AV} (h:bu H b=some (.row e 0 d (mapA es))):Mv (Go (K e d es)) (qw H b K):=⟨bY h⟩
theorem Mv.mh {α:Type} {x:Option α} {K:α->Prop} {a:α} (h:x=some a):Mv (Go (K a)) (jf x K):=⟨aU h⟩
theorem Mv.res {u:AV} {r:AV} (hf:cK 0 u):Mv (r=u) (M3 (fun x=>x=u) r):=⟨M3.eq hf⟩
theorem Mv.lt {t:Bool} {A B:Prop} (ht:t=true):Mv (Go A) (fX t A B):=⟨bX ht⟩
theorem Mv.lf {t:Bool} {A B:Prop} (ht:t=false):Mv (Go B) (fX t A B):=⟨bW ht⟩
theorem Mv.gt {t w:Bool} {A B J:Prop} (ht:t=w):Mv (Go A) (ee t w A B J):=⟨bk ht⟩
theorem Mv.gf {t w:Bool} {A B J:Prop} (ht:t= !w):Mv (Go B) (ee t w A B J):=⟨bj ht⟩
theorem Mv.join {t w:Bool} {A B J:Prop}:Mv (Go J) (ee t w A B J):=⟨bT⟩
theorem Mv.id {p:Prop}:Mv p p:=⟨fun h=>h⟩
theorem Mv.tr {q r p:Prop} (s:Mv r p) (k:Mv q r):Mv q p:=⟨fun h=>s.go (k.go h)⟩
theorem G.red {q p p2:Prop} (e:p=p2) (k:Mv q p2):Mv q (Go p):=Mv.tr (⟨fun h=>by subst e;exact h⟩:Mv p2 (Go p)) k
theorem aQ {p q:Prop} (hq:q) (h:Mv q p:=by first|((with_reducible apply G.red);(·conv=>lhs;whnf);exact Mv.id)|with_reducible (first|apply Mv.FT|apply Mv.ow|apply Mv.drawn)|((with_reducible apply Mv.sW);(·exact rj);(·exact rj))|((with_reducible apply Mv.sX);(·exact rj);(·exact rj))|(with_reducible apply Mv.AM)|((with_reducible apply Mv.row);exact bx)|((with_reducible apply Mv.map);exact bx)|((with_reducible apply Mv.mh);exact sN)|((with_reducible apply Mv.res);exact cI)):p:=h.go hq
theorem aC {p:Prop} (h:p:=by first|with_reducible (first|exact True.intro|exact aa)|((with_reducible refine XA.mk ?_);(try dsimp only);omega)|((with_reducible refine Ask.mk ?_);first|exact dE|exact cd)):p:=h
theorem eY {p:Prop} (h:p:=by first|with_reducible (first|exact True.intro|exact aa)|((with_reducible refine XA.mk ?_);(try dsimp only);omega)|((with_reducible refine Ask.mk ?_);exact dE)):p:=h
theorem aE {t:Bool} {A B P Q:Prop} (h1:P->Go A) (h2:Q->Go B) (e1:(t=true)=P:=by first|(conv=>lhs;simp only[List.length_map,ne_eq,qP])|exact rfl) (e2:(t=false)=Q:=by first|(conv=>lhs;simp only[List.length_map,ne_eq,qP])|exact rfl):fX t A B:=aW (fun h=>h1 (e1▸h)) (fun h=>h2 (e2▸h))
theorem aH {p q:Prop} (hq:q) (h:Mv q p:=by first|((with_reducible apply Mv.mh);exact QL)|(apply Mv.gt;exact rfl)|(apply Mv.gf;exact rfl)|(with_reducible apply Mv.join)|(apply Mv.lt;exact rfl)|(apply Mv.lf;exact rfl)):p:=h.go hq
section
variable {P:Program} {f:FuncId} {args:List AV} {H:Hp} {nx:Nat}
theorem aD {R:AV->Prop} (X:eB P f) (ha:Nat.ble args.length X.n=true) (h:Go (W P X.n 0 X.lc (jq 0 args) [] 0 (R1 X.rs R))):Pure P f args R:=by
 obtain⟨fn,h1,h2,h3,h4,h5⟩:=X.ok
 exact bU h1 h2 h3 h4 h5 ha h
theorem aI {R:AV->Hp->Nat->Prop} (X:eB P f) (ha:Nat.ble args.length X.n=true) (h:Go (W P X.n nx X.lc (jq 0 args) H nx (tv X.rs R))):cS P f args H nx R:=by
 obtain⟨fn,h1,h2,h3,h4,h5⟩:=X.ok
 exact bh h1 h2 h3 h4 h5 ha h
theorem aZ {r:AV} (X:eB P f) (ha:Nat.ble args.length X.n=true) (h:Go (W P X.n nx X.lc (jq 0 args) H nx (tv X.rs (fun r' H' _=>r'=r/\∀b,b<nx->bu H' b=bu H b)))):wH P f args H nx r:=aI X ha h
structure Mk (C q p:Prop):Prop where
 go:C->q->p
theorem Mk.dC {r:AV} {K:AV->Hp->Nat->Prop} (hf:cX 0 args):Mk (Pure P f args (fun x=>x=r)) (Go (K r H nx)) (jB P f args H nx K):=⟨fun h hK=>aM h hf hK⟩
theorem Mk.cw {g:Bool} {r:AV} {K:AV->Prop} (hf:cX 0 args):Mk (Pure P f args (fun x=>x=r)) (Go (K r)) (oA P g f args H nx K):=⟨fun h hK=>aG (fun _=>h) hf hK⟩
theorem Mk.dA {id:Nat} {r:AV} {K:AV->Option (Nat×fC)->List Nat->Prop} (hf:cX 0 args):Mk (Pure P f args (fun x=>x=r)) (Go (K r none [])) (mA P id f args H K):=⟨fun h hK=>aJ h hf hK⟩
theorem Mk.dB {g:Bool} {id:Nat} {r:AV} {K:AV->List Nat->Prop} (hf:cX 0 args):Mk (Pure P f args (fun x=>x=r)) (Go (K r [])) (ui P g id f args H K):=⟨fun h hK=>aL (fun _=>h) hf hK⟩
theorem Mk.lookW {r:AV} {K:AV->Hp->Nat->Prop} (hr:gN r):Mk (wH P f args H nx r) (Go (K r H nx)) (jB P f args H nx K):=⟨fun h hK=>aY h hr hK⟩
theorem Mk.fi {g:Bool} {r:AV} {K:AV->Prop} (hr:gN r):Mk (wH P f args H nx r) (Go (K r)) (oA P g f args H nx K):=⟨fun h hK=>aX (fun _=>h) hr hK⟩
end
theorem aK {C p q:Prop} (c:C) (hq:q) (h:Mk C q p:=by first|((with_reducible apply Mk.dC);exact cI)|((with_reducible apply Mk.cw);exact cI)|((with_reducible apply Mk.dA);exact cI)|((with_reducible apply Mk.dB);exact cI)|((with_reducible apply Mk.lookW);exact True.intro)|((with_reducible apply Mk.fi);exact True.intro)):p:=h.go c hq
end Go.cu
