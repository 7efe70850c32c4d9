import Derived.Test.YtekfmjjmihomlaaGreatDoorM18
import Derived.Test.YtekfmjjmihomlaaGreatDoorM10
namespace Go.cw
open Go.RowKit
theorem bU {H:Hp} {b:Nat} {K:TypeId->AV->List AV->Prop} {e:TypeId} {d:AV} {es:List AV} (h:bo H b=some (.row e 0 d (mapA es))) (k:Go (K e d es)):rQ H b K:=rQ.of h k
structure Mv (q p:Prop):Prop where
 go:q->p
theorem Mv.DC {tr:Tr} {ps:List (Nat×Nat)}:Mv (Go (EX tr [] fun t=>DD t ps)) (Ask (iy tr.reverse ps)):=⟨ai⟩
theorem Mv.pI {P:Program} {n lo:Nat} {x:LC} {fr:Fr} {H:Hp} {nx:Nat} {Q:QT}:Mv (Go (W P n lo x fr H nx (jt (fun fr H nx=>pP P n lo x fr H nx Q) Q))) (pP P n lo x fr H nx Q):=⟨ak⟩
theorem Mv.drawn {P:Program} {segs:List ss} {fr:Fr} {H:Hp} {nx:Nat} {Q:QT}:Mv (Go (WS P nx segs [] fr H fun ov H' nx'=>Q .normal (iT ov fr) H' nx')) (iZ P segs fr H nx Q):=⟨ay⟩
theorem Mv.tG {g:Option Bool} {n:Int} {K:Int->Prop} (h1:Gd g->-9223372036854775808<=n) (h2:Gd g->n<9223372036854775808):Mv (Go (K n)) (vI g .i64 n K):=⟨au h1 h2⟩
theorem Mv.tH {g:Option Bool} {n:Int} {K:Int->Prop} (h1:Gd g->0<=n) (h2:Gd g->n<256):Mv (Go (K n)) (vI g .u8 n K):=⟨ax h1 h2⟩
theorem Mv.CU {g:Option Bool} {k:IntKind} {n:Int} {K:Int->Prop}:Mv (Go (K (k.wrap n))) (vI g k n K):=⟨bK⟩
theorem Mv.row {H:Hp} {b:Nat} {K:TypeId->Nat->AV->List AV->Prop} {e:TypeId} {sz:Nat} {d:AV} {es:List AV} (h:bo H b=some (.row e sz d es)):Mv (Go (K e sz d es)) (gU H b K):=⟨bW h⟩
theorem Mv.map {H:Hp} {b:Nat} {K:TypeId->AV->List AV->Prop} {e:TypeId} {d:AV} {es:List AV} (h:bo H b=some (.row e 0 d (mapA es))):Mv (Go (K e d es)) (rQ H b K):=⟨bU h⟩
theorem Mv.rj {α:Type} {x:Option α} {K:α->Prop} {a:α} (h:x=some a):Mv (Go (K a)) (jd x K):=⟨az h⟩
theorem Mv.res {u:AV} {r:AV} (hf:cF 0 u):Mv (r=u) (FQ (fun x=>x=u) r):=⟨FQ.eq hf⟩
theorem Mv.lt {t:Bool} {A B:Prop} (ht:t=true):Mv (Go A) (fV t A B):=⟨bT ht⟩
theorem Mv.lf {t:Bool} {A B:Prop} (ht:t=false):Mv (Go B) (fV t A B):=⟨bS ht⟩
theorem Mv.gt {t w:Bool} {A B J:Prop} (ht:t=w):Mv (Go A) (eN t w A B J):=⟨bf ht⟩
theorem Mv.gf {t w:Bool} {A B J:Prop} (ht:t= !w):Mv (Go B) (eN t w A B J):=⟨bd ht⟩
theorem Mv.join {t w:Bool} {A B J:Prop}:Mv (Go J) (eN t w A B J):=⟨bP⟩
theorem Mv.id {p:Prop}:Mv p p:=⟨fun h=>h⟩
theorem Mv.tr {q r p:Prop} (s:Mv r p) (k:Mv q r):Mv q p:=⟨fun h=>s.go (k.go h)⟩
theorem G.red {q p p2:Prop} (e:p=p2) (k:Mv q p2):Mv q (Go p):=Mv.tr (⟨fun h=>by subst e;exact h⟩:Mv p2 (Go p)) k
theorem aQ {p q:Prop} (hq:q) (h:Mv q p:=by first|((with_reducible apply G.red);(·conv=>lhs;whnf);exact Mv.id)|with_reducible (first|apply Mv.DC|apply Mv.pI|apply Mv.drawn)|((with_reducible apply Mv.tG);(·exact sL);(·exact sL))|((with_reducible apply Mv.tH);(·exact sL);(·exact sL))|(with_reducible apply Mv.CU)|((with_reducible apply Mv.row);exact bt)|((with_reducible apply Mv.map);exact bt)|((with_reducible apply Mv.rj);exact su)|((with_reducible apply Mv.res);exact cH)):p:=h.go hq
theorem aC {p:Prop} (h:p:=by first|with_reducible (first|exact True.intro|exact aX)|((with_reducible refine YQ.mk ?_);(try dsimp only);omega)|((with_reducible refine Ask.mk ?_);first|exact cW|exact cJ)):p:=h
theorem dR {p:Prop} (h:p:=by first|with_reducible (first|exact True.intro|exact aX)|((with_reducible refine YQ.mk ?_);(try dsimp only);omega)|((with_reducible refine Ask.mk ?_);exact cW)):p:=h
theorem aE {t:Bool} {A B P Q:Prop} (h1:P->Go A) (h2:Q->Go B) (e1:(t=true)=P:=by first|(conv=>lhs;simp only[List.length_map,ne_eq,zV])|exact rfl) (e2:(t=false)=Q:=by first|(conv=>lhs;simp only[List.length_map,ne_eq,zV])|exact rfl):fV t A B:=bL (fun h=>h1 (e1▸h)) (fun h=>h2 (e2▸h))
theorem aH {p q:Prop} (hq:q) (h:Mv q p:=by first|((with_reducible apply Mv.rj);exact U6)|(apply Mv.gt;exact rfl)|(apply Mv.gf;exact rfl)|(with_reducible apply Mv.join)|(apply Mv.lt;exact rfl)|(apply Mv.lf;exact rfl)):p:=h.go hq
section
variable {P:Program} {f:FuncId} {args:List AV} {H:Hp} {nx:Nat}
theorem aD {R:AV->Prop} (X:dX P f) (ha:Nat.ble args.length X.n=true) (h:Go (W P X.n 0 X.lc (kH 0 args) [] 0 (V7 X.rs R))):Pure P f args R:=by
 obtain⟨fn,h1,h2,h3,h4,h5⟩:=X.ok
 exact bQ h1 h2 h3 h4 h5 ha h
theorem aJ {R:AV->Hp->Nat->Prop} (X:dX P f) (ha:Nat.ble args.length X.n=true) (h:Go (W P X.n nx X.lc (kH 0 args) H nx (G4 X.rs R))):cQ P f args H nx R:=by
 obtain⟨fn,h1,h2,h3,h4,h5⟩:=X.ok
 exact bc h1 h2 h3 h4 h5 ha h
theorem aV {r:AV} (X:dX P f) (ha:Nat.ble args.length X.n=true) (h:Go (W P X.n nx X.lc (kH 0 args) H nx (G4 X.rs (fun r' H' _=>r'=r/\∀b,b<nx->bo H' b=bo H b)))):kU P f args H nx r:=aJ X ha h
structure Mk (C q p:Prop):Prop where
 go:C->q->p
theorem Mk.dF {r:AV} {K:AV->Hp->Nat->Prop} (hf:cT 0 args):Mk (Pure P f args (fun x=>x=r)) (Go (K r H nx)) (jE P f args H nx K):=⟨fun h hK=>aO h hf hK⟩
theorem Mk.dE {g:Bool} {r:AV} {K:AV->Prop} (hf:cT 0 args):Mk (Pure P f args (fun x=>x=r)) (Go (K r)) (pN P g f args H nx K):=⟨fun h hK=>aN (fun _=>h) hf hK⟩
theorem Mk.dC {id:Nat} {r:AV} {K:AV->Option (Nat×fA)->List Nat->Prop} (hf:cT 0 args):Mk (Pure P f args (fun x=>x=r)) (Go (K r none [])) (mI P id f args H K):=⟨fun h hK=>aL h hf hK⟩
theorem Mk.dD {g:Bool} {id:Nat} {r:AV} {K:AV->List Nat->Prop} (hf:cT 0 args):Mk (Pure P f args (fun x=>x=r)) (Go (K r [])) (sk P g id f args H K):=⟨fun h hK=>aM (fun _=>h) hf hK⟩
theorem Mk.lookW {r:AV} {K:AV->Hp->Nat->Prop} (hr:jJ r):Mk (kU P f args H nx r) (Go (K r H nx)) (jE P f args H nx K):=⟨fun h hK=>aS h hr hK⟩
theorem Mk.eQ {g:Bool} {r:AV} {K:AV->Prop} (hr:jJ r):Mk (kU P f args H nx r) (Go (K r)) (pN P g f args H nx K):=⟨fun h hK=>aR (fun _=>h) hr hK⟩
end
theorem aK {C p q:Prop} (c:C) (hq:q) (h:Mk C q p:=by first|((with_reducible apply Mk.dF);exact cH)|((with_reducible apply Mk.dE);exact cH)|((with_reducible apply Mk.dC);exact cH)|((with_reducible apply Mk.dD);exact cH)|((with_reducible apply Mk.lookW);exact True.intro)|((with_reducible apply Mk.eQ);exact True.intro)):p:=h.go c hq
end Go.cw
