import Derived.Test.YtmonponfppdgfaaGreatDoorM18
import Derived.Test.YtmonponfppdgfaaGreatDoorM10
namespace Go.dD
open Go.RowKit
theorem bH {H:Hp} {b:Nat} {K:TypeId->AV->List AV->Prop} {e:TypeId} {d:AV} {es:List AV} (h:bk H b=some (.row e 0 d (mapA es))) (k:Go (K e d es)):ph H b K:=ph.of h k
structure Mv (q p:Prop):Prop where
 go:q->p
theorem Mv.AU {tr:Tr} {ps:List (Nat×Nat)}:Mv (Go (zg tr [] fun t=>y9 t ps)) (Ask (iw tr.reverse ps)):=⟨ae⟩
theorem Mv.pe {P:Program} {n lo:Nat} {x:LC} {fr:Fr} {H:Hp} {nx:Nat} {Q:QT}:Mv (Go (W P n lo x fr H nx (jv (fun fr H nx=>oH P n lo x fr H nx Q) Q))) (oH P n lo x fr H nx Q):=⟨af⟩
theorem Mv.drawn {P:Program} {segs:List uj} {fr:Fr} {H:Hp} {nx:Nat} {Q:QT}:Mv (Go (WS P nx segs [] fr H fun ov H' nx'=>Q .normal (iS ov fr) H' nx')) (lE P segs fr H nx Q):=⟨aj⟩
theorem Mv.tg {g:Option Bool} {n:Int} {K:Int->Prop} (h1:Gd g->-9223372036854775808<=n) (h2:Gd g->n<9223372036854775808):Mv (Go (K n)) (su g .i64 n K):=⟨ah h1 h2⟩
theorem Mv.th {g:Option Bool} {n:Int} {K:Int->Prop} (h1:Gd g->0<=n) (h2:Gd g->n<256):Mv (Go (K n)) (su g .u8 n K):=⟨ai h1 h2⟩
theorem Mv.BL {g:Option Bool} {k:IntKind} {n:Int} {K:Int->Prop}:Mv (Go (K (k.wrap n))) (su g k n K):=⟨ar⟩
theorem Mv.row {H:Hp} {b:Nat} {K:TypeId->Nat->AV->List AV->Prop} {e:TypeId} {sz:Nat} {d:AV} {es:List AV} (h:bk H b=some (.row e sz d es)):Mv (Go (K e sz d es)) (gq H b K):=⟨bJ h⟩
theorem Mv.map {H:Hp} {b:Nat} {K:TypeId->AV->List AV->Prop} {e:TypeId} {d:AV} {es:List AV} (h:bk H b=some (.row e 0 d (mapA es))):Mv (Go (K e d es)) (ph H b K):=⟨bH h⟩
theorem Mv.nP {α:Type} {x:Option α} {K:α->Prop} {a:α} (h:x=some a):Mv (Go (K a)) (jj x K):=⟨aW h⟩
theorem Mv.res {u:AV} {r:AV} (hf:cJ 0 u):Mv (r=u) (vg (fun x=>x=u) r):=⟨vg.eq hf⟩
theorem Mv.lt {t:Bool} {A B:Prop} (ht:t=true):Mv (Go A) (fc t A B):=⟨bG ht⟩
theorem Mv.lf {t:Bool} {A B:Prop} (ht:t=false):Mv (Go B) (fc t A B):=⟨bF ht⟩
theorem Mv.gt {t w:Bool} {A B J:Prop} (ht:t=w):Mv (Go A) (du t w A B J):=⟨bP ht⟩
theorem Mv.gf {t w:Bool} {A B J:Prop} (ht:t= !w):Mv (Go B) (du t w A B J):=⟨bO ht⟩
theorem Mv.join {t w:Bool} {A B J:Prop}:Mv (Go J) (du t w A B J):=⟨ay⟩
theorem Mv.id {p:Prop}:Mv p p:=⟨fun h=>h⟩
theorem Mv.tr {q r p:Prop} (s:Mv r p) (k:Mv q r):Mv q p:=⟨fun h=>s.go (k.go h)⟩
theorem G.red {q p p2:Prop} (e:p=p2) (k:Mv q p2):Mv q (Go p):=Mv.tr (⟨fun h=>by subst e;exact h⟩:Mv p2 (Go p)) k
theorem aQ {p q:Prop} (hq:q) (h:Mv q p:=by first|((with_reducible apply G.red);(·conv=>lhs;whnf);exact Mv.id)|with_reducible (first|apply Mv.AU|apply Mv.pe|apply Mv.drawn)|((with_reducible apply Mv.tg);(·exact vo);(·exact vo))|((with_reducible apply Mv.th);(·exact vo);(·exact vo))|(with_reducible apply Mv.BL)|((with_reducible apply Mv.row);exact bm)|((with_reducible apply Mv.map);exact bm)|((with_reducible apply Mv.nP);exact yV)|((with_reducible apply Mv.res);exact cS)):p:=h.go hq
theorem aC {p:Prop} (h:p:=by first|with_reducible (first|exact True.intro|exact aZ)|((with_reducible refine OR.mk ?_);(try dsimp only);omega)|((with_reducible refine Ask.mk ?_);first|exact bx|exact bt)):p:=h
theorem cP {p:Prop} (h:p:=by first|with_reducible (first|exact True.intro|exact aZ)|((with_reducible refine OR.mk ?_);(try dsimp only);omega)|((with_reducible refine Ask.mk ?_);exact bx)):p:=h
theorem aE {t:Bool} {A B P Q:Prop} (h1:P->Go A) (h2:Q->Go B) (e1:(t=true)=P:=by first|(conv=>lhs;simp only[List.length_map,ne_eq,yO])|exact rfl) (e2:(t=false)=Q:=by first|(conv=>lhs;simp only[List.length_map,ne_eq,yO])|exact rfl):fc t A B:=au (fun h=>h1 (e1▸h)) (fun h=>h2 (e2▸h))
theorem aH {p q:Prop} (hq:q) (h:Mv q p:=by first|((with_reducible apply Mv.nP);exact NQ)|(apply Mv.gt;exact rfl)|(apply Mv.gf;exact rfl)|(with_reducible apply Mv.join)|(apply Mv.lt;exact rfl)|(apply Mv.lf;exact rfl)):p:=h.go hq
section
variable {P:Program} {f:FuncId} {args:List AV} {H:Hp} {nx:Nat}
theorem aG {R:AV->Prop} (X:eD P f) (ha:Nat.ble args.length X.n=true) (h:Go (W P X.n 0 X.lc (kK 0 args) [] 0 (MW X.rs R))):Pure P f args R:=by
 obtain⟨fn,h1,h2,h3,h4,h5⟩:=X.ok
 exact az h1 h2 h3 h4 h5 ha h
theorem aI {R:AV->Hp->Nat->Prop} (X:eD P f) (ha:Nat.ble args.length X.n=true) (h:Go (W P X.n nx X.lc (kK 0 args) H nx (A4 X.rs R))):cM P f args H nx R:=by
 obtain⟨fn,h1,h2,h3,h4,h5⟩:=X.ok
 exact bN h1 h2 h3 h4 h5 ha h
theorem aT {r:AV} (X:eD P f) (ha:Nat.ble args.length X.n=true) (h:Go (W P X.n nx X.lc (kK 0 args) H nx (A4 X.rs (fun r' H' _=>r'=r/\∀b,b<nx->bk H' b=bk H b)))):kW P f args H nx r:=aI X ha h
structure Mk (C q p:Prop):Prop where
 go:C->q->p
theorem Mk.dv {r:AV} {K:AV->Hp->Nat->Prop} (hf:cL 0 args):Mk (Pure P f args (fun x=>x=r)) (Go (K r H nx)) (jY P f args H nx K):=⟨fun h hK=>aM h hf hK⟩
theorem Mk.dY {g:Bool} {r:AV} {K:AV->Prop} (hf:cL 0 args):Mk (Pure P f args (fun x=>x=r)) (Go (K r)) (oF P g f args H nx K):=⟨fun h hK=>aL (fun _=>h) hf hK⟩
theorem Mk.dy {id:Nat} {r:AV} {K:AV->Option (Nat×eO)->List Nat->Prop} (hf:cL 0 args):Mk (Pure P f args (fun x=>x=r)) (Go (K r none [])) (l6 P id f args H K):=⟨fun h hK=>aN h hf hK⟩
theorem Mk.dz {g:Bool} {id:Nat} {r:AV} {K:AV->List Nat->Prop} (hf:cL 0 args):Mk (Pure P f args (fun x=>x=r)) (Go (K r [])) (qv P g id f args H K):=⟨fun h hK=>aO (fun _=>h) hf hK⟩
theorem Mk.lookW {r:AV} {K:AV->Hp->Nat->Prop} (hr:gL r):Mk (kW P f args H nx r) (Go (K r H nx)) (jY P f args H nx K):=⟨fun h hK=>aS h hr hK⟩
theorem Mk.fS {g:Bool} {r:AV} {K:AV->Prop} (hr:gL r):Mk (kW P f args H nx r) (Go (K r)) (oF P g f args H nx K):=⟨fun h hK=>aR (fun _=>h) hr hK⟩
end
theorem aK {C p q:Prop} (c:C) (hq:q) (h:Mk C q p:=by first|((with_reducible apply Mk.dv);exact cS)|((with_reducible apply Mk.dY);exact cS)|((with_reducible apply Mk.dy);exact cS)|((with_reducible apply Mk.dz);exact cS)|((with_reducible apply Mk.lookW);exact True.intro)|((with_reducible apply Mk.fS);exact True.intro)):p:=h.go c hq
end Go.dD
