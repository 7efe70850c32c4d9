import Derived.Test.YtmonponfppdgfaaGreatDoorM18
section
/- A stretch whose order is drawn and in which calls act: told by what holds when just these have come up. -/
set_option linter.unusedSimpArgs false
set_option linter.unusedVariables false
namespace Go.dD
open Go.RowKit
def J2 (gs:List iT) (ps:List (Nat×Nat)) (i j:Nat):Bool:=
 !uu (gs.getD i default) (gs.getD j default)||((((gs.getD i default).op.wr&&(gs.getD j default).op.rd)||((gs.getD i default).op.rd&&(gs.getD j default).op.wr))&& !ps.contains (i,j))
def NP (P:Program) (gs:List iT) (ps:List (Nat×Nat)) (I:(Nat->Bool)->Fr->Hp->Nat->Prop):Prop:=
 ∀i g L fr H nx,gs[i]?=some g->L i=false->(∀j,j<i->J2 gs ps j i=true->L j=true)->(∀j,i<j->j<gs.length->J2 gs ps i j=true->L j=false)->I L fr H nx->
  cz fr g.guard (fK P nx fr H g.op fun r H' nx'=>I (fun k=>L k||k==i) (gP fr g.dst r) H' nx') (I (fun k=>L k||k==i) (gP fr g.dst (.sc undef)) H (nx+1))
end Go.dD
end
