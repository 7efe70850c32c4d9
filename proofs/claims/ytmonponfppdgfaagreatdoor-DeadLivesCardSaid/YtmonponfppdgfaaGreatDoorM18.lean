import Derived.Test.YtmonponfppdgfaaGreatDoorM17
section
/- A stretch whose order is drawn and in which calls act: told by what holds when just these have come up. -/
set_option linter.unusedSimpArgs false
set_option linter.unusedVariables false
namespace Go.Abs
open Go.RowKit
def depT (gs:List GOp) (ps:List (Nat × Nat)) (i j:Nat):Bool :=
 !apartT (gs.getD i default) (gs.getD j default) || ((((gs.getD i default).op.wr && (gs.getD j default).op.rd) || ((gs.getD i default).op.rd && (gs.getD j default).op.wr)) && !ps.contains (i,j))
def Wild (P:Program) (gs:List GOp) (ps:List (Nat × Nat)) (I:(Nat→Bool)→Fr→Hp→Nat→Prop):Prop :=
 ∀ i g L fr H nx,gs[i]? = some g→L i = false→(∀ j,j < i→depT gs ps j i = true→L j = true)→(∀ j,i < j→j < gs.length→depT gs ps i j = true→L j = false)→I L fr H nx →
  GuardK fr g.guard (StepN P nx fr H g.op fun r H' nx' => I (fun k => L k || k == i) (putF fr g.dst r) H' nx') (I (fun k => L k || k == i) (putF fr g.dst (.sc undef)) H (nx + 1))
end Go.Abs
end
