/- The line with a heap is the greedy one. -/
import Derived.Test.YtncllkpekbapjaaPa
namespace Go.Proofs.Ytncllkpekbapjaa
open Go Go.Abs Go.Proofs
set_option linter.unusedSimpArgs false
set_option linter.unusedVariables false
def preds (n : Nat) (M : Mat) (D : Nat → Bool) (b : Nat) : Nat := (List.range n).countP fun k => M k b && !D k
end Go.Proofs.Ytncllkpekbapjaa
