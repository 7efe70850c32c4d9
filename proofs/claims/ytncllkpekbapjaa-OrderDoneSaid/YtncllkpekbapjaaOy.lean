/- The document's answers; copies of executions. -/
import Derived.Test.YtncllkpekbapjaaOx
import Derived.Test.YtncllkpekbapjaaOm
import Derived.Test.YtncllkpekbapjaaAbsZ
namespace Go.Proofs.Ytncllkpekbapjaa
open Go Go.Abs Go.Proofs
set_option linter.unusedSimpArgs false
set_option linter.unusedVariables false
@[simp] theorem fit_imF (n : Nat) (l : List Int) : fitA n (imF l) := by simp [imF, fitA, fitL, fitL_map]
end Go.Proofs.Ytncllkpekbapjaa
