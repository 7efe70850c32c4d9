/- The document's answers; copies of executions. -/
import Derived.Test.YtncllkpekbapjaaOx
import Derived.Test.YtncllkpekbapjaaOm
import Derived.Test.YtncllkpekbapjaaAbsZ
namespace Go.Proofs.Ytncllkpekbapjaa
open Go Go.Abs Go.Proofs
set_option linter.unusedSimpArgs false
set_option linter.unusedVariables false
@[simp] theorem fit_imF (n : Nat) (l : List Int) : fitA n (imF l) := by simp [imF, fitA, fitL, fitL_map]
theorem le_lstF (c : Cx) (l : List Int) : AVle c c (lstAv l) (imF l) := by
  unfold lstAv
  split
  · rename_i h; subst h; exact AVle.nilIm c c 1 _
  · exact fun _ h => h
end Go.Proofs.Ytncllkpekbapjaa
