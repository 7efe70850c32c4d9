/- Executions that are the same; the law OrderChecks. -/
import Derived.Test.YtncllkpekbapjaaOy
namespace Go.Proofs.Ytncllkpekbapjaa
open Go Go.Abs Go.Proofs
set_option linter.unusedSimpArgs false
set_option linter.unusedVariables false
theorem ext_getD {α : Type} {l m : List α} (d : α) (hl : l.length = m.length) (h : ∀ j, j < l.length → l.getD j d = m.getD j d) : l = m :=
  List.ext_getElem hl fun j h1 h2 => by have := h j h1; simpa [List.getD, h1, h2] using this
end Go.Proofs.Ytncllkpekbapjaa
