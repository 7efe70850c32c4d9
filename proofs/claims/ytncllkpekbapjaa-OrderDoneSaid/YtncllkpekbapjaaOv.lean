/- The document's arrows, and its line. -/
import Derived.Test.YtncllkpekbapjaaOu
namespace Go.Proofs.Ytncllkpekbapjaa
open Go Go.Abs Go.Proofs
set_option linter.unusedSimpArgs false
set_option linter.unusedVariables false
end Go.Proofs.Ytncllkpekbapjaa
