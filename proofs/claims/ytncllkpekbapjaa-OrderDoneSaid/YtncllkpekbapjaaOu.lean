/- The document's Check. -/
import Derived.Test.YtncllkpekbapjaaOt
namespace Go.Proofs.Ytncllkpekbapjaa
open Go Go.Abs Go.Proofs
set_option linter.unusedSimpArgs false
set_option linter.unusedVariables false
end Go.Proofs.Ytncllkpekbapjaa
