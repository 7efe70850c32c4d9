/- What is plain is tso, what is tso is coherent. -/
import Derived.Test.YtncllkpekbapjaaOm
namespace Go.Proofs.Ytncllkpekbapjaa
open Go Go.Abs Go.Proofs
set_option linter.unusedSimpArgs false
set_option linter.unusedVariables false
end Go.Proofs.Ytncllkpekbapjaa
