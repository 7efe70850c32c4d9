import Derived.Test.YtflicfkgbjmffaaGreatM18
section
/- Rows that are written no more, told as what is held by value. -/
namespace Go.Abs
open Go.RowKit
set_option linter.unusedSimpArgs false
set_option linter.unusedVariables false
section
variable {κ β:Type} [DecidableEq κ]
end
end Go.Abs
end
