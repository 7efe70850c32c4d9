import Derived.Test.YtjopoheligmmoaaGreatDoorM29
namespace Go.cw
open Go.RowKit
set_option linter.unusedSimpArgs false
set_option linter.unusedVariables false
end Go.cw
