import Derived.Test.YtjopoheligmmoaaGreatDoorM31
section
/- Calls that are handed values alone, and hand back a row of their own making, whatever values stand in it. -/
namespace Go.cZ
open Go.RowKit
set_option linter.unusedSimpArgs false
set_option linter.unusedVariables false
end Go.cZ
end
