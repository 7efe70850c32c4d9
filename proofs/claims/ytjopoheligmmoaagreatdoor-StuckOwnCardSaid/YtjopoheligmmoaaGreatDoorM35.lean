import Derived.Test.YtjopoheligmmoaaGreatDoorProg
import Derived.Test.YtjopoheligmmoaaGreatDoorM10
section
/- A lowered function. -/
namespace Go.Proofs.YtjopoheligmmoaaGreatDoor
open Go Go.cZ Go.Proofs
set_option maxRecDepth 100000
def UU:cu Tryz.prog 180:=low Tryz.func180
end Go.Proofs.YtjopoheligmmoaaGreatDoor
end
