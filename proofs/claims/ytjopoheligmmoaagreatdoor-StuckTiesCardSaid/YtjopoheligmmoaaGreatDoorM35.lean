import Derived.Test.YtjopoheligmmoaaGreatDoorProg
import Derived.Test.YtjopoheligmmoaaGreatDoorM10
section
/- A lowered function. -/
namespace Go.Proofs.YtjopoheligmmoaaGreatDoor
open Go Go.cY Go.Proofs
set_option maxRecDepth 100000
def UH:cu Tryz.prog 180:=low Tryz.func180
end Go.Proofs.YtjopoheligmmoaaGreatDoor
end
