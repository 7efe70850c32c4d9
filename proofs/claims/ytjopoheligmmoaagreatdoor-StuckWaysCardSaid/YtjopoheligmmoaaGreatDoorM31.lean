import Derived.Test.YtjopoheligmmoaaGreatDoorProg
import Derived.Test.YtjopoheligmmoaaGreatDoorM10
namespace Go.Proofs.YtjopoheligmmoaaGreatDoor
open Go Go.cw Go.Proofs
set_option maxRecDepth 100000
def SL:dw Tryz.prog 180:=low Tryz.func180
end Go.Proofs.YtjopoheligmmoaaGreatDoor
