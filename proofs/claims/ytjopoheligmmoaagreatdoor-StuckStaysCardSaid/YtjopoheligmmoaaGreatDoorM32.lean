import Derived.Test.YtjopoheligmmoaaGreatDoorProg
import Derived.Test.YtjopoheligmmoaaGreatDoorM10
namespace Go.Proofs.YtjopoheligmmoaaGreatDoor
open Go Go.cp Go.Proofs
set_option maxRecDepth 100000
def NT:eF Tryz.prog 180:=low Tryz.func180
end Go.Proofs.YtjopoheligmmoaaGreatDoor
