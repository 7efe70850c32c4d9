import Derived.Test.YtekfmjjmihomlaaGreatDoorProg
import Derived.Test.YtekfmjjmihomlaaGreatDoorM10
namespace Go.Proofs.YtekfmjjmihomlaaGreatDoor
open Go Go.cw Go.Proofs
set_option maxRecDepth 100000
def X2:dX Tryz.prog 65:=low Tryz.func65
end Go.Proofs.YtekfmjjmihomlaaGreatDoor
