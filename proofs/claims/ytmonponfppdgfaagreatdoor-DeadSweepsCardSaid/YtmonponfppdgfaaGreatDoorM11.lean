import Derived.Test.YtmonponfppdgfaaGreatDoorProg
import Derived.Test.YtmonponfppdgfaaGreatDoorM9
section
/- Lowered functions. -/
namespace Go.Proofs.YtmonponfppdgfaaGreatDoor
open Go Go.ch Go.Proofs
set_option maxRecDepth 100000
def EA:dw Tryz.prog 51:=low Tryz.func51
def EB:dw Tryz.prog 52:=low Tryz.func52
def EC:dw Tryz.prog 53:=low Tryz.func53
def ED:dw Tryz.prog 54:=low Tryz.func54
def EE:dw Tryz.prog 55:=low Tryz.func55
def EF:dw Tryz.prog 56:=low Tryz.func56
def EG:dw Tryz.prog 57:=low Tryz.func57
def EH:dw Tryz.prog 58:=low Tryz.func58
def EI:dw Tryz.prog 59:=low Tryz.func59
def EJ:dw Tryz.prog 60:=low Tryz.func60
def EK:dw Tryz.prog 61:=low Tryz.func61
def EL:dw Tryz.prog 62:=low Tryz.func62
def AQ:dw Tryz.prog 63:=low Tryz.func63
def EM:dw Tryz.prog 64:=low Tryz.func64
def EN:dw Tryz.prog 65:=low Tryz.func65
def HW:dw Tryz.prog 66:=low Tryz.func66
def EO:dw Tryz.prog 67:=low Tryz.func67
def EP:dw Tryz.prog 68:=low Tryz.func68
def ER:dw Tryz.prog 69:=low Tryz.func69
def ES:dw Tryz.prog 70:=low Tryz.func70
def AR:dw Tryz.prog 71:=low Tryz.func71
def ET:dw Tryz.prog 72:=low Tryz.func72
def EU:dw Tryz.prog 73:=low Tryz.func73
def EV:dw Tryz.prog 74:=low Tryz.func74
def EW:dw Tryz.prog 75:=low Tryz.func75
def EX:dw Tryz.prog 76:=low Tryz.func76
def EY:dw Tryz.prog 77:=low Tryz.func77
def EZ:dw Tryz.prog 78:=low Tryz.func78
def E0:dw Tryz.prog 79:=low Tryz.func79
def E1:dw Tryz.prog 80:=low Tryz.func80
def E3:dw Tryz.prog 81:=low Tryz.func81
def E4:dw Tryz.prog 82:=low Tryz.func82
def E5:dw Tryz.prog 83:=low Tryz.func83
end Go.Proofs.YtmonponfppdgfaaGreatDoor
end
