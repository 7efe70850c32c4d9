import Derived.Test.YtmonponfppdgfaaGreatDoorProg
import Derived.Test.YtmonponfppdgfaaGreatDoorM9
section
/- Lowered functions. -/
namespace Go.Proofs.YtmonponfppdgfaaGreatDoor
open Go Go.ck Go.Proofs
set_option maxRecDepth 100000
def D6:dv Tryz.prog 51:=low Tryz.func51
def D7:dv Tryz.prog 52:=low Tryz.func52
def D8:dv Tryz.prog 53:=low Tryz.func53
def D9:dv Tryz.prog 54:=low Tryz.func54
def EA:dv Tryz.prog 55:=low Tryz.func55
def EB:dv Tryz.prog 56:=low Tryz.func56
def EC:dv Tryz.prog 57:=low Tryz.func57
def ED:dv Tryz.prog 58:=low Tryz.func58
def EE:dv Tryz.prog 59:=low Tryz.func59
def EF:dv Tryz.prog 60:=low Tryz.func60
def EG:dv Tryz.prog 61:=low Tryz.func61
def EH:dv Tryz.prog 62:=low Tryz.func62
def AK:dv Tryz.prog 63:=low Tryz.func63
def EI:dv Tryz.prog 64:=low Tryz.func64
def EJ:dv Tryz.prog 65:=low Tryz.func65
def HT:dv Tryz.prog 66:=low Tryz.func66
def EK:dv Tryz.prog 67:=low Tryz.func67
def EL:dv Tryz.prog 68:=low Tryz.func68
def EM:dv Tryz.prog 69:=low Tryz.func69
def EN:dv Tryz.prog 70:=low Tryz.func70
def AL:dv Tryz.prog 71:=low Tryz.func71
def EO:dv Tryz.prog 72:=low Tryz.func72
def EP:dv Tryz.prog 73:=low Tryz.func73
def ER:dv Tryz.prog 74:=low Tryz.func74
def ES:dv Tryz.prog 75:=low Tryz.func75
def ET:dv Tryz.prog 76:=low Tryz.func76
def EU:dv Tryz.prog 77:=low Tryz.func77
def EV:dv Tryz.prog 78:=low Tryz.func78
def EW:dv Tryz.prog 79:=low Tryz.func79
def EX:dv Tryz.prog 80:=low Tryz.func80
def EY:dv Tryz.prog 81:=low Tryz.func81
def EZ:dv Tryz.prog 82:=low Tryz.func82
def E0:dv Tryz.prog 83:=low Tryz.func83
end Go.Proofs.YtmonponfppdgfaaGreatDoor
end
