import Derived.Test.YtmonponfppdgfaaGreatDoorProg
import Derived.Test.YtmonponfppdgfaaGreatDoorM10
namespace Go.Proofs.YtmonponfppdgfaaGreatDoor
open Go Go.dD Go.Proofs
set_option maxRecDepth 100000
def GP:eD Tryz.prog 51:=low Tryz.func51
def GQ:eD Tryz.prog 52:=low Tryz.func52
def GR:eD Tryz.prog 53:=low Tryz.func53
def GS:eD Tryz.prog 54:=low Tryz.func54
def GU:eD Tryz.prog 55:=low Tryz.func55
def GV:eD Tryz.prog 56:=low Tryz.func56
def GW:eD Tryz.prog 57:=low Tryz.func57
def GX:eD Tryz.prog 58:=low Tryz.func58
def GY:eD Tryz.prog 59:=low Tryz.func59
def GZ:eD Tryz.prog 60:=low Tryz.func60
def G1:eD Tryz.prog 61:=low Tryz.func61
def G2:eD Tryz.prog 62:=low Tryz.func62
def CT:eD Tryz.prog 63:=low Tryz.func63
def G3:eD Tryz.prog 64:=low Tryz.func64
def G4:eD Tryz.prog 65:=low Tryz.func65
def KF:eD Tryz.prog 66:=low Tryz.func66
def G5:eD Tryz.prog 67:=low Tryz.func67
def G6:eD Tryz.prog 68:=low Tryz.func68
def G7:eD Tryz.prog 69:=low Tryz.func69
def G8:eD Tryz.prog 70:=low Tryz.func70
def CU:eD Tryz.prog 71:=low Tryz.func71
def G9:eD Tryz.prog 72:=low Tryz.func72
def HA:eD Tryz.prog 73:=low Tryz.func73
def HB:eD Tryz.prog 74:=low Tryz.func74
def HC:eD Tryz.prog 75:=low Tryz.func75
def HD:eD Tryz.prog 76:=low Tryz.func76
def HE:eD Tryz.prog 77:=low Tryz.func77
def HF:eD Tryz.prog 78:=low Tryz.func78
def HG:eD Tryz.prog 79:=low Tryz.func79
def HH:eD Tryz.prog 80:=low Tryz.func80
def HJ:eD Tryz.prog 81:=low Tryz.func81
def HK:eD Tryz.prog 82:=low Tryz.func82
def HL:eD Tryz.prog 83:=low Tryz.func83
end Go.Proofs.YtmonponfppdgfaaGreatDoor
