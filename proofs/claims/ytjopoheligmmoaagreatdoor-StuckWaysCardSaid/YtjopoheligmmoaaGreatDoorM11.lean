import Derived.Test.YtjopoheligmmoaaGreatDoorProg
import Derived.Test.YtjopoheligmmoaaGreatDoorM10
namespace Go.Proofs.YtjopoheligmmoaaGreatDoor
open Go Go.cw Go.Proofs
set_option maxRecDepth 100000
def lf5:dw Tryz.prog 5:=low Tryz.func5
def aAJ:dw Tryz.prog 13:=low Tryz.func13
def aAK:dw Tryz.prog 18:=low Tryz.func18
def aAL:dw Tryz.prog 20:=low Tryz.func20
def aAM:dw Tryz.prog 21:=low Tryz.func21
def YV:dw Tryz.prog 23:=low Tryz.func23
def YW:dw Tryz.prog 24:=low Tryz.func24
def T4:dw Tryz.prog 25:=low Tryz.func25
def YX:dw Tryz.prog 26:=low Tryz.func26
def aAN:dw Tryz.prog 27:=low Tryz.func27
def aAO:dw Tryz.prog 30:=low Tryz.func30
def YY:dw Tryz.prog 31:=low Tryz.func31
def aAP:dw Tryz.prog 32:=low Tryz.func32
def aAQ:dw Tryz.prog 33:=low Tryz.func33
def aAR:dw Tryz.prog 35:=low Tryz.func35
def aAS:dw Tryz.prog 36:=low Tryz.func36
def aAT:dw Tryz.prog 37:=low Tryz.func37
def aAU:dw Tryz.prog 39:=low Tryz.func39
def aAV:dw Tryz.prog 40:=low Tryz.func40
def aAW:dw Tryz.prog 41:=low Tryz.func41
def YZ:dw Tryz.prog 44:=low Tryz.func44
def aAX:dw Tryz.prog 47:=low Tryz.func47
def Y0:dw Tryz.prog 48:=low Tryz.func48
def aAY:dw Tryz.prog 49:=low Tryz.func49
def Y1:dw Tryz.prog 50:=low Tryz.func50
def aAZ:dw Tryz.prog 51:=low Tryz.func51
def Y2:dw Tryz.prog 52:=low Tryz.func52
def Y3:dw Tryz.prog 54:=low Tryz.func54
def Y4:dw Tryz.prog 55:=low Tryz.func55
def aA0:dw Tryz.prog 56:=low Tryz.func56
def aA1:dw Tryz.prog 57:=low Tryz.func57
def aA2:dw Tryz.prog 58:=low Tryz.func58
def aA3:dw Tryz.prog 59:=low Tryz.func59
def aA4:dw Tryz.prog 60:=low Tryz.func60
def aA5:dw Tryz.prog 61:=low Tryz.func61
def T5:dw Tryz.prog 62:=low Tryz.func62
def aA6:dw Tryz.prog 63:=low Tryz.func63
def aA7:dw Tryz.prog 64:=low Tryz.func64
def aA8:dw Tryz.prog 65:=low Tryz.func65
def aA9:dw Tryz.prog 66:=low Tryz.func66
def aAa:dw Tryz.prog 67:=low Tryz.func67
def aAb:dw Tryz.prog 68:=low Tryz.func68
def NJ:dw Tryz.prog 69:=low Tryz.func69
def aAc:dw Tryz.prog 70:=low Tryz.func70
end Go.Proofs.YtjopoheligmmoaaGreatDoor
