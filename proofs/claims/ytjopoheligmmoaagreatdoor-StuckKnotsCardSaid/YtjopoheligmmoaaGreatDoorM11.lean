import Derived.Test.YtjopoheligmmoaaGreatDoorProg
import Derived.Test.YtjopoheligmmoaaGreatDoorM10
namespace Go.Proofs.YtjopoheligmmoaaGreatDoor
open Go Go.cu Go.Proofs
set_option maxRecDepth 100000
def ZP:eB Tryz.prog 4:=low Tryz.func4
def XX:eB Tryz.prog 13:=low Tryz.func13
def XY:eB Tryz.prog 18:=low Tryz.func18
def XZ:eB Tryz.prog 20:=low Tryz.func20
def RL:eB Tryz.prog 21:=low Tryz.func21
def RM:eB Tryz.prog 22:=low Tryz.func22
def V1:eB Tryz.prog 23:=low Tryz.func23
def RN:eB Tryz.prog 25:=low Tryz.func25
def X0:eB Tryz.prog 30:=low Tryz.func30
def V2:eB Tryz.prog 31:=low Tryz.func31
def X1:eB Tryz.prog 32:=low Tryz.func32
def X2:eB Tryz.prog 33:=low Tryz.func33
def X3:eB Tryz.prog 35:=low Tryz.func35
def X4:eB Tryz.prog 36:=low Tryz.func36
def X5:eB Tryz.prog 37:=low Tryz.func37
def X6:eB Tryz.prog 39:=low Tryz.func39
def X7:eB Tryz.prog 40:=low Tryz.func40
def X8:eB Tryz.prog 41:=low Tryz.func41
def V3:eB Tryz.prog 44:=low Tryz.func44
def X9:eB Tryz.prog 47:=low Tryz.func47
def V4:eB Tryz.prog 48:=low Tryz.func48
def YA:eB Tryz.prog 49:=low Tryz.func49
def V5:eB Tryz.prog 50:=low Tryz.func50
def V6:eB Tryz.prog 51:=low Tryz.func51
def V7:eB Tryz.prog 52:=low Tryz.func52
def YB:eB Tryz.prog 53:=low Tryz.func53
def V8:eB Tryz.prog 54:=low Tryz.func54
def V9:eB Tryz.prog 55:=low Tryz.func55
def YC:eB Tryz.prog 56:=low Tryz.func56
def YD:eB Tryz.prog 58:=low Tryz.func58
def YE:eB Tryz.prog 59:=low Tryz.func59
def YF:eB Tryz.prog 60:=low Tryz.func60
def YG:eB Tryz.prog 61:=low Tryz.func61
def RO:eB Tryz.prog 62:=low Tryz.func62
def YH:eB Tryz.prog 63:=low Tryz.func63
def YI:eB Tryz.prog 67:=low Tryz.func67
def YJ:eB Tryz.prog 68:=low Tryz.func68
def K1:eB Tryz.prog 69:=low Tryz.func69
def YK:eB Tryz.prog 70:=low Tryz.func70
end Go.Proofs.YtjopoheligmmoaaGreatDoor
