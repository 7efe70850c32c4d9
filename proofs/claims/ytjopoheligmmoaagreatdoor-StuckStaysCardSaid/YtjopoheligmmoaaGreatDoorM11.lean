import Derived.Test.YtjopoheligmmoaaGreatDoorProg
import Derived.Test.YtjopoheligmmoaaGreatDoorM10
namespace Go.Proofs.YtjopoheligmmoaaGreatDoor
open Go Go.cp Go.Proofs
set_option maxRecDepth 100000
def VI:eF Tryz.prog 8:=low Tryz.func8
def UM:eF Tryz.prog 13:=low Tryz.func13
def UN:eF Tryz.prog 18:=low Tryz.func18
def UO:eF Tryz.prog 20:=low Tryz.func20
def O1:eF Tryz.prog 21:=low Tryz.func21
def SY:eF Tryz.prog 23:=low Tryz.func23
def O2:eF Tryz.prog 25:=low Tryz.func25
def O3:eF Tryz.prog 29:=low Tryz.func29
def UP:eF Tryz.prog 30:=low Tryz.func30
def SZ:eF Tryz.prog 31:=low Tryz.func31
def UQ:eF Tryz.prog 32:=low Tryz.func32
def UR:eF Tryz.prog 33:=low Tryz.func33
def US:eF Tryz.prog 35:=low Tryz.func35
def UT:eF Tryz.prog 36:=low Tryz.func36
def UU:eF Tryz.prog 39:=low Tryz.func39
def UW:eF Tryz.prog 40:=low Tryz.func40
def UX:eF Tryz.prog 41:=low Tryz.func41
def UY:eF Tryz.prog 44:=low Tryz.func44
def UZ:eF Tryz.prog 47:=low Tryz.func47
def S0:eF Tryz.prog 48:=low Tryz.func48
def U4:eF Tryz.prog 49:=low Tryz.func49
def S1:eF Tryz.prog 50:=low Tryz.func50
def S3:eF Tryz.prog 54:=low Tryz.func54
def S4:eF Tryz.prog 55:=low Tryz.func55
def U5:eF Tryz.prog 56:=low Tryz.func56
def U6:eF Tryz.prog 58:=low Tryz.func58
def U7:eF Tryz.prog 59:=low Tryz.func59
def U8:eF Tryz.prog 60:=low Tryz.func60
def U9:eF Tryz.prog 61:=low Tryz.func61
def O4:eF Tryz.prog 62:=low Tryz.func62
def VA:eF Tryz.prog 63:=low Tryz.func63
def VB:eF Tryz.prog 67:=low Tryz.func67
def VC:eF Tryz.prog 68:=low Tryz.func68
def I3:eF Tryz.prog 69:=low Tryz.func69
def VD:eF Tryz.prog 70:=low Tryz.func70
end Go.Proofs.YtjopoheligmmoaaGreatDoor
