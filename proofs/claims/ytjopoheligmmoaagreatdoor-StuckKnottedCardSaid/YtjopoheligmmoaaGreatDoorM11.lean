import Derived.Test.YtjopoheligmmoaaGreatDoorProg
import Derived.Test.YtjopoheligmmoaaGreatDoorM10
section
/- Lowered functions. -/
namespace Go.Proofs.YtjopoheligmmoaaGreatDoor
open Go Go.cY Go.Proofs
set_option maxRecDepth 100000
def Y9:ct Tryz.prog 3:=low Tryz.func3
def ZA:ct Tryz.prog 4:=low Tryz.func4
def ZB:ct Tryz.prog 5:=low Tryz.func5
def ZC:ct Tryz.prog 6:=low Tryz.func6
def UJ:ct Tryz.prog 7:=low Tryz.func7
def ZD:ct Tryz.prog 8:=low Tryz.func8
def ZE:ct Tryz.prog 9:=low Tryz.func9
def RK:ct Tryz.prog 10:=low Tryz.func10
def RL:ct Tryz.prog 11:=low Tryz.func11
def RM:ct Tryz.prog 12:=low Tryz.func12
def NV:ct Tryz.prog 13:=low Tryz.func13
def RN:ct Tryz.prog 14:=low Tryz.func14
def RO:ct Tryz.prog 16:=low Tryz.func16
def RP:ct Tryz.prog 17:=low Tryz.func17
def NW:ct Tryz.prog 18:=low Tryz.func18
def RQ:ct Tryz.prog 19:=low Tryz.func19
def NX:ct Tryz.prog 20:=low Tryz.func20
def CP:ct Tryz.prog 21:=low Tryz.func21
def RR:ct Tryz.prog 22:=low Tryz.func22
def JI:ct Tryz.prog 23:=low Tryz.func23
def RS:ct Tryz.prog 24:=low Tryz.func24
def CQ:ct Tryz.prog 25:=low Tryz.func25
def RT:ct Tryz.prog 26:=low Tryz.func26
def RU:ct Tryz.prog 27:=low Tryz.func27
def JJ:ct Tryz.prog 28:=low Tryz.func28
def CR:ct Tryz.prog 29:=low Tryz.func29
def NY:ct Tryz.prog 30:=low Tryz.func30
def JK:ct Tryz.prog 31:=low Tryz.func31
def NZ:ct Tryz.prog 32:=low Tryz.func32
def N0:ct Tryz.prog 33:=low Tryz.func33
def RV:ct Tryz.prog 34:=low Tryz.func34
def N1:ct Tryz.prog 35:=low Tryz.func35
def N2:ct Tryz.prog 36:=low Tryz.func36
def RW:ct Tryz.prog 37:=low Tryz.func37
def RX:ct Tryz.prog 38:=low Tryz.func38
def N3:ct Tryz.prog 39:=low Tryz.func39
def N4:ct Tryz.prog 40:=low Tryz.func40
def N5:ct Tryz.prog 41:=low Tryz.func41
def RY:ct Tryz.prog 42:=low Tryz.func42
def RZ:ct Tryz.prog 43:=low Tryz.func43
def N6:ct Tryz.prog 44:=low Tryz.func44
def R0:ct Tryz.prog 45:=low Tryz.func45
def R1:ct Tryz.prog 46:=low Tryz.func46
def R3:ct Tryz.prog 47:=low Tryz.func47
def JL:ct Tryz.prog 48:=low Tryz.func48
def N7:ct Tryz.prog 49:=low Tryz.func49
def JM:ct Tryz.prog 50:=low Tryz.func50
def R4:ct Tryz.prog 51:=low Tryz.func51
def R5:ct Tryz.prog 52:=low Tryz.func52
def R6:ct Tryz.prog 53:=low Tryz.func53
def JN:ct Tryz.prog 54:=low Tryz.func54
def JO:ct Tryz.prog 55:=low Tryz.func55
def N8:ct Tryz.prog 56:=low Tryz.func56
def R7:ct Tryz.prog 57:=low Tryz.func57
def N9:ct Tryz.prog 58:=low Tryz.func58
def OA:ct Tryz.prog 59:=low Tryz.func59
def OB:ct Tryz.prog 60:=low Tryz.func60
def OC:ct Tryz.prog 61:=low Tryz.func61
def CS:ct Tryz.prog 62:=low Tryz.func62
def OD:ct Tryz.prog 63:=low Tryz.func63
def R8:ct Tryz.prog 64:=low Tryz.func64
def R9:ct Tryz.prog 65:=low Tryz.func65
def SA:ct Tryz.prog 66:=low Tryz.func66
def OE:ct Tryz.prog 67:=low Tryz.func67
def OF:ct Tryz.prog 68:=low Tryz.func68
def wN:ct Tryz.prog 69:=low Tryz.func69
def SB:ct Tryz.prog 70:=low Tryz.func70
end Go.Proofs.YtjopoheligmmoaaGreatDoor
end
