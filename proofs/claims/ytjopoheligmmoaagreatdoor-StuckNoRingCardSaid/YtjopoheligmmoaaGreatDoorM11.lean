import Derived.Test.YtjopoheligmmoaaGreatDoorProg
import Derived.Test.YtjopoheligmmoaaGreatDoorM10
section
/- Lowered functions. -/
namespace Go.Proofs.YtjopoheligmmoaaGreatDoor
open Go Go.cY Go.Proofs
set_option maxRecDepth 100000
def Y5:cr Tryz.prog 3:=low Tryz.func3
def Y6:cr Tryz.prog 4:=low Tryz.func4
def Y7:cr Tryz.prog 5:=low Tryz.func5
def VX:cr Tryz.prog 6:=low Tryz.func6
def Y8:cr Tryz.prog 7:=low Tryz.func7
def Y9:cr Tryz.prog 8:=low Tryz.func8
def ZA:cr Tryz.prog 9:=low Tryz.func9
def RG:cr Tryz.prog 10:=low Tryz.func10
def RH:cr Tryz.prog 11:=low Tryz.func11
def RI:cr Tryz.prog 12:=low Tryz.func12
def JC:cr Tryz.prog 13:=low Tryz.func13
def RJ:cr Tryz.prog 14:=low Tryz.func14
def RK:cr Tryz.prog 16:=low Tryz.func16
def RL:cr Tryz.prog 17:=low Tryz.func17
def NQ:cr Tryz.prog 18:=low Tryz.func18
def RM:cr Tryz.prog 19:=low Tryz.func19
def NR:cr Tryz.prog 20:=low Tryz.func20
def CG:cr Tryz.prog 21:=low Tryz.func21
def RN:cr Tryz.prog 22:=low Tryz.func22
def JD:cr Tryz.prog 23:=low Tryz.func23
def RO:cr Tryz.prog 24:=low Tryz.func24
def CH:cr Tryz.prog 25:=low Tryz.func25
def RP:cr Tryz.prog 26:=low Tryz.func26
def RQ:cr Tryz.prog 27:=low Tryz.func27
def RR:cr Tryz.prog 28:=low Tryz.func28
def RS:cr Tryz.prog 29:=low Tryz.func29
def NS:cr Tryz.prog 30:=low Tryz.func30
def JE:cr Tryz.prog 31:=low Tryz.func31
def NT:cr Tryz.prog 32:=low Tryz.func32
def NU:cr Tryz.prog 33:=low Tryz.func33
def RT:cr Tryz.prog 34:=low Tryz.func34
def NV:cr Tryz.prog 35:=low Tryz.func35
def NW:cr Tryz.prog 36:=low Tryz.func36
def RU:cr Tryz.prog 37:=low Tryz.func37
def RV:cr Tryz.prog 38:=low Tryz.func38
def NX:cr Tryz.prog 39:=low Tryz.func39
def NY:cr Tryz.prog 40:=low Tryz.func40
def NZ:cr Tryz.prog 41:=low Tryz.func41
def RW:cr Tryz.prog 42:=low Tryz.func42
def RX:cr Tryz.prog 43:=low Tryz.func43
def N0:cr Tryz.prog 44:=low Tryz.func44
def RY:cr Tryz.prog 45:=low Tryz.func45
def RZ:cr Tryz.prog 46:=low Tryz.func46
def R0:cr Tryz.prog 47:=low Tryz.func47
def JF:cr Tryz.prog 48:=low Tryz.func48
def N1:cr Tryz.prog 49:=low Tryz.func49
def JG:cr Tryz.prog 50:=low Tryz.func50
def R1:cr Tryz.prog 51:=low Tryz.func51
def R3:cr Tryz.prog 52:=low Tryz.func52
def R4:cr Tryz.prog 53:=low Tryz.func53
def JH:cr Tryz.prog 54:=low Tryz.func54
def JI:cr Tryz.prog 55:=low Tryz.func55
def N2:cr Tryz.prog 56:=low Tryz.func56
def R5:cr Tryz.prog 57:=low Tryz.func57
def N3:cr Tryz.prog 58:=low Tryz.func58
def N4:cr Tryz.prog 59:=low Tryz.func59
def N5:cr Tryz.prog 60:=low Tryz.func60
def N6:cr Tryz.prog 61:=low Tryz.func61
def CI:cr Tryz.prog 62:=low Tryz.func62
def N7:cr Tryz.prog 63:=low Tryz.func63
def R6:cr Tryz.prog 64:=low Tryz.func64
def R7:cr Tryz.prog 65:=low Tryz.func65
def R8:cr Tryz.prog 66:=low Tryz.func66
def N8:cr Tryz.prog 67:=low Tryz.func67
def N9:cr Tryz.prog 68:=low Tryz.func68
def wK:cr Tryz.prog 69:=low Tryz.func69
def R9:cr Tryz.prog 70:=low Tryz.func70
end Go.Proofs.YtjopoheligmmoaaGreatDoor
end
