import Derived.Test.YtjopoheligmmoaaGreatDoorProg
import Derived.Test.YtjopoheligmmoaaGreatDoorM10
section
/- Lowered functions. -/
namespace Go.Proofs.YtjopoheligmmoaaGreatDoor
open Go Go.cY Go.Proofs
set_option maxRecDepth 100000
def YK:ct Tryz.prog 3:=low Tryz.func3
def YL:ct Tryz.prog 4:=low Tryz.func4
def YM:ct Tryz.prog 5:=low Tryz.func5
def YN:ct Tryz.prog 6:=low Tryz.func6
def YO:ct Tryz.prog 7:=low Tryz.func7
def YP:ct Tryz.prog 8:=low Tryz.func8
def YQ:ct Tryz.prog 9:=low Tryz.func9
def BY:ct Tryz.prog 10:=low Tryz.func10
def QW:ct Tryz.prog 11:=low Tryz.func11
def QX:ct Tryz.prog 12:=low Tryz.func12
def IN:ct Tryz.prog 13:=low Tryz.func13
def QY:ct Tryz.prog 14:=low Tryz.func14
def QZ:ct Tryz.prog 16:=low Tryz.func16
def Q0:ct Tryz.prog 17:=low Tryz.func17
def M3:ct Tryz.prog 18:=low Tryz.func18
def Q1:ct Tryz.prog 19:=low Tryz.func19
def M4:ct Tryz.prog 20:=low Tryz.func20
def M5:ct Tryz.prog 21:=low Tryz.func21
def Q2:ct Tryz.prog 22:=low Tryz.func22
def IP:ct Tryz.prog 23:=low Tryz.func23
def Q3:ct Tryz.prog 24:=low Tryz.func24
def BZ:ct Tryz.prog 25:=low Tryz.func25
def Q4:ct Tryz.prog 26:=low Tryz.func26
def Q5:ct Tryz.prog 27:=low Tryz.func27
def Q6:ct Tryz.prog 28:=low Tryz.func28
def Q7:ct Tryz.prog 29:=low Tryz.func29
def M6:ct Tryz.prog 30:=low Tryz.func30
def IQ:ct Tryz.prog 31:=low Tryz.func31
def M7:ct Tryz.prog 32:=low Tryz.func32
def M8:ct Tryz.prog 33:=low Tryz.func33
def Q8:ct Tryz.prog 34:=low Tryz.func34
def M9:ct Tryz.prog 35:=low Tryz.func35
def NA:ct Tryz.prog 36:=low Tryz.func36
def Q9:ct Tryz.prog 37:=low Tryz.func37
def RA:ct Tryz.prog 38:=low Tryz.func38
def NB:ct Tryz.prog 39:=low Tryz.func39
def NC:ct Tryz.prog 40:=low Tryz.func40
def ND:ct Tryz.prog 41:=low Tryz.func41
def RB:ct Tryz.prog 42:=low Tryz.func42
def RC:ct Tryz.prog 43:=low Tryz.func43
def NF:ct Tryz.prog 44:=low Tryz.func44
def RD:ct Tryz.prog 45:=low Tryz.func45
def RE:ct Tryz.prog 46:=low Tryz.func46
def RF:ct Tryz.prog 47:=low Tryz.func47
def IS:ct Tryz.prog 48:=low Tryz.func48
def NG:ct Tryz.prog 49:=low Tryz.func49
def IT:ct Tryz.prog 50:=low Tryz.func50
def RG:ct Tryz.prog 51:=low Tryz.func51
def RH:ct Tryz.prog 52:=low Tryz.func52
def RI:ct Tryz.prog 53:=low Tryz.func53
def IU:ct Tryz.prog 54:=low Tryz.func54
def IV:ct Tryz.prog 55:=low Tryz.func55
def NH:ct Tryz.prog 56:=low Tryz.func56
def RJ:ct Tryz.prog 57:=low Tryz.func57
def NI:ct Tryz.prog 58:=low Tryz.func58
def NJ:ct Tryz.prog 59:=low Tryz.func59
def NK:ct Tryz.prog 60:=low Tryz.func60
def NL:ct Tryz.prog 61:=low Tryz.func61
def B0:ct Tryz.prog 62:=low Tryz.func62
def NM:ct Tryz.prog 63:=low Tryz.func63
def RK:ct Tryz.prog 64:=low Tryz.func64
def RL:ct Tryz.prog 65:=low Tryz.func65
def RM:ct Tryz.prog 66:=low Tryz.func66
def NN:ct Tryz.prog 67:=low Tryz.func67
def NO:ct Tryz.prog 68:=low Tryz.func68
def vv:ct Tryz.prog 69:=low Tryz.func69
def RN:ct Tryz.prog 70:=low Tryz.func70
end Go.Proofs.YtjopoheligmmoaaGreatDoor
end
