import Derived.Test.YtjopoheligmmoaaGreatDoorProg
import Derived.Test.YtjopoheligmmoaaGreatDoorM10
section
/- Lowered functions. -/
namespace Go.Proofs.YtjopoheligmmoaaGreatDoor
open Go Go.cX Go.Proofs
set_option maxRecDepth 100000
def YJ:cr Tryz.prog 3:=low Tryz.func3
def YK:cr Tryz.prog 4:=low Tryz.func4
def YL:cr Tryz.prog 5:=low Tryz.func5
def YM:cr Tryz.prog 6:=low Tryz.func6
def YN:cr Tryz.prog 7:=low Tryz.func7
def YO:cr Tryz.prog 8:=low Tryz.func8
def YP:cr Tryz.prog 9:=low Tryz.func9
def BX:cr Tryz.prog 10:=low Tryz.func10
def QV:cr Tryz.prog 11:=low Tryz.func11
def QW:cr Tryz.prog 12:=low Tryz.func12
def IM:cr Tryz.prog 13:=low Tryz.func13
def QX:cr Tryz.prog 14:=low Tryz.func14
def QY:cr Tryz.prog 16:=low Tryz.func16
def QZ:cr Tryz.prog 17:=low Tryz.func17
def M1:cr Tryz.prog 18:=low Tryz.func18
def Q0:cr Tryz.prog 19:=low Tryz.func19
def M3:cr Tryz.prog 20:=low Tryz.func20
def M4:cr Tryz.prog 21:=low Tryz.func21
def Q1:cr Tryz.prog 22:=low Tryz.func22
def IN:cr Tryz.prog 23:=low Tryz.func23
def Q2:cr Tryz.prog 24:=low Tryz.func24
def BY:cr Tryz.prog 25:=low Tryz.func25
def Q3:cr Tryz.prog 26:=low Tryz.func26
def Q4:cr Tryz.prog 27:=low Tryz.func27
def Q5:cr Tryz.prog 28:=low Tryz.func28
def Q6:cr Tryz.prog 29:=low Tryz.func29
def M5:cr Tryz.prog 30:=low Tryz.func30
def IP:cr Tryz.prog 31:=low Tryz.func31
def M6:cr Tryz.prog 32:=low Tryz.func32
def M7:cr Tryz.prog 33:=low Tryz.func33
def Q7:cr Tryz.prog 34:=low Tryz.func34
def M8:cr Tryz.prog 35:=low Tryz.func35
def M9:cr Tryz.prog 36:=low Tryz.func36
def Q8:cr Tryz.prog 37:=low Tryz.func37
def Q9:cr Tryz.prog 38:=low Tryz.func38
def NA:cr Tryz.prog 39:=low Tryz.func39
def NB:cr Tryz.prog 40:=low Tryz.func40
def NC:cr Tryz.prog 41:=low Tryz.func41
def RA:cr Tryz.prog 42:=low Tryz.func42
def RB:cr Tryz.prog 43:=low Tryz.func43
def ND:cr Tryz.prog 44:=low Tryz.func44
def RC:cr Tryz.prog 45:=low Tryz.func45
def RD:cr Tryz.prog 46:=low Tryz.func46
def RE:cr Tryz.prog 47:=low Tryz.func47
def IQ:cr Tryz.prog 48:=low Tryz.func48
def NF:cr Tryz.prog 49:=low Tryz.func49
def IS:cr Tryz.prog 50:=low Tryz.func50
def RF:cr Tryz.prog 51:=low Tryz.func51
def RG:cr Tryz.prog 52:=low Tryz.func52
def RH:cr Tryz.prog 53:=low Tryz.func53
def IT:cr Tryz.prog 54:=low Tryz.func54
def IU:cr Tryz.prog 55:=low Tryz.func55
def NG:cr Tryz.prog 56:=low Tryz.func56
def RI:cr Tryz.prog 57:=low Tryz.func57
def NH:cr Tryz.prog 58:=low Tryz.func58
def NI:cr Tryz.prog 59:=low Tryz.func59
def NJ:cr Tryz.prog 60:=low Tryz.func60
def NK:cr Tryz.prog 61:=low Tryz.func61
def BZ:cr Tryz.prog 62:=low Tryz.func62
def NL:cr Tryz.prog 63:=low Tryz.func63
def RJ:cr Tryz.prog 64:=low Tryz.func64
def RK:cr Tryz.prog 65:=low Tryz.func65
def RL:cr Tryz.prog 66:=low Tryz.func66
def NM:cr Tryz.prog 67:=low Tryz.func67
def NN:cr Tryz.prog 68:=low Tryz.func68
def vu:cr Tryz.prog 69:=low Tryz.func69
def RM:cr Tryz.prog 70:=low Tryz.func70
end Go.Proofs.YtjopoheligmmoaaGreatDoor
end
