import Derived.Test.YtekfmjjmihomlaaGreatProg
import Derived.Test.YtekfmjjmihomlaaGreatM10
section
/- Lowered functions. -/
namespace Go.Proofs.YtekfmjjmihomlaaGreat
open Go Go.cZ Go.Proofs
set_option maxRecDepth 100000
def QU:dR Tryz.prog 3:=low Tryz.func3
def RI:dR Tryz.prog 4:=low Tryz.func4
def RJ:dR Tryz.prog 5:=low Tryz.func5
def RK:dR Tryz.prog 6:=low Tryz.func6
def RL:dR Tryz.prog 7:=low Tryz.func7
def RM:dR Tryz.prog 8:=low Tryz.func8
def RN:dR Tryz.prog 9:=low Tryz.func9
def GX:dR Tryz.prog 10:=low Tryz.func10
def GY:dR Tryz.prog 11:=low Tryz.func11
def GZ:dR Tryz.prog 12:=low Tryz.func12
def G0:dR Tryz.prog 13:=low Tryz.func13
def G1:dR Tryz.prog 14:=low Tryz.func14
def G2:dR Tryz.prog 15:=low Tryz.func15
def G3:dR Tryz.prog 16:=low Tryz.func16
def G4:dR Tryz.prog 17:=low Tryz.func17
def G5:dR Tryz.prog 18:=low Tryz.func18
def G6:dR Tryz.prog 19:=low Tryz.func19
def G7:dR Tryz.prog 20:=low Tryz.func20
def DQ:dR Tryz.prog 21:=low Tryz.func21
def G8:dR Tryz.prog 22:=low Tryz.func22
def G9:dR Tryz.prog 23:=low Tryz.func23
def LJ:dR Tryz.prog 24:=low Tryz.func24
def HA:dR Tryz.prog 25:=low Tryz.func25
def LL:dR Tryz.prog 26:=low Tryz.func26
def LM:dR Tryz.prog 27:=low Tryz.func27
def LN:dR Tryz.prog 28:=low Tryz.func28
def LO:dR Tryz.prog 29:=low Tryz.func29
def HB:dR Tryz.prog 30:=low Tryz.func30
def HC:dR Tryz.prog 31:=low Tryz.func31
def zJ:dR Tryz.prog 32:=low Tryz.func32
def HD:dR Tryz.prog 33:=low Tryz.func33
def zK:dR Tryz.prog 34:=low Tryz.func34
def DR:dR Tryz.prog 35:=low Tryz.func35
def HE:dR Tryz.prog 36:=low Tryz.func36
def LP:dR Tryz.prog 37:=low Tryz.func37
def HF:dR Tryz.prog 38:=low Tryz.func38
def HG:dR Tryz.prog 39:=low Tryz.func39
def HH:dR Tryz.prog 40:=low Tryz.func40
def HJ:dR Tryz.prog 41:=low Tryz.func41
def HK:dR Tryz.prog 42:=low Tryz.func42
def LR:dR Tryz.prog 43:=low Tryz.func43
def HL:dR Tryz.prog 44:=low Tryz.func44
def HM:dR Tryz.prog 45:=low Tryz.func45
def HN:dR Tryz.prog 46:=low Tryz.func46
def HQ:dR Tryz.prog 47:=low Tryz.func47
def zL:dR Tryz.prog 48:=low Tryz.func48
def zM:dR Tryz.prog 49:=low Tryz.func49
def HR:dR Tryz.prog 50:=low Tryz.func50
def HT:dR Tryz.prog 51:=low Tryz.func51
def HU:dR Tryz.prog 52:=low Tryz.func52
def HV:dR Tryz.prog 53:=low Tryz.func53
def uj:dR Tryz.prog 54:=low Tryz.func54
def LS:dR Tryz.prog 55:=low Tryz.func55
def HW:dR Tryz.prog 56:=low Tryz.func56
def HX:dR Tryz.prog 57:=low Tryz.func57
def uk:dR Tryz.prog 58:=low Tryz.func58
def HY:dR Tryz.prog 59:=low Tryz.func59
def LU:dR Tryz.prog 60:=low Tryz.func60
end Go.Proofs.YtekfmjjmihomlaaGreat
end
