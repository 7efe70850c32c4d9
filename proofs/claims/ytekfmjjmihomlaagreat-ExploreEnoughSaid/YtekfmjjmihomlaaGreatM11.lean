import Derived.Test.YtekfmjjmihomlaaGreatProg
import Derived.Test.YtekfmjjmihomlaaGreatM10
section
/- Lowered functions. -/
namespace Go.Proofs.YtekfmjjmihomlaaGreat
open Go Go.cN Go.Proofs
set_option maxRecDepth 100000
def LP:ct Tryz.prog 3:=low Tryz.func3
def LR:ct Tryz.prog 4:=low Tryz.func4
def KU:ct Tryz.prog 5:=low Tryz.func5
def LS:ct Tryz.prog 6:=low Tryz.func6
def LU:ct Tryz.prog 7:=low Tryz.func7
def LV:ct Tryz.prog 8:=low Tryz.func8
def LW:ct Tryz.prog 9:=low Tryz.func9
def E7:ct Tryz.prog 10:=low Tryz.func10
def BX:ct Tryz.prog 11:=low Tryz.func11
def E8:ct Tryz.prog 12:=low Tryz.func12
def BY:ct Tryz.prog 13:=low Tryz.func13
def E9:ct Tryz.prog 14:=low Tryz.func14
def BZ:ct Tryz.prog 15:=low Tryz.func15
def FA:ct Tryz.prog 16:=low Tryz.func16
def B0:ct Tryz.prog 17:=low Tryz.func17
def B1:ct Tryz.prog 18:=low Tryz.func18
def B2:ct Tryz.prog 19:=low Tryz.func19
def B3:ct Tryz.prog 20:=low Tryz.func20
def zJ:ct Tryz.prog 21:=low Tryz.func21
def B4:ct Tryz.prog 22:=low Tryz.func22
def B5:ct Tryz.prog 23:=low Tryz.func23
def FB:ct Tryz.prog 24:=low Tryz.func24
def B6:ct Tryz.prog 25:=low Tryz.func25
def FC:ct Tryz.prog 26:=low Tryz.func26
def FD:ct Tryz.prog 27:=low Tryz.func27
def FE:ct Tryz.prog 28:=low Tryz.func28
def FF:ct Tryz.prog 29:=low Tryz.func29
def B7:ct Tryz.prog 30:=low Tryz.func30
def FG:ct Tryz.prog 31:=low Tryz.func31
def vz:ct Tryz.prog 32:=low Tryz.func32
def B8:ct Tryz.prog 33:=low Tryz.func33
def FH:ct Tryz.prog 34:=low Tryz.func34
def zK:ct Tryz.prog 35:=low Tryz.func35
def B9:ct Tryz.prog 36:=low Tryz.func36
def FI:ct Tryz.prog 37:=low Tryz.func37
def CA:ct Tryz.prog 38:=low Tryz.func38
def FJ:ct Tryz.prog 39:=low Tryz.func39
def FK:ct Tryz.prog 40:=low Tryz.func40
def FL:ct Tryz.prog 41:=low Tryz.func41
def FM:ct Tryz.prog 42:=low Tryz.func42
def FN:ct Tryz.prog 43:=low Tryz.func43
def CB:ct Tryz.prog 44:=low Tryz.func44
def CC:ct Tryz.prog 45:=low Tryz.func45
def CD:ct Tryz.prog 46:=low Tryz.func46
def CE:ct Tryz.prog 47:=low Tryz.func47
def wA:ct Tryz.prog 48:=low Tryz.func48
def wB:ct Tryz.prog 49:=low Tryz.func49
def CG:ct Tryz.prog 50:=low Tryz.func50
def CH:ct Tryz.prog 51:=low Tryz.func51
def CI:ct Tryz.prog 52:=low Tryz.func52
def CJ:ct Tryz.prog 53:=low Tryz.func53
def rn:ct Tryz.prog 54:=low Tryz.func54
def FO:ct Tryz.prog 55:=low Tryz.func55
def CK:ct Tryz.prog 56:=low Tryz.func56
def CL:ct Tryz.prog 57:=low Tryz.func57
def rp:ct Tryz.prog 58:=low Tryz.func58
def CM:ct Tryz.prog 59:=low Tryz.func59
def FP:ct Tryz.prog 60:=low Tryz.func60
end Go.Proofs.YtekfmjjmihomlaaGreat
end
