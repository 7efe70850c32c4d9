import Derived.Test.YtekfmjjmihomlaaGreatProg
import Derived.Test.YtekfmjjmihomlaaGreatM10
section
/- Lowered functions. -/
namespace Go.Proofs.YtekfmjjmihomlaaGreat
open Go Go.cO Go.Proofs
set_option maxRecDepth 100000
def MA:cw Tryz.prog 3:=low Tryz.func3
def MB:cw Tryz.prog 4:=low Tryz.func4
def MC:cw Tryz.prog 5:=low Tryz.func5
def MD:cw Tryz.prog 6:=low Tryz.func6
def MF:cw Tryz.prog 7:=low Tryz.func7
def MG:cw Tryz.prog 8:=low Tryz.func8
def LD:cw Tryz.prog 9:=low Tryz.func9
def FQ:cw Tryz.prog 10:=low Tryz.func10
def CG:cw Tryz.prog 11:=low Tryz.func11
def FT:cw Tryz.prog 12:=low Tryz.func12
def CH:cw Tryz.prog 13:=low Tryz.func13
def FU:cw Tryz.prog 14:=low Tryz.func14
def FV:cw Tryz.prog 15:=low Tryz.func15
def FW:cw Tryz.prog 16:=low Tryz.func16
def CI:cw Tryz.prog 17:=low Tryz.func17
def CJ:cw Tryz.prog 18:=low Tryz.func18
def CK:cw Tryz.prog 19:=low Tryz.func19
def CL:cw Tryz.prog 20:=low Tryz.func20
def ze:cw Tryz.prog 21:=low Tryz.func21
def CM:cw Tryz.prog 22:=low Tryz.func22
def CN:cw Tryz.prog 23:=low Tryz.func23
def CO:cw Tryz.prog 24:=low Tryz.func24
def CP:cw Tryz.prog 25:=low Tryz.func25
def FX:cw Tryz.prog 26:=low Tryz.func26
def CQ:cw Tryz.prog 27:=low Tryz.func27
def FY:cw Tryz.prog 28:=low Tryz.func28
def FZ:cw Tryz.prog 29:=low Tryz.func29
def CR:cw Tryz.prog 30:=low Tryz.func30
def F0:cw Tryz.prog 31:=low Tryz.func31
def wO:cw Tryz.prog 32:=low Tryz.func32
def CS:cw Tryz.prog 33:=low Tryz.func33
def F1:cw Tryz.prog 34:=low Tryz.func34
def zf:cw Tryz.prog 35:=low Tryz.func35
def CT:cw Tryz.prog 36:=low Tryz.func36
def F2:cw Tryz.prog 37:=low Tryz.func37
def CU:cw Tryz.prog 38:=low Tryz.func38
def F3:cw Tryz.prog 39:=low Tryz.func39
def F4:cw Tryz.prog 40:=low Tryz.func40
def F5:cw Tryz.prog 41:=low Tryz.func41
def F6:cw Tryz.prog 42:=low Tryz.func42
def F7:cw Tryz.prog 43:=low Tryz.func43
def CV:cw Tryz.prog 44:=low Tryz.func44
def CW:cw Tryz.prog 45:=low Tryz.func45
def CX:cw Tryz.prog 46:=low Tryz.func46
def CY:cw Tryz.prog 47:=low Tryz.func47
def wP:cw Tryz.prog 48:=low Tryz.func48
def wQ:cw Tryz.prog 49:=low Tryz.func49
def CZ:cw Tryz.prog 50:=low Tryz.func50
def C0:cw Tryz.prog 51:=low Tryz.func51
def C1:cw Tryz.prog 52:=low Tryz.func52
def C2:cw Tryz.prog 53:=low Tryz.func53
def sE:cw Tryz.prog 54:=low Tryz.func54
def F8:cw Tryz.prog 55:=low Tryz.func55
def C3:cw Tryz.prog 56:=low Tryz.func56
def C4:cw Tryz.prog 57:=low Tryz.func57
def sF:cw Tryz.prog 58:=low Tryz.func58
def C5:cw Tryz.prog 59:=low Tryz.func59
def zg:cw Tryz.prog 60:=low Tryz.func60
end Go.Proofs.YtekfmjjmihomlaaGreat
end
