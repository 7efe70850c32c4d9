import Derived.Test.YtekfmjjmihomlaaGreatProg
import Derived.Test.YtekfmjjmihomlaaGreatM10
section
/- Lowered functions. -/
namespace Go.Proofs.YtekfmjjmihomlaaGreat
open Go Go.cQ Go.Proofs
set_option maxRecDepth 100000
def MV:cw Tryz.prog 3:=low Tryz.func3
def MW:cw Tryz.prog 4:=low Tryz.func4
def MX:cw Tryz.prog 5:=low Tryz.func5
def MY:cw Tryz.prog 6:=low Tryz.func6
def MZ:cw Tryz.prog 7:=low Tryz.func7
def LZ:cw Tryz.prog 8:=low Tryz.func8
def M1:cw Tryz.prog 9:=low Tryz.func9
def F8:cw Tryz.prog 10:=low Tryz.func10
def CU:cw Tryz.prog 11:=low Tryz.func11
def F9:cw Tryz.prog 12:=low Tryz.func12
def CV:cw Tryz.prog 13:=low Tryz.func13
def GA:cw Tryz.prog 14:=low Tryz.func14
def GB:cw Tryz.prog 15:=low Tryz.func15
def GC:cw Tryz.prog 16:=low Tryz.func16
def CW:cw Tryz.prog 17:=low Tryz.func17
def CX:cw Tryz.prog 18:=low Tryz.func18
def CY:cw Tryz.prog 19:=low Tryz.func19
def CZ:cw Tryz.prog 20:=low Tryz.func20
def zp:cw Tryz.prog 21:=low Tryz.func21
def C0:cw Tryz.prog 22:=low Tryz.func22
def zq:cw Tryz.prog 23:=low Tryz.func23
def C1:cw Tryz.prog 24:=low Tryz.func24
def C2:cw Tryz.prog 25:=low Tryz.func25
def GD:cw Tryz.prog 26:=low Tryz.func26
def C3:cw Tryz.prog 27:=low Tryz.func27
def GF:cw Tryz.prog 28:=low Tryz.func28
def GG:cw Tryz.prog 29:=low Tryz.func29
def C4:cw Tryz.prog 30:=low Tryz.func30
def GH:cw Tryz.prog 31:=low Tryz.func31
def wX:cw Tryz.prog 32:=low Tryz.func32
def C5:cw Tryz.prog 33:=low Tryz.func33
def GI:cw Tryz.prog 34:=low Tryz.func34
def zr:cw Tryz.prog 35:=low Tryz.func35
def C6:cw Tryz.prog 36:=low Tryz.func36
def GJ:cw Tryz.prog 37:=low Tryz.func37
def C7:cw Tryz.prog 38:=low Tryz.func38
def GK:cw Tryz.prog 39:=low Tryz.func39
def GL:cw Tryz.prog 40:=low Tryz.func40
def GM:cw Tryz.prog 41:=low Tryz.func41
def GN:cw Tryz.prog 42:=low Tryz.func42
def GO:cw Tryz.prog 43:=low Tryz.func43
def C8:cw Tryz.prog 44:=low Tryz.func44
def C9:cw Tryz.prog 45:=low Tryz.func45
def DA:cw Tryz.prog 46:=low Tryz.func46
def DB:cw Tryz.prog 47:=low Tryz.func47
def wY:cw Tryz.prog 48:=low Tryz.func48
def wZ:cw Tryz.prog 49:=low Tryz.func49
def DC:cw Tryz.prog 50:=low Tryz.func50
def DD:cw Tryz.prog 51:=low Tryz.func51
def DE:cw Tryz.prog 52:=low Tryz.func52
def DF:cw Tryz.prog 53:=low Tryz.func53
def sE:cw Tryz.prog 54:=low Tryz.func54
def GP:cw Tryz.prog 55:=low Tryz.func55
def DG:cw Tryz.prog 56:=low Tryz.func56
def DH:cw Tryz.prog 57:=low Tryz.func57
def sF:cw Tryz.prog 58:=low Tryz.func58
def DI:cw Tryz.prog 59:=low Tryz.func59
def zt:cw Tryz.prog 60:=low Tryz.func60
end Go.Proofs.YtekfmjjmihomlaaGreat
end
