import Derived.Test.YtekfmjjmihomlaaGreatProg
import Derived.Test.YtekfmjjmihomlaaGreatM10
section
/- Lowered functions. -/
namespace Go.Proofs.YtekfmjjmihomlaaGreat
open Go Go.cO Go.Proofs
set_option maxRecDepth 100000
def MP:cu Tryz.prog 3:=low Tryz.func3
def MQ:cu Tryz.prog 4:=low Tryz.func4
def MR:cu Tryz.prog 5:=low Tryz.func5
def LU:cu Tryz.prog 6:=low Tryz.func6
def MT:cu Tryz.prog 7:=low Tryz.func7
def MU:cu Tryz.prog 8:=low Tryz.func8
def MV:cu Tryz.prog 9:=low Tryz.func9
def F3:cu Tryz.prog 10:=low Tryz.func10
def CT:cu Tryz.prog 11:=low Tryz.func11
def F4:cu Tryz.prog 12:=low Tryz.func12
def CU:cu Tryz.prog 13:=low Tryz.func13
def F5:cu Tryz.prog 14:=low Tryz.func14
def F6:cu Tryz.prog 15:=low Tryz.func15
def F7:cu Tryz.prog 16:=low Tryz.func16
def CV:cu Tryz.prog 17:=low Tryz.func17
def CW:cu Tryz.prog 18:=low Tryz.func18
def CX:cu Tryz.prog 19:=low Tryz.func19
def CY:cu Tryz.prog 20:=low Tryz.func20
def zo:cu Tryz.prog 21:=low Tryz.func21
def CZ:cu Tryz.prog 22:=low Tryz.func22
def C0:cu Tryz.prog 23:=low Tryz.func23
def C1:cu Tryz.prog 24:=low Tryz.func24
def C2:cu Tryz.prog 25:=low Tryz.func25
def F8:cu Tryz.prog 26:=low Tryz.func26
def F9:cu Tryz.prog 27:=low Tryz.func27
def GA:cu Tryz.prog 28:=low Tryz.func28
def GB:cu Tryz.prog 29:=low Tryz.func29
def C3:cu Tryz.prog 30:=low Tryz.func30
def GC:cu Tryz.prog 31:=low Tryz.func31
def wX:cu Tryz.prog 32:=low Tryz.func32
def C4:cu Tryz.prog 33:=low Tryz.func33
def GD:cu Tryz.prog 34:=low Tryz.func34
def zp:cu Tryz.prog 35:=low Tryz.func35
def C5:cu Tryz.prog 36:=low Tryz.func36
def GF:cu Tryz.prog 37:=low Tryz.func37
def C6:cu Tryz.prog 38:=low Tryz.func38
def GG:cu Tryz.prog 39:=low Tryz.func39
def GH:cu Tryz.prog 40:=low Tryz.func40
def GI:cu Tryz.prog 41:=low Tryz.func41
def GJ:cu Tryz.prog 42:=low Tryz.func42
def GK:cu Tryz.prog 43:=low Tryz.func43
def C7:cu Tryz.prog 44:=low Tryz.func44
def C8:cu Tryz.prog 45:=low Tryz.func45
def C9:cu Tryz.prog 46:=low Tryz.func46
def DA:cu Tryz.prog 47:=low Tryz.func47
def wY:cu Tryz.prog 48:=low Tryz.func48
def wZ:cu Tryz.prog 49:=low Tryz.func49
def DB:cu Tryz.prog 50:=low Tryz.func50
def DC:cu Tryz.prog 51:=low Tryz.func51
def DD:cu Tryz.prog 52:=low Tryz.func52
def DE:cu Tryz.prog 53:=low Tryz.func53
def sH:cu Tryz.prog 54:=low Tryz.func54
def GL:cu Tryz.prog 55:=low Tryz.func55
def DF:cu Tryz.prog 56:=low Tryz.func56
def DG:cu Tryz.prog 57:=low Tryz.func57
def sI:cu Tryz.prog 58:=low Tryz.func58
def DH:cu Tryz.prog 59:=low Tryz.func59
def GM:cu Tryz.prog 60:=low Tryz.func60
end Go.Proofs.YtekfmjjmihomlaaGreat
end
