import Derived.Test.YtekfmjjmihomlaaGreatProg
import Derived.Test.YtekfmjjmihomlaaGreatM10
section
/- Lowered functions. -/
namespace Go.Proofs.YtekfmjjmihomlaaGreat
open Go Go.cO Go.Proofs
set_option maxRecDepth 100000
def K6:cq Tryz.prog 3:=low Tryz.func3
def KF:cq Tryz.prog 4:=low Tryz.func4
def K7:cq Tryz.prog 5:=low Tryz.func5
def K8:cq Tryz.prog 6:=low Tryz.func6
def K9:cq Tryz.prog 7:=low Tryz.func7
def LA:cq Tryz.prog 8:=low Tryz.func8
def LB:cq Tryz.prog 9:=low Tryz.func9
def EP:cq Tryz.prog 10:=low Tryz.func10
def BH:cq Tryz.prog 11:=low Tryz.func11
def ER:cq Tryz.prog 12:=low Tryz.func12
def BI:cq Tryz.prog 13:=low Tryz.func13
def ES:cq Tryz.prog 14:=low Tryz.func14
def ET:cq Tryz.prog 15:=low Tryz.func15
def EU:cq Tryz.prog 16:=low Tryz.func16
def BJ:cq Tryz.prog 17:=low Tryz.func17
def BK:cq Tryz.prog 18:=low Tryz.func18
def BL:cq Tryz.prog 19:=low Tryz.func19
def BM:cq Tryz.prog 20:=low Tryz.func20
def ym:cq Tryz.prog 21:=low Tryz.func21
def BN:cq Tryz.prog 22:=low Tryz.func22
def BO:cq Tryz.prog 23:=low Tryz.func23
def EV:cq Tryz.prog 24:=low Tryz.func24
def BP:cq Tryz.prog 25:=low Tryz.func25
def EW:cq Tryz.prog 26:=low Tryz.func26
def EX:cq Tryz.prog 27:=low Tryz.func27
def EY:cq Tryz.prog 28:=low Tryz.func28
def EZ:cq Tryz.prog 29:=low Tryz.func29
def BQ:cq Tryz.prog 30:=low Tryz.func30
def E0:cq Tryz.prog 31:=low Tryz.func31
def ve:cq Tryz.prog 32:=low Tryz.func32
def BR:cq Tryz.prog 33:=low Tryz.func33
def E1:cq Tryz.prog 34:=low Tryz.func34
def yn:cq Tryz.prog 35:=low Tryz.func35
def BS:cq Tryz.prog 36:=low Tryz.func36
def E3:cq Tryz.prog 37:=low Tryz.func37
def BT:cq Tryz.prog 38:=low Tryz.func38
def E4:cq Tryz.prog 39:=low Tryz.func39
def E5:cq Tryz.prog 40:=low Tryz.func40
def E6:cq Tryz.prog 41:=low Tryz.func41
def E7:cq Tryz.prog 42:=low Tryz.func42
def E8:cq Tryz.prog 43:=low Tryz.func43
def BU:cq Tryz.prog 44:=low Tryz.func44
def BV:cq Tryz.prog 45:=low Tryz.func45
def BW:cq Tryz.prog 46:=low Tryz.func46
def BX:cq Tryz.prog 47:=low Tryz.func47
def vg:cq Tryz.prog 48:=low Tryz.func48
def vh:cq Tryz.prog 49:=low Tryz.func49
def BY:cq Tryz.prog 50:=low Tryz.func50
def BZ:cq Tryz.prog 51:=low Tryz.func51
def B0:cq Tryz.prog 52:=low Tryz.func52
def B1:cq Tryz.prog 53:=low Tryz.func53
def rQ:cq Tryz.prog 54:=low Tryz.func54
def E9:cq Tryz.prog 55:=low Tryz.func55
def B2:cq Tryz.prog 56:=low Tryz.func56
def B3:cq Tryz.prog 57:=low Tryz.func57
def rR:cq Tryz.prog 58:=low Tryz.func58
def B4:cq Tryz.prog 59:=low Tryz.func59
def FA:cq Tryz.prog 60:=low Tryz.func60
end Go.Proofs.YtekfmjjmihomlaaGreat
end
