import Derived.Test.YtlonbgdonffcbaaGreatDoorProg
import Derived.Test.YtlonbgdonffcbaaGreatDoorM10
section
/- Lowered functions. -/
namespace Go.Proofs.YtlonbgdonffcbaaGreatDoor
open Go Go.cU Go.Proofs
set_option maxRecDepth 100000
def OT:cz Tryz.prog 3:=low Tryz.func3
def IZ:cz Tryz.prog 4:=low Tryz.func4
def OU:cz Tryz.prog 5:=low Tryz.func5
def OV:cz Tryz.prog 6:=low Tryz.func6
def N5:cz Tryz.prog 7:=low Tryz.func7
def N6:cz Tryz.prog 8:=low Tryz.func8
def N7:cz Tryz.prog 9:=low Tryz.func9
def xO:cz Tryz.prog 10:=low Tryz.func10
def EE:cz Tryz.prog 11:=low Tryz.func11
def EF:cz Tryz.prog 12:=low Tryz.func12
def EG:cz Tryz.prog 13:=low Tryz.func13
def IW:cz Tryz.prog 14:=low Tryz.func14
def EH:cz Tryz.prog 15:=low Tryz.func15
def EI:cz Tryz.prog 16:=low Tryz.func16
def EJ:cz Tryz.prog 17:=low Tryz.func17
def EK:cz Tryz.prog 18:=low Tryz.func18
def IX:cz Tryz.prog 19:=low Tryz.func19
def EL:cz Tryz.prog 20:=low Tryz.func20
def IY:cz Tryz.prog 21:=low Tryz.func21
def EM:cz Tryz.prog 22:=low Tryz.func22
def AR:cz Tryz.prog 23:=low Tryz.func23
def EN:cz Tryz.prog 24:=low Tryz.func24
def EO:cz Tryz.prog 25:=low Tryz.func25
def EP:cz Tryz.prog 26:=low Tryz.func26
def ER:cz Tryz.prog 27:=low Tryz.func27
def AS:cz Tryz.prog 28:=low Tryz.func28
def xP:cz Tryz.prog 29:=low Tryz.func29
def xR:cz Tryz.prog 30:=low Tryz.func30
def ES:cz Tryz.prog 31:=low Tryz.func31
def ET:cz Tryz.prog 32:=low Tryz.func32
def EU:cz Tryz.prog 33:=low Tryz.func33
def EV:cz Tryz.prog 34:=low Tryz.func34
def EW:cz Tryz.prog 35:=low Tryz.func35
def EX:cz Tryz.prog 36:=low Tryz.func36
def EY:cz Tryz.prog 37:=low Tryz.func37
def EZ:cz Tryz.prog 38:=low Tryz.func38
def E0:cz Tryz.prog 39:=low Tryz.func39
def E1:cz Tryz.prog 40:=low Tryz.func40
def E2:cz Tryz.prog 41:=low Tryz.func41
def E3:cz Tryz.prog 42:=low Tryz.func42
def E4:cz Tryz.prog 43:=low Tryz.func43
def E5:cz Tryz.prog 44:=low Tryz.func44
def E6:cz Tryz.prog 45:=low Tryz.func45
def xS:cz Tryz.prog 46:=low Tryz.func46
def xT:cz Tryz.prog 47:=low Tryz.func47
def E7:cz Tryz.prog 48:=low Tryz.func48
def E8:cz Tryz.prog 49:=low Tryz.func49
def I0:cz Tryz.prog 50:=low Tryz.func50
def E9:cz Tryz.prog 51:=low Tryz.func51
def FA:cz Tryz.prog 52:=low Tryz.func52
def I1:cz Tryz.prog 53:=low Tryz.func53
def FB:cz Tryz.prog 54:=low Tryz.func54
def FC:cz Tryz.prog 55:=low Tryz.func55
def FD:cz Tryz.prog 56:=low Tryz.func56
def FE:cz Tryz.prog 57:=low Tryz.func57
def AT:cz Tryz.prog 58:=low Tryz.func58
def AU:cz Tryz.prog 59:=low Tryz.func59
def AW:cz Tryz.prog 60:=low Tryz.func60
def I2:cz Tryz.prog 61:=low Tryz.func61
def FF:cz Tryz.prog 62:=low Tryz.func62
def FG:cz Tryz.prog 63:=low Tryz.func63
def FH:cz Tryz.prog 64:=low Tryz.func64
def FI:cz Tryz.prog 65:=low Tryz.func65
def AX:cz Tryz.prog 66:=low Tryz.func66
def FJ:cz Tryz.prog 67:=low Tryz.func67
def FK:cz Tryz.prog 68:=low Tryz.func68
end Go.Proofs.YtlonbgdonffcbaaGreatDoor
end
