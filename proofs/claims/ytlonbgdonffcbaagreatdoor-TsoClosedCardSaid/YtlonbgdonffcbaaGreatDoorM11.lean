import Derived.Test.YtlonbgdonffcbaaGreatDoorProg
import Derived.Test.YtlonbgdonffcbaaGreatDoorM10
section
/- Lowered functions. -/
namespace Go.Proofs.YtlonbgdonffcbaaGreatDoor
open Go Go.cW Go.Proofs
set_option maxRecDepth 100000
def N3:dB Tryz.prog 3:=low Tryz.func3
def OR:dB Tryz.prog 4:=low Tryz.func4
def OS:dB Tryz.prog 5:=low Tryz.func5
def OT:dB Tryz.prog 6:=low Tryz.func6
def N4:dB Tryz.prog 7:=low Tryz.func7
def N5:dB Tryz.prog 8:=low Tryz.func8
def M9:dB Tryz.prog 9:=low Tryz.func9
def xS:dB Tryz.prog 10:=low Tryz.func10
def ED:dB Tryz.prog 11:=low Tryz.func11
def EE:dB Tryz.prog 12:=low Tryz.func12
def EF:dB Tryz.prog 13:=low Tryz.func13
def EG:dB Tryz.prog 14:=low Tryz.func14
def EH:dB Tryz.prog 15:=low Tryz.func15
def IT:dB Tryz.prog 16:=low Tryz.func16
def EI:dB Tryz.prog 17:=low Tryz.func17
def EJ:dB Tryz.prog 18:=low Tryz.func18
def IU:dB Tryz.prog 19:=low Tryz.func19
def EK:dB Tryz.prog 20:=low Tryz.func20
def IV:dB Tryz.prog 21:=low Tryz.func21
def EL:dB Tryz.prog 22:=low Tryz.func22
def AS:dB Tryz.prog 23:=low Tryz.func23
def EM:dB Tryz.prog 24:=low Tryz.func24
def EN:dB Tryz.prog 25:=low Tryz.func25
def EO:dB Tryz.prog 26:=low Tryz.func26
def EP:dB Tryz.prog 27:=low Tryz.func27
def AT:dB Tryz.prog 28:=low Tryz.func28
def xT:dB Tryz.prog 29:=low Tryz.func29
def xU:dB Tryz.prog 30:=low Tryz.func30
def ER:dB Tryz.prog 31:=low Tryz.func31
def ES:dB Tryz.prog 32:=low Tryz.func32
def ET:dB Tryz.prog 33:=low Tryz.func33
def EU:dB Tryz.prog 34:=low Tryz.func34
def EV:dB Tryz.prog 35:=low Tryz.func35
def EW:dB Tryz.prog 36:=low Tryz.func36
def EX:dB Tryz.prog 37:=low Tryz.func37
def EY:dB Tryz.prog 38:=low Tryz.func38
def EZ:dB Tryz.prog 39:=low Tryz.func39
def E0:dB Tryz.prog 40:=low Tryz.func40
def E1:dB Tryz.prog 41:=low Tryz.func41
def E2:dB Tryz.prog 42:=low Tryz.func42
def E3:dB Tryz.prog 43:=low Tryz.func43
def E4:dB Tryz.prog 44:=low Tryz.func44
def E5:dB Tryz.prog 45:=low Tryz.func45
def xV:dB Tryz.prog 46:=low Tryz.func46
def xW:dB Tryz.prog 47:=low Tryz.func47
def E6:dB Tryz.prog 48:=low Tryz.func48
def E7:dB Tryz.prog 49:=low Tryz.func49
def IW:dB Tryz.prog 50:=low Tryz.func50
def E8:dB Tryz.prog 51:=low Tryz.func51
def E9:dB Tryz.prog 52:=low Tryz.func52
def IX:dB Tryz.prog 53:=low Tryz.func53
def FA:dB Tryz.prog 54:=low Tryz.func54
def FB:dB Tryz.prog 55:=low Tryz.func55
def FC:dB Tryz.prog 56:=low Tryz.func56
def FD:dB Tryz.prog 57:=low Tryz.func57
def AU:dB Tryz.prog 58:=low Tryz.func58
def AW:dB Tryz.prog 59:=low Tryz.func59
def AX:dB Tryz.prog 60:=low Tryz.func60
def IY:dB Tryz.prog 61:=low Tryz.func61
def FE:dB Tryz.prog 62:=low Tryz.func62
def FF:dB Tryz.prog 63:=low Tryz.func63
def FG:dB Tryz.prog 64:=low Tryz.func64
def FH:dB Tryz.prog 65:=low Tryz.func65
def AY:dB Tryz.prog 66:=low Tryz.func66
def FI:dB Tryz.prog 67:=low Tryz.func67
def FJ:dB Tryz.prog 68:=low Tryz.func68
end Go.Proofs.YtlonbgdonffcbaaGreatDoor
end
