import Derived.Test.YtlonbgdonffcbaaGreatDoorProg
import Derived.Test.YtlonbgdonffcbaaGreatDoorM10
section
/- Lowered functions. -/
namespace Go.Proofs.YtlonbgdonffcbaaGreatDoor
open Go Go.cY Go.Proofs
set_option maxRecDepth 100000
def PV:dG Tryz.prog 3:=low Tryz.func3
def PW:dG Tryz.prog 4:=low Tryz.func4
def PX:dG Tryz.prog 5:=low Tryz.func5
def O2:dG Tryz.prog 6:=low Tryz.func6
def O3:dG Tryz.prog 7:=low Tryz.func7
def O4:dG Tryz.prog 8:=low Tryz.func8
def O5:dG Tryz.prog 9:=low Tryz.func9
def xu:dG Tryz.prog 10:=low Tryz.func10
def E7:dG Tryz.prog 11:=low Tryz.func11
def E8:dG Tryz.prog 12:=low Tryz.func12
def E9:dG Tryz.prog 13:=low Tryz.func13
def FA:dG Tryz.prog 14:=low Tryz.func14
def JS:dG Tryz.prog 15:=low Tryz.func15
def JT:dG Tryz.prog 16:=low Tryz.func16
def FB:dG Tryz.prog 17:=low Tryz.func17
def FC:dG Tryz.prog 18:=low Tryz.func18
def BN:dG Tryz.prog 19:=low Tryz.func19
def FD:dG Tryz.prog 20:=low Tryz.func20
def JU:dG Tryz.prog 21:=low Tryz.func21
def FE:dG Tryz.prog 22:=low Tryz.func22
def BO:dG Tryz.prog 23:=low Tryz.func23
def FF:dG Tryz.prog 24:=low Tryz.func24
def FG:dG Tryz.prog 25:=low Tryz.func25
def FH:dG Tryz.prog 26:=low Tryz.func26
def FI:dG Tryz.prog 27:=low Tryz.func27
def BP:dG Tryz.prog 28:=low Tryz.func28
def xx:dG Tryz.prog 29:=low Tryz.func29
def xy:dG Tryz.prog 30:=low Tryz.func30
def FJ:dG Tryz.prog 31:=low Tryz.func31
def FK:dG Tryz.prog 32:=low Tryz.func32
def FL:dG Tryz.prog 33:=low Tryz.func33
def FM:dG Tryz.prog 34:=low Tryz.func34
def FN:dG Tryz.prog 35:=low Tryz.func35
def FO:dG Tryz.prog 36:=low Tryz.func36
def FP:dG Tryz.prog 37:=low Tryz.func37
def FQ:dG Tryz.prog 38:=low Tryz.func38
def FT:dG Tryz.prog 39:=low Tryz.func39
def FU:dG Tryz.prog 40:=low Tryz.func40
def FV:dG Tryz.prog 41:=low Tryz.func41
def FW:dG Tryz.prog 42:=low Tryz.func42
def FX:dG Tryz.prog 43:=low Tryz.func43
def FY:dG Tryz.prog 44:=low Tryz.func44
def FZ:dG Tryz.prog 45:=low Tryz.func45
def xz:dG Tryz.prog 46:=low Tryz.func46
def yA:dG Tryz.prog 47:=low Tryz.func47
def F0:dG Tryz.prog 48:=low Tryz.func48
def F1:dG Tryz.prog 49:=low Tryz.func49
def F2:dG Tryz.prog 50:=low Tryz.func50
def F3:dG Tryz.prog 51:=low Tryz.func51
def F4:dG Tryz.prog 52:=low Tryz.func52
def JV:dG Tryz.prog 53:=low Tryz.func53
def F5:dG Tryz.prog 54:=low Tryz.func54
def F6:dG Tryz.prog 55:=low Tryz.func55
def F7:dG Tryz.prog 56:=low Tryz.func56
def F8:dG Tryz.prog 57:=low Tryz.func57
def BQ:dG Tryz.prog 58:=low Tryz.func58
def BR:dG Tryz.prog 59:=low Tryz.func59
def BS:dG Tryz.prog 60:=low Tryz.func60
def JW:dG Tryz.prog 61:=low Tryz.func61
def F9:dG Tryz.prog 62:=low Tryz.func62
def GA:dG Tryz.prog 63:=low Tryz.func63
def GB:dG Tryz.prog 64:=low Tryz.func64
def GC:dG Tryz.prog 65:=low Tryz.func65
def BT:dG Tryz.prog 66:=low Tryz.func66
def GD:dG Tryz.prog 67:=low Tryz.func67
def GF:dG Tryz.prog 68:=low Tryz.func68
end Go.Proofs.YtlonbgdonffcbaaGreatDoor
end
