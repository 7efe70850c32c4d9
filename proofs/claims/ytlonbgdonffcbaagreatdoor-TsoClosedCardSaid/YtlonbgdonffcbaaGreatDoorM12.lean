import Derived.Test.YtlonbgdonffcbaaGreatDoorProg
import Derived.Test.YtlonbgdonffcbaaGreatDoorM10
section
/- Lowered functions. -/
namespace Go.Proofs.YtlonbgdonffcbaaGreatDoor
open Go Go.cW Go.Proofs
set_option maxRecDepth 100000
def FK:dB Tryz.prog 71:=low Tryz.func71
def FL:dB Tryz.prog 72:=low Tryz.func72
def FM:dB Tryz.prog 73:=low Tryz.func73
def FN:dB Tryz.prog 74:=low Tryz.func74
def AZ:dB Tryz.prog 75:=low Tryz.func75
def FO:dB Tryz.prog 76:=low Tryz.func76
def FP:dB Tryz.prog 77:=low Tryz.func77
def FQ:dB Tryz.prog 78:=low Tryz.func78
def A0:dB Tryz.prog 79:=low Tryz.func79
def FT:dB Tryz.prog 80:=low Tryz.func80
def FU:dB Tryz.prog 81:=low Tryz.func81
def FV:dB Tryz.prog 82:=low Tryz.func82
def FW:dB Tryz.prog 83:=low Tryz.func83
def FX:dB Tryz.prog 84:=low Tryz.func84
def FY:dB Tryz.prog 85:=low Tryz.func85
def FZ:dB Tryz.prog 86:=low Tryz.func86
def F0:dB Tryz.prog 87:=low Tryz.func87
def F1:dB Tryz.prog 88:=low Tryz.func88
def F2:dB Tryz.prog 89:=low Tryz.func89
def F3:dB Tryz.prog 90:=low Tryz.func90
def F4:dB Tryz.prog 91:=low Tryz.func91
def F5:dB Tryz.prog 92:=low Tryz.func92
def vF:dB Tryz.prog 103:=low Tryz.func103
def vG:dB Tryz.prog 104:=low Tryz.func104
def vH:dB Tryz.prog 105:=low Tryz.func105
def vI:dB Tryz.prog 106:=low Tryz.func106
def vJ:dB Tryz.prog 107:=low Tryz.func107
def vK:dB Tryz.prog 108:=low Tryz.func108
def sV:dB Tryz.prog 109:=low Tryz.func109
def vL:dB Tryz.prog 110:=low Tryz.func110
def vM:dB Tryz.prog 111:=low Tryz.func111
def yh:dB Tryz.prog 112:=low Tryz.func112
def vN:dB Tryz.prog 117:=low Tryz.func117
def yi:dB Tryz.prog 118:=low Tryz.func118
def vO:dB Tryz.prog 119:=low Tryz.func119
def yj:dB Tryz.prog 120:=low Tryz.func120
end Go.Proofs.YtlonbgdonffcbaaGreatDoor
end
