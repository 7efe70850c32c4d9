import Derived.Test.YtlonbgdonffcbaaGreatDoorProg
import Derived.Test.YtlonbgdonffcbaaGreatDoorM10
section
/- Lowered functions. -/
namespace Go.Proofs.YtlonbgdonffcbaaGreatDoor
open Go Go.cU Go.Proofs
set_option maxRecDepth 100000
def FL:cz Tryz.prog 71:=low Tryz.func71
def FM:cz Tryz.prog 72:=low Tryz.func72
def FN:cz Tryz.prog 73:=low Tryz.func73
def FO:cz Tryz.prog 74:=low Tryz.func74
def AY:cz Tryz.prog 75:=low Tryz.func75
def FP:cz Tryz.prog 76:=low Tryz.func76
def FQ:cz Tryz.prog 77:=low Tryz.func77
def FT:cz Tryz.prog 78:=low Tryz.func78
def AZ:cz Tryz.prog 79:=low Tryz.func79
def FU:cz Tryz.prog 80:=low Tryz.func80
def FV:cz Tryz.prog 81:=low Tryz.func81
def FW:cz Tryz.prog 82:=low Tryz.func82
def FX:cz Tryz.prog 83:=low Tryz.func83
def FY:cz Tryz.prog 84:=low Tryz.func84
def FZ:cz Tryz.prog 85:=low Tryz.func85
def F0:cz Tryz.prog 86:=low Tryz.func86
def F1:cz Tryz.prog 87:=low Tryz.func87
def F2:cz Tryz.prog 88:=low Tryz.func88
def F3:cz Tryz.prog 89:=low Tryz.func89
def F4:cz Tryz.prog 90:=low Tryz.func90
def F5:cz Tryz.prog 91:=low Tryz.func91
def F6:cz Tryz.prog 92:=low Tryz.func92
def vD:cz Tryz.prog 103:=low Tryz.func103
def vE:cz Tryz.prog 104:=low Tryz.func104
def vF:cz Tryz.prog 105:=low Tryz.func105
def vG:cz Tryz.prog 106:=low Tryz.func106
def vH:cz Tryz.prog 107:=low Tryz.func107
def vI:cz Tryz.prog 108:=low Tryz.func108
def sS:cz Tryz.prog 109:=low Tryz.func109
def vJ:cz Tryz.prog 110:=low Tryz.func110
def vK:cz Tryz.prog 111:=low Tryz.func111
def yg:cz Tryz.prog 112:=low Tryz.func112
def vL:cz Tryz.prog 117:=low Tryz.func117
def yh:cz Tryz.prog 118:=low Tryz.func118
def vM:cz Tryz.prog 119:=low Tryz.func119
def yi:cz Tryz.prog 120:=low Tryz.func120
end Go.Proofs.YtlonbgdonffcbaaGreatDoor
end
