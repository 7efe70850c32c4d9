import Derived.Test.YtlonbgdonffcbaaGreatDoorProg
import Derived.Test.YtlonbgdonffcbaaGreatDoorM10
section
/- Lowered functions. -/
namespace Go.Proofs.YtlonbgdonffcbaaGreatDoor
open Go Go.cY Go.Proofs
set_option maxRecDepth 100000
def GG:dG Tryz.prog 71:=low Tryz.func71
def GH:dG Tryz.prog 72:=low Tryz.func72
def GI:dG Tryz.prog 73:=low Tryz.func73
def GJ:dG Tryz.prog 74:=low Tryz.func74
def BU:dG Tryz.prog 75:=low Tryz.func75
def GK:dG Tryz.prog 76:=low Tryz.func76
def GL:dG Tryz.prog 77:=low Tryz.func77
def GM:dG Tryz.prog 78:=low Tryz.func78
def BV:dG Tryz.prog 79:=low Tryz.func79
def GN:dG Tryz.prog 80:=low Tryz.func80
def GO:dG Tryz.prog 81:=low Tryz.func81
def GP:dG Tryz.prog 82:=low Tryz.func82
def GQ:dG Tryz.prog 83:=low Tryz.func83
def GR:dG Tryz.prog 84:=low Tryz.func84
def GS:dG Tryz.prog 85:=low Tryz.func85
def GU:dG Tryz.prog 86:=low Tryz.func86
def GV:dG Tryz.prog 87:=low Tryz.func87
def GW:dG Tryz.prog 88:=low Tryz.func88
def GX:dG Tryz.prog 89:=low Tryz.func89
def GY:dG Tryz.prog 90:=low Tryz.func90
def GZ:dG Tryz.prog 91:=low Tryz.func91
def G0:dG Tryz.prog 92:=low Tryz.func92
def ve:dG Tryz.prog 103:=low Tryz.func103
def vg:dG Tryz.prog 104:=low Tryz.func104
def vh:dG Tryz.prog 105:=low Tryz.func105
def vi:dG Tryz.prog 106:=low Tryz.func106
def vj:dG Tryz.prog 107:=low Tryz.func107
def vk:dG Tryz.prog 108:=low Tryz.func108
def tB:dG Tryz.prog 109:=low Tryz.func109
def vl:dG Tryz.prog 110:=low Tryz.func110
def vm:dG Tryz.prog 111:=low Tryz.func111
def zQ:dG Tryz.prog 112:=low Tryz.func112
def vn:dG Tryz.prog 117:=low Tryz.func117
def zR:dG Tryz.prog 118:=low Tryz.func118
def vo:dG Tryz.prog 119:=low Tryz.func119
def zV:dG Tryz.prog 120:=low Tryz.func120
end Go.Proofs.YtlonbgdonffcbaaGreatDoor
end
