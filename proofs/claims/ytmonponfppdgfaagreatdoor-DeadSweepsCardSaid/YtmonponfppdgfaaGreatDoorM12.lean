import Derived.Test.YtmonponfppdgfaaGreatDoorProg
import Derived.Test.YtmonponfppdgfaaGreatDoorM9
section
/- Lowered functions. -/
namespace Go.Proofs.YtmonponfppdgfaaGreatDoor
open Go Go.ch Go.Proofs
set_option maxRecDepth 100000
def E6:dw Tryz.prog 84:=low Tryz.func84
def E7:dw Tryz.prog 85:=low Tryz.func85
def E8:dw Tryz.prog 86:=low Tryz.func86
def E9:dw Tryz.prog 87:=low Tryz.func87
def FA:dw Tryz.prog 88:=low Tryz.func88
def FB:dw Tryz.prog 89:=low Tryz.func89
def FC:dw Tryz.prog 90:=low Tryz.func90
def FD:dw Tryz.prog 91:=low Tryz.func91
def FE:dw Tryz.prog 92:=low Tryz.func92
def FF:dw Tryz.prog 93:=low Tryz.func93
def FG:dw Tryz.prog 94:=low Tryz.func94
def FH:dw Tryz.prog 95:=low Tryz.func95
def FI:dw Tryz.prog 96:=low Tryz.func96
def FJ:dw Tryz.prog 97:=low Tryz.func97
def FK:dw Tryz.prog 98:=low Tryz.func98
def AS:dw Tryz.prog 99:=low Tryz.func99
def vv:dw Tryz.prog 100:=low Tryz.func100
def vw:dw Tryz.prog 101:=low Tryz.func101
def vx:dw Tryz.prog 102:=low Tryz.func102
def vy:dw Tryz.prog 103:=low Tryz.func103
def vz:dw Tryz.prog 104:=low Tryz.func104
def wA:dw Tryz.prog 105:=low Tryz.func105
def wB:dw Tryz.prog 106:=low Tryz.func106
def wC:dw Tryz.prog 107:=low Tryz.func107
def wD:dw Tryz.prog 108:=low Tryz.func108
def wE:dw Tryz.prog 109:=low Tryz.func109
def wF:dw Tryz.prog 110:=low Tryz.func110
def tS:dw Tryz.prog 111:=low Tryz.func111
def wG:dw Tryz.prog 112:=low Tryz.func112
def wH:dw Tryz.prog 113:=low Tryz.func113
def wI:dw Tryz.prog 114:=low Tryz.func114
def wJ:dw Tryz.prog 116:=low Tryz.func116
def wK:dw Tryz.prog 117:=low Tryz.func117
end Go.Proofs.YtmonponfppdgfaaGreatDoor
end
