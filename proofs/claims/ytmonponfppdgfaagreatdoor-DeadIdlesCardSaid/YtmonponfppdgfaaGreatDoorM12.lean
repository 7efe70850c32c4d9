import Derived.Test.YtmonponfppdgfaaGreatDoorProg
import Derived.Test.YtmonponfppdgfaaGreatDoorM9
section
/- Lowered functions. -/
namespace Go.Proofs.YtmonponfppdgfaaGreatDoor
open Go Go.ck Go.Proofs
set_option maxRecDepth 100000
def E1:dv Tryz.prog 84:=low Tryz.func84
def E3:dv Tryz.prog 85:=low Tryz.func85
def E4:dv Tryz.prog 86:=low Tryz.func86
def E5:dv Tryz.prog 87:=low Tryz.func87
def E6:dv Tryz.prog 88:=low Tryz.func88
def E7:dv Tryz.prog 89:=low Tryz.func89
def E8:dv Tryz.prog 90:=low Tryz.func90
def E9:dv Tryz.prog 91:=low Tryz.func91
def FA:dv Tryz.prog 92:=low Tryz.func92
def FB:dv Tryz.prog 93:=low Tryz.func93
def FC:dv Tryz.prog 94:=low Tryz.func94
def FD:dv Tryz.prog 95:=low Tryz.func95
def FE:dv Tryz.prog 96:=low Tryz.func96
def FF:dv Tryz.prog 97:=low Tryz.func97
def FG:dv Tryz.prog 98:=low Tryz.func98
def AM:dv Tryz.prog 99:=low Tryz.func99
def vq:dv Tryz.prog 100:=low Tryz.func100
def vr:dv Tryz.prog 101:=low Tryz.func101
def vt:dv Tryz.prog 102:=low Tryz.func102
def vu:dv Tryz.prog 103:=low Tryz.func103
def vv:dv Tryz.prog 104:=low Tryz.func104
def vw:dv Tryz.prog 105:=low Tryz.func105
def vx:dv Tryz.prog 106:=low Tryz.func106
def vy:dv Tryz.prog 107:=low Tryz.func107
def vz:dv Tryz.prog 108:=low Tryz.func108
def wA:dv Tryz.prog 109:=low Tryz.func109
def wB:dv Tryz.prog 110:=low Tryz.func110
def tL:dv Tryz.prog 111:=low Tryz.func111
def wC:dv Tryz.prog 112:=low Tryz.func112
def wD:dv Tryz.prog 113:=low Tryz.func113
def wE:dv Tryz.prog 114:=low Tryz.func114
def wF:dv Tryz.prog 116:=low Tryz.func116
def wG:dv Tryz.prog 117:=low Tryz.func117
end Go.Proofs.YtmonponfppdgfaaGreatDoor
end
