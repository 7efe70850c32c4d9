import Derived.Test.YtjopoheligmmoaaGreatDoorProg
import Derived.Test.YtjopoheligmmoaaGreatDoorM10
section
/- Lowered functions. -/
namespace Go.Proofs.YtjopoheligmmoaaGreatDoor
open Go Go.cZ Go.Proofs
set_option maxRecDepth 100000
def ON:cu Tryz.prog 71:=low Tryz.func71
def OO:cu Tryz.prog 72:=low Tryz.func72
def OP:cu Tryz.prog 73:=low Tryz.func73
def JU:cu Tryz.prog 74:=low Tryz.func74
def OQ:cu Tryz.prog 75:=low Tryz.func75
def SP:cu Tryz.prog 76:=low Tryz.func76
def SQ:cu Tryz.prog 77:=low Tryz.func77
def SR:cu Tryz.prog 78:=low Tryz.func78
def SS:cu Tryz.prog 79:=low Tryz.func79
def OR:cu Tryz.prog 80:=low Tryz.func80
def SU:cu Tryz.prog 81:=low Tryz.func81
def SV:cu Tryz.prog 82:=low Tryz.func82
def OS:cu Tryz.prog 83:=low Tryz.func83
def OT:cu Tryz.prog 84:=low Tryz.func84
def OU:cu Tryz.prog 85:=low Tryz.func85
def SX:cu Tryz.prog 86:=low Tryz.func86
def SY:cu Tryz.prog 87:=low Tryz.func87
def SZ:cu Tryz.prog 88:=low Tryz.func88
def S0:cu Tryz.prog 89:=low Tryz.func89
def S1:cu Tryz.prog 90:=low Tryz.func90
def S3:cu Tryz.prog 91:=low Tryz.func91
def CZ:cu Tryz.prog 92:=low Tryz.func92
def JV:cu Tryz.prog 93:=low Tryz.func93
def OV:cu Tryz.prog 94:=low Tryz.func94
def S4:cu Tryz.prog 95:=low Tryz.func95
def OW:cu Tryz.prog 96:=low Tryz.func96
def JW:cu Tryz.prog 97:=low Tryz.func97
def OX:cu Tryz.prog 98:=low Tryz.func98
def OY:cu Tryz.prog 99:=low Tryz.func99
def FH:cu Tryz.prog 100:=low Tryz.func100
def FI:cu Tryz.prog 101:=low Tryz.func101
def FJ:cu Tryz.prog 102:=low Tryz.func102
def oz:cu Tryz.prog 103:=low Tryz.func103
def y9:cu Tryz.prog 104:=low Tryz.func104
def FK:cu Tryz.prog 105:=low Tryz.func105
def sk:cu Tryz.prog 106:=low Tryz.func106
def yb:cu Tryz.prog 107:=low Tryz.func107
def yc:cu Tryz.prog 108:=low Tryz.func108
def yd:cu Tryz.prog 109:=low Tryz.func109
def ye:cu Tryz.prog 110:=low Tryz.func110
def yf:cu Tryz.prog 111:=low Tryz.func111
def yg:cu Tryz.prog 112:=low Tryz.func112
def vE:cu Tryz.prog 113:=low Tryz.func113
def yh:cu Tryz.prog 114:=low Tryz.func114
def yi:cu Tryz.prog 115:=low Tryz.func115
def yj:cu Tryz.prog 116:=low Tryz.func116
def yk:cu Tryz.prog 117:=low Tryz.func117
def yl:cu Tryz.prog 118:=low Tryz.func118
def ym:cu Tryz.prog 119:=low Tryz.func119
def yn:cu Tryz.prog 120:=low Tryz.func120
def yo:cu Tryz.prog 121:=low Tryz.func121
def yp:cu Tryz.prog 122:=low Tryz.func122
def FL:cu Tryz.prog 124:=low Tryz.func124
def FM:cu Tryz.prog 125:=low Tryz.func125
def FN:cu Tryz.prog 126:=low Tryz.func126
def FO:cu Tryz.prog 127:=low Tryz.func127
def FP:cu Tryz.prog 128:=low Tryz.func128
def FQ:cu Tryz.prog 129:=low Tryz.func129
def FT:cu Tryz.prog 130:=low Tryz.func130
def FU:cu Tryz.prog 131:=low Tryz.func131
def FV:cu Tryz.prog 132:=low Tryz.func132
def FW:cu Tryz.prog 133:=low Tryz.func133
def FX:cu Tryz.prog 134:=low Tryz.func134
def FY:cu Tryz.prog 135:=low Tryz.func135
def FZ:cu Tryz.prog 136:=low Tryz.func136
def F0:cu Tryz.prog 137:=low Tryz.func137
def F1:cu Tryz.prog 138:=low Tryz.func138
def F2:cu Tryz.prog 139:=low Tryz.func139
def F3:cu Tryz.prog 140:=low Tryz.func140
end Go.Proofs.YtjopoheligmmoaaGreatDoor
end
