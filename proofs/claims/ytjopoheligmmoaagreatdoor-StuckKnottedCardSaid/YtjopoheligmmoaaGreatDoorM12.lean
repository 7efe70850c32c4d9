import Derived.Test.YtjopoheligmmoaaGreatDoorProg
import Derived.Test.YtjopoheligmmoaaGreatDoorM10
section
/- Lowered functions. -/
namespace Go.Proofs.YtjopoheligmmoaaGreatDoor
open Go Go.cY Go.Proofs
set_option maxRecDepth 100000
def OG:ct Tryz.prog 71:=low Tryz.func71
def OH:ct Tryz.prog 72:=low Tryz.func72
def OI:ct Tryz.prog 73:=low Tryz.func73
def JP:ct Tryz.prog 74:=low Tryz.func74
def OJ:ct Tryz.prog 75:=low Tryz.func75
def SC:ct Tryz.prog 76:=low Tryz.func76
def SD:ct Tryz.prog 77:=low Tryz.func77
def SE:ct Tryz.prog 78:=low Tryz.func78
def SF:ct Tryz.prog 79:=low Tryz.func79
def OK:ct Tryz.prog 80:=low Tryz.func80
def SG:ct Tryz.prog 81:=low Tryz.func81
def SH:ct Tryz.prog 82:=low Tryz.func82
def OL:ct Tryz.prog 83:=low Tryz.func83
def OM:ct Tryz.prog 84:=low Tryz.func84
def ON:ct Tryz.prog 85:=low Tryz.func85
def SI:ct Tryz.prog 86:=low Tryz.func86
def SJ:ct Tryz.prog 87:=low Tryz.func87
def SK:ct Tryz.prog 88:=low Tryz.func88
def SL:ct Tryz.prog 89:=low Tryz.func89
def SM:ct Tryz.prog 90:=low Tryz.func90
def SN:ct Tryz.prog 91:=low Tryz.func91
def CT:ct Tryz.prog 92:=low Tryz.func92
def JQ:ct Tryz.prog 93:=low Tryz.func93
def OO:ct Tryz.prog 94:=low Tryz.func94
def SO:ct Tryz.prog 95:=low Tryz.func95
def OP:ct Tryz.prog 96:=low Tryz.func96
def JR:ct Tryz.prog 97:=low Tryz.func97
def OQ:ct Tryz.prog 98:=low Tryz.func98
def OR:ct Tryz.prog 99:=low Tryz.func99
def FB:ct Tryz.prog 100:=low Tryz.func100
def FC:ct Tryz.prog 101:=low Tryz.func101
def FD:ct Tryz.prog 102:=low Tryz.func102
def oq:ct Tryz.prog 103:=low Tryz.func103
def yO:ct Tryz.prog 104:=low Tryz.func104
def FE:ct Tryz.prog 105:=low Tryz.func105
def sa:ct Tryz.prog 106:=low Tryz.func106
def yP:ct Tryz.prog 107:=low Tryz.func107
def yQ:ct Tryz.prog 108:=low Tryz.func108
def yR:ct Tryz.prog 109:=low Tryz.func109
def yS:ct Tryz.prog 110:=low Tryz.func110
def yT:ct Tryz.prog 111:=low Tryz.func111
def yU:ct Tryz.prog 112:=low Tryz.func112
def uu:ct Tryz.prog 113:=low Tryz.func113
def yV:ct Tryz.prog 114:=low Tryz.func114
def yW:ct Tryz.prog 115:=low Tryz.func115
def yX:ct Tryz.prog 116:=low Tryz.func116
def yY:ct Tryz.prog 117:=low Tryz.func117
def yZ:ct Tryz.prog 118:=low Tryz.func118
def y6:ct Tryz.prog 119:=low Tryz.func119
def y7:ct Tryz.prog 120:=low Tryz.func120
def y8:ct Tryz.prog 121:=low Tryz.func121
def y9:ct Tryz.prog 122:=low Tryz.func122
def FF:ct Tryz.prog 124:=low Tryz.func124
def FG:ct Tryz.prog 125:=low Tryz.func125
def FH:ct Tryz.prog 126:=low Tryz.func126
def FI:ct Tryz.prog 127:=low Tryz.func127
def FJ:ct Tryz.prog 128:=low Tryz.func128
def FK:ct Tryz.prog 129:=low Tryz.func129
def FL:ct Tryz.prog 130:=low Tryz.func130
def FM:ct Tryz.prog 131:=low Tryz.func131
def FN:ct Tryz.prog 132:=low Tryz.func132
def FO:ct Tryz.prog 133:=low Tryz.func133
def FP:ct Tryz.prog 134:=low Tryz.func134
def FQ:ct Tryz.prog 135:=low Tryz.func135
def FT:ct Tryz.prog 136:=low Tryz.func136
def FU:ct Tryz.prog 137:=low Tryz.func137
def FV:ct Tryz.prog 138:=low Tryz.func138
def FW:ct Tryz.prog 139:=low Tryz.func139
def FX:ct Tryz.prog 140:=low Tryz.func140
end Go.Proofs.YtjopoheligmmoaaGreatDoor
end
