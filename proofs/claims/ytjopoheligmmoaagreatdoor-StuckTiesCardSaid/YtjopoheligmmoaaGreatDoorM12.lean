import Derived.Test.YtjopoheligmmoaaGreatDoorProg
import Derived.Test.YtjopoheligmmoaaGreatDoorM10
section
/- Lowered functions. -/
namespace Go.Proofs.YtjopoheligmmoaaGreatDoor
open Go Go.cY Go.Proofs
set_option maxRecDepth 100000
def OD:cu Tryz.prog 71:=low Tryz.func71
def OE:cu Tryz.prog 72:=low Tryz.func72
def OF:cu Tryz.prog 73:=low Tryz.func73
def JB:cu Tryz.prog 74:=low Tryz.func74
def OG:cu Tryz.prog 75:=low Tryz.func75
def SB:cu Tryz.prog 76:=low Tryz.func76
def SC:cu Tryz.prog 77:=low Tryz.func77
def SD:cu Tryz.prog 78:=low Tryz.func78
def SE:cu Tryz.prog 79:=low Tryz.func79
def OH:cu Tryz.prog 80:=low Tryz.func80
def SF:cu Tryz.prog 81:=low Tryz.func81
def SG:cu Tryz.prog 82:=low Tryz.func82
def OI:cu Tryz.prog 83:=low Tryz.func83
def OJ:cu Tryz.prog 84:=low Tryz.func84
def OK:cu Tryz.prog 85:=low Tryz.func85
def SH:cu Tryz.prog 86:=low Tryz.func86
def SI:cu Tryz.prog 87:=low Tryz.func87
def SJ:cu Tryz.prog 88:=low Tryz.func88
def SK:cu Tryz.prog 89:=low Tryz.func89
def SL:cu Tryz.prog 90:=low Tryz.func90
def SM:cu Tryz.prog 91:=low Tryz.func91
def CI:cu Tryz.prog 92:=low Tryz.func92
def JC:cu Tryz.prog 93:=low Tryz.func93
def OL:cu Tryz.prog 94:=low Tryz.func94
def SN:cu Tryz.prog 95:=low Tryz.func95
def OM:cu Tryz.prog 96:=low Tryz.func96
def JD:cu Tryz.prog 97:=low Tryz.func97
def ON:cu Tryz.prog 98:=low Tryz.func98
def OO:cu Tryz.prog 99:=low Tryz.func99
def EX:cu Tryz.prog 100:=low Tryz.func100
def EY:cu Tryz.prog 101:=low Tryz.func101
def EZ:cu Tryz.prog 102:=low Tryz.func102
def oq:cu Tryz.prog 103:=low Tryz.func103
def yI:cu Tryz.prog 104:=low Tryz.func104
def E0:cu Tryz.prog 105:=low Tryz.func105
def sX:cu Tryz.prog 106:=low Tryz.func106
def yJ:cu Tryz.prog 107:=low Tryz.func107
def yK:cu Tryz.prog 108:=low Tryz.func108
def yL:cu Tryz.prog 109:=low Tryz.func109
def yM:cu Tryz.prog 110:=low Tryz.func110
def yN:cu Tryz.prog 111:=low Tryz.func111
def yO:cu Tryz.prog 112:=low Tryz.func112
def uk:cu Tryz.prog 113:=low Tryz.func113
def yP:cu Tryz.prog 114:=low Tryz.func114
def yQ:cu Tryz.prog 115:=low Tryz.func115
def yR:cu Tryz.prog 116:=low Tryz.func116
def yS:cu Tryz.prog 117:=low Tryz.func117
def yT:cu Tryz.prog 118:=low Tryz.func118
def yU:cu Tryz.prog 119:=low Tryz.func119
def yV:cu Tryz.prog 120:=low Tryz.func120
def yW:cu Tryz.prog 121:=low Tryz.func121
def yX:cu Tryz.prog 122:=low Tryz.func122
def E1:cu Tryz.prog 124:=low Tryz.func124
def E3:cu Tryz.prog 125:=low Tryz.func125
def E4:cu Tryz.prog 126:=low Tryz.func126
def E5:cu Tryz.prog 127:=low Tryz.func127
def E6:cu Tryz.prog 128:=low Tryz.func128
def E7:cu Tryz.prog 129:=low Tryz.func129
def E8:cu Tryz.prog 130:=low Tryz.func130
def E9:cu Tryz.prog 131:=low Tryz.func131
def FA:cu Tryz.prog 132:=low Tryz.func132
def FB:cu Tryz.prog 133:=low Tryz.func133
def FC:cu Tryz.prog 134:=low Tryz.func134
def FD:cu Tryz.prog 135:=low Tryz.func135
def FE:cu Tryz.prog 136:=low Tryz.func136
def FF:cu Tryz.prog 137:=low Tryz.func137
def FG:cu Tryz.prog 138:=low Tryz.func138
def FH:cu Tryz.prog 139:=low Tryz.func139
def FI:cu Tryz.prog 140:=low Tryz.func140
end Go.Proofs.YtjopoheligmmoaaGreatDoor
end
