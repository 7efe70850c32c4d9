import Derived.Test.YtjopoheligmmoaaGreatDoorProg
import Derived.Test.YtjopoheligmmoaaGreatDoorM10
section
/- Lowered functions. -/
namespace Go.Proofs.YtjopoheligmmoaaGreatDoor
open Go Go.cY Go.Proofs
set_option maxRecDepth 100000
def OA:cr Tryz.prog 71:=low Tryz.func71
def OB:cr Tryz.prog 72:=low Tryz.func72
def OC:cr Tryz.prog 73:=low Tryz.func73
def JJ:cr Tryz.prog 74:=low Tryz.func74
def OD:cr Tryz.prog 75:=low Tryz.func75
def SA:cr Tryz.prog 76:=low Tryz.func76
def SB:cr Tryz.prog 77:=low Tryz.func77
def SC:cr Tryz.prog 78:=low Tryz.func78
def SD:cr Tryz.prog 79:=low Tryz.func79
def OE:cr Tryz.prog 80:=low Tryz.func80
def SE:cr Tryz.prog 81:=low Tryz.func81
def SF:cr Tryz.prog 82:=low Tryz.func82
def OF:cr Tryz.prog 83:=low Tryz.func83
def OG:cr Tryz.prog 84:=low Tryz.func84
def OH:cr Tryz.prog 85:=low Tryz.func85
def SG:cr Tryz.prog 86:=low Tryz.func86
def SH:cr Tryz.prog 87:=low Tryz.func87
def SI:cr Tryz.prog 88:=low Tryz.func88
def SJ:cr Tryz.prog 89:=low Tryz.func89
def SK:cr Tryz.prog 90:=low Tryz.func90
def SL:cr Tryz.prog 91:=low Tryz.func91
def CJ:cr Tryz.prog 92:=low Tryz.func92
def JK:cr Tryz.prog 93:=low Tryz.func93
def OI:cr Tryz.prog 94:=low Tryz.func94
def SM:cr Tryz.prog 95:=low Tryz.func95
def OJ:cr Tryz.prog 96:=low Tryz.func96
def JL:cr Tryz.prog 97:=low Tryz.func97
def OK:cr Tryz.prog 98:=low Tryz.func98
def OL:cr Tryz.prog 99:=low Tryz.func99
def E1:cr Tryz.prog 100:=low Tryz.func100
def E3:cr Tryz.prog 101:=low Tryz.func101
def E4:cr Tryz.prog 102:=low Tryz.func102
def oi:cr Tryz.prog 103:=low Tryz.func103
def yI:cr Tryz.prog 104:=low Tryz.func104
def E5:cr Tryz.prog 105:=low Tryz.func105
def s7:cr Tryz.prog 106:=low Tryz.func106
def yJ:cr Tryz.prog 107:=low Tryz.func107
def yK:cr Tryz.prog 108:=low Tryz.func108
def yL:cr Tryz.prog 109:=low Tryz.func109
def yM:cr Tryz.prog 110:=low Tryz.func110
def yN:cr Tryz.prog 111:=low Tryz.func111
def yO:cr Tryz.prog 112:=low Tryz.func112
def uo:cr Tryz.prog 113:=low Tryz.func113
def yP:cr Tryz.prog 114:=low Tryz.func114
def yQ:cr Tryz.prog 115:=low Tryz.func115
def yR:cr Tryz.prog 116:=low Tryz.func116
def yS:cr Tryz.prog 117:=low Tryz.func117
def yT:cr Tryz.prog 118:=low Tryz.func118
def yU:cr Tryz.prog 119:=low Tryz.func119
def yV:cr Tryz.prog 120:=low Tryz.func120
def yW:cr Tryz.prog 121:=low Tryz.func121
def yX:cr Tryz.prog 122:=low Tryz.func122
def E6:cr Tryz.prog 124:=low Tryz.func124
def E7:cr Tryz.prog 125:=low Tryz.func125
def E8:cr Tryz.prog 126:=low Tryz.func126
def E9:cr Tryz.prog 127:=low Tryz.func127
def FA:cr Tryz.prog 128:=low Tryz.func128
def FB:cr Tryz.prog 129:=low Tryz.func129
def FC:cr Tryz.prog 130:=low Tryz.func130
def FD:cr Tryz.prog 131:=low Tryz.func131
def FE:cr Tryz.prog 132:=low Tryz.func132
def FF:cr Tryz.prog 133:=low Tryz.func133
def FG:cr Tryz.prog 134:=low Tryz.func134
def FH:cr Tryz.prog 135:=low Tryz.func135
def FI:cr Tryz.prog 136:=low Tryz.func136
def FJ:cr Tryz.prog 137:=low Tryz.func137
def FK:cr Tryz.prog 138:=low Tryz.func138
def FL:cr Tryz.prog 139:=low Tryz.func139
def FM:cr Tryz.prog 140:=low Tryz.func140
end Go.Proofs.YtjopoheligmmoaaGreatDoor
end
