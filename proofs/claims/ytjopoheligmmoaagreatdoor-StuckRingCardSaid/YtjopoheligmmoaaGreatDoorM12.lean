import Derived.Test.YtjopoheligmmoaaGreatDoorProg
import Derived.Test.YtjopoheligmmoaaGreatDoorM10
section
/- Lowered functions. -/
namespace Go.Proofs.YtjopoheligmmoaaGreatDoor
open Go Go.cX Go.Proofs
set_option maxRecDepth 100000
def NO:cr Tryz.prog 71:=low Tryz.func71
def NP:cr Tryz.prog 72:=low Tryz.func72
def NQ:cr Tryz.prog 73:=low Tryz.func73
def IV:cr Tryz.prog 74:=low Tryz.func74
def NR:cr Tryz.prog 75:=low Tryz.func75
def RN:cr Tryz.prog 76:=low Tryz.func76
def RO:cr Tryz.prog 77:=low Tryz.func77
def RP:cr Tryz.prog 78:=low Tryz.func78
def RQ:cr Tryz.prog 79:=low Tryz.func79
def NS:cr Tryz.prog 80:=low Tryz.func80
def RR:cr Tryz.prog 81:=low Tryz.func81
def RS:cr Tryz.prog 82:=low Tryz.func82
def NT:cr Tryz.prog 83:=low Tryz.func83
def NU:cr Tryz.prog 84:=low Tryz.func84
def NV:cr Tryz.prog 85:=low Tryz.func85
def RT:cr Tryz.prog 86:=low Tryz.func86
def RU:cr Tryz.prog 87:=low Tryz.func87
def RV:cr Tryz.prog 88:=low Tryz.func88
def RW:cr Tryz.prog 89:=low Tryz.func89
def RX:cr Tryz.prog 90:=low Tryz.func90
def RY:cr Tryz.prog 91:=low Tryz.func91
def B0:cr Tryz.prog 92:=low Tryz.func92
def IW:cr Tryz.prog 93:=low Tryz.func93
def NW:cr Tryz.prog 94:=low Tryz.func94
def RZ:cr Tryz.prog 95:=low Tryz.func95
def NX:cr Tryz.prog 96:=low Tryz.func96
def IX:cr Tryz.prog 97:=low Tryz.func97
def NY:cr Tryz.prog 98:=low Tryz.func98
def NZ:cr Tryz.prog 99:=low Tryz.func99
def EH:cr Tryz.prog 100:=low Tryz.func100
def EI:cr Tryz.prog 101:=low Tryz.func101
def EJ:cr Tryz.prog 102:=low Tryz.func102
def oY:cr Tryz.prog 103:=low Tryz.func103
def xu:cr Tryz.prog 104:=low Tryz.func104
def EK:cr Tryz.prog 105:=low Tryz.func105
def sL:cr Tryz.prog 106:=low Tryz.func106
def xw:cr Tryz.prog 107:=low Tryz.func107
def xx:cr Tryz.prog 108:=low Tryz.func108
def xy:cr Tryz.prog 109:=low Tryz.func109
def xz:cr Tryz.prog 110:=low Tryz.func110
def yA:cr Tryz.prog 111:=low Tryz.func111
def yB:cr Tryz.prog 112:=low Tryz.func112
def uZ:cr Tryz.prog 113:=low Tryz.func113
def yC:cr Tryz.prog 114:=low Tryz.func114
def yD:cr Tryz.prog 115:=low Tryz.func115
def yE:cr Tryz.prog 116:=low Tryz.func116
def yF:cr Tryz.prog 117:=low Tryz.func117
def yG:cr Tryz.prog 118:=low Tryz.func118
def yH:cr Tryz.prog 119:=low Tryz.func119
def yI:cr Tryz.prog 120:=low Tryz.func120
def yJ:cr Tryz.prog 121:=low Tryz.func121
def yK:cr Tryz.prog 122:=low Tryz.func122
def EL:cr Tryz.prog 124:=low Tryz.func124
def EM:cr Tryz.prog 125:=low Tryz.func125
def EN:cr Tryz.prog 126:=low Tryz.func126
def EO:cr Tryz.prog 127:=low Tryz.func127
def EP:cr Tryz.prog 128:=low Tryz.func128
def ER:cr Tryz.prog 129:=low Tryz.func129
def ES:cr Tryz.prog 130:=low Tryz.func130
def ET:cr Tryz.prog 131:=low Tryz.func131
def EU:cr Tryz.prog 132:=low Tryz.func132
def EV:cr Tryz.prog 133:=low Tryz.func133
def EW:cr Tryz.prog 134:=low Tryz.func134
def EX:cr Tryz.prog 135:=low Tryz.func135
def EY:cr Tryz.prog 136:=low Tryz.func136
def EZ:cr Tryz.prog 137:=low Tryz.func137
def E0:cr Tryz.prog 138:=low Tryz.func138
def E1:cr Tryz.prog 139:=low Tryz.func139
def E3:cr Tryz.prog 140:=low Tryz.func140
end Go.Proofs.YtjopoheligmmoaaGreatDoor
end
