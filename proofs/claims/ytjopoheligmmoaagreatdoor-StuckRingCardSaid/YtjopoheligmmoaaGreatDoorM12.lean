import Derived.Test.YtjopoheligmmoaaGreatDoorProg
import Derived.Test.YtjopoheligmmoaaGreatDoorM10
section
/- Lowered functions. -/
namespace Go.Proofs.YtjopoheligmmoaaGreatDoor
open Go Go.cY Go.Proofs
set_option maxRecDepth 100000
def NP:ct Tryz.prog 71:=low Tryz.func71
def NQ:ct Tryz.prog 72:=low Tryz.func72
def NR:ct Tryz.prog 73:=low Tryz.func73
def IW:ct Tryz.prog 74:=low Tryz.func74
def NS:ct Tryz.prog 75:=low Tryz.func75
def RO:ct Tryz.prog 76:=low Tryz.func76
def RP:ct Tryz.prog 77:=low Tryz.func77
def RQ:ct Tryz.prog 78:=low Tryz.func78
def RR:ct Tryz.prog 79:=low Tryz.func79
def NT:ct Tryz.prog 80:=low Tryz.func80
def RS:ct Tryz.prog 81:=low Tryz.func81
def RT:ct Tryz.prog 82:=low Tryz.func82
def NU:ct Tryz.prog 83:=low Tryz.func83
def NV:ct Tryz.prog 84:=low Tryz.func84
def NW:ct Tryz.prog 85:=low Tryz.func85
def RU:ct Tryz.prog 86:=low Tryz.func86
def RV:ct Tryz.prog 87:=low Tryz.func87
def RW:ct Tryz.prog 88:=low Tryz.func88
def RX:ct Tryz.prog 89:=low Tryz.func89
def RY:ct Tryz.prog 90:=low Tryz.func90
def RZ:ct Tryz.prog 91:=low Tryz.func91
def B1:ct Tryz.prog 92:=low Tryz.func92
def IX:ct Tryz.prog 93:=low Tryz.func93
def NX:ct Tryz.prog 94:=low Tryz.func94
def R0:ct Tryz.prog 95:=low Tryz.func95
def NY:ct Tryz.prog 96:=low Tryz.func96
def IY:ct Tryz.prog 97:=low Tryz.func97
def NZ:ct Tryz.prog 98:=low Tryz.func98
def N0:ct Tryz.prog 99:=low Tryz.func99
def EI:ct Tryz.prog 100:=low Tryz.func100
def EJ:ct Tryz.prog 101:=low Tryz.func101
def EK:ct Tryz.prog 102:=low Tryz.func102
def oZ:ct Tryz.prog 103:=low Tryz.func103
def xw:ct Tryz.prog 104:=low Tryz.func104
def EL:ct Tryz.prog 105:=low Tryz.func105
def sM:ct Tryz.prog 106:=low Tryz.func106
def xx:ct Tryz.prog 107:=low Tryz.func107
def xy:ct Tryz.prog 108:=low Tryz.func108
def xz:ct Tryz.prog 109:=low Tryz.func109
def yA:ct Tryz.prog 110:=low Tryz.func110
def yB:ct Tryz.prog 111:=low Tryz.func111
def yC:ct Tryz.prog 112:=low Tryz.func112
def u0:ct Tryz.prog 113:=low Tryz.func113
def yD:ct Tryz.prog 114:=low Tryz.func114
def yE:ct Tryz.prog 115:=low Tryz.func115
def yF:ct Tryz.prog 116:=low Tryz.func116
def yG:ct Tryz.prog 117:=low Tryz.func117
def yH:ct Tryz.prog 118:=low Tryz.func118
def yI:ct Tryz.prog 119:=low Tryz.func119
def yJ:ct Tryz.prog 120:=low Tryz.func120
def yK:ct Tryz.prog 121:=low Tryz.func121
def yL:ct Tryz.prog 122:=low Tryz.func122
def EM:ct Tryz.prog 124:=low Tryz.func124
def EN:ct Tryz.prog 125:=low Tryz.func125
def EO:ct Tryz.prog 126:=low Tryz.func126
def EP:ct Tryz.prog 127:=low Tryz.func127
def ER:ct Tryz.prog 128:=low Tryz.func128
def ES:ct Tryz.prog 129:=low Tryz.func129
def ET:ct Tryz.prog 130:=low Tryz.func130
def EU:ct Tryz.prog 131:=low Tryz.func131
def EV:ct Tryz.prog 132:=low Tryz.func132
def EW:ct Tryz.prog 133:=low Tryz.func133
def EX:ct Tryz.prog 134:=low Tryz.func134
def EY:ct Tryz.prog 135:=low Tryz.func135
def EZ:ct Tryz.prog 136:=low Tryz.func136
def E0:ct Tryz.prog 137:=low Tryz.func137
def E1:ct Tryz.prog 138:=low Tryz.func138
def E3:ct Tryz.prog 139:=low Tryz.func139
def E4:ct Tryz.prog 140:=low Tryz.func140
end Go.Proofs.YtjopoheligmmoaaGreatDoor
end
