import Derived.Test.YtekfmjjmihomlaaGreatProg
import Derived.Test.YtekfmjjmihomlaaGreatM10
section
/- Lowered functions. -/
namespace Go.Proofs.YtekfmjjmihomlaaGreat
open Go Go.cV Go.Proofs
set_option maxRecDepth 100000
def GP:dK Tryz.prog 61:=low Tryz.func61
def GQ:dK Tryz.prog 62:=low Tryz.func62
def GR:dK Tryz.prog 63:=low Tryz.func63
def GS:dK Tryz.prog 64:=low Tryz.func64
def GU:dK Tryz.prog 65:=low Tryz.func65
def GV:dK Tryz.prog 66:=low Tryz.func66
def GW:dK Tryz.prog 67:=low Tryz.func67
def GX:dK Tryz.prog 68:=low Tryz.func68
def CR:dK Tryz.prog 69:=low Tryz.func69
def GY:dK Tryz.prog 70:=low Tryz.func70
def GZ:dK Tryz.prog 71:=low Tryz.func71
def G0:dK Tryz.prog 72:=low Tryz.func72
def KO:dK Tryz.prog 73:=low Tryz.func73
def KP:dK Tryz.prog 74:=low Tryz.func74
def G1:dK Tryz.prog 75:=low Tryz.func75
def G2:dK Tryz.prog 76:=low Tryz.func76
def G3:dK Tryz.prog 77:=low Tryz.func77
def G4:dK Tryz.prog 78:=low Tryz.func78
def G5:dK Tryz.prog 79:=low Tryz.func79
def G6:dK Tryz.prog 80:=low Tryz.func80
def G7:dK Tryz.prog 81:=low Tryz.func81
def yc:dK Tryz.prog 82:=low Tryz.func82
def G8:dK Tryz.prog 83:=low Tryz.func83
def G9:dK Tryz.prog 84:=low Tryz.func84
def HA:dK Tryz.prog 85:=low Tryz.func85
def HB:dK Tryz.prog 86:=low Tryz.func86
def HC:dK Tryz.prog 87:=low Tryz.func87
def HD:dK Tryz.prog 88:=low Tryz.func88
def CS:dK Tryz.prog 89:=low Tryz.func89
def HE:dK Tryz.prog 90:=low Tryz.func90
def HF:dK Tryz.prog 91:=low Tryz.func91
def CT:dK Tryz.prog 92:=low Tryz.func92
def CU:dK Tryz.prog 94:=low Tryz.func94
def HG:dK Tryz.prog 96:=low Tryz.func96
def HH:dK Tryz.prog 97:=low Tryz.func97
def HJ:dK Tryz.prog 98:=low Tryz.func98
def CV:dK Tryz.prog 99:=low Tryz.func99
def nh:dK Tryz.prog 100:=low Tryz.func100
def vj:dK Tryz.prog 101:=low Tryz.func101
def qc:dK Tryz.prog 102:=low Tryz.func102
def sx:dK Tryz.prog 103:=low Tryz.func103
def AF:dK Tryz.prog 104:=low Tryz.func104
def AG:dK Tryz.prog 105:=low Tryz.func105
def AH:dK Tryz.prog 106:=low Tryz.func106
def AI:dK Tryz.prog 107:=low Tryz.func107
def AJ:dK Tryz.prog 108:=low Tryz.func108
def AK:dK Tryz.prog 109:=low Tryz.func109
def AL:dK Tryz.prog 110:=low Tryz.func110
def AM:dK Tryz.prog 111:=low Tryz.func111
def AN:dK Tryz.prog 112:=low Tryz.func112
def AO:dK Tryz.prog 113:=low Tryz.func113
def vk:dK Tryz.prog 114:=low Tryz.func114
def vl:dK Tryz.prog 115:=low Tryz.func115
def vm:dK Tryz.prog 116:=low Tryz.func116
def vo:dK Tryz.prog 117:=low Tryz.func117
def vp:dK Tryz.prog 118:=low Tryz.func118
def vq:dK Tryz.prog 119:=low Tryz.func119
def vr:dK Tryz.prog 120:=low Tryz.func120
end Go.Proofs.YtekfmjjmihomlaaGreat
end
