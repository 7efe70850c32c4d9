import Derived.Test.YtekfmjjmihomlaaGreatProg
import Derived.Test.YtekfmjjmihomlaaGreatM10
section
/- Lowered functions. -/
namespace Go.Proofs.YtekfmjjmihomlaaGreat
open Go Go.cO Go.Proofs
set_option maxRecDepth 100000
def FB:cq Tryz.prog 61:=low Tryz.func61
def FC:cq Tryz.prog 62:=low Tryz.func62
def B5:cq Tryz.prog 63:=low Tryz.func63
def B6:cq Tryz.prog 64:=low Tryz.func64
def B7:cq Tryz.prog 65:=low Tryz.func65
def FD:cq Tryz.prog 66:=low Tryz.func66
def FE:cq Tryz.prog 67:=low Tryz.func67
def FF:cq Tryz.prog 68:=low Tryz.func68
def FG:cq Tryz.prog 69:=low Tryz.func69
def FH:cq Tryz.prog 70:=low Tryz.func70
def FI:cq Tryz.prog 71:=low Tryz.func71
def FJ:cq Tryz.prog 72:=low Tryz.func72
def FK:cq Tryz.prog 73:=low Tryz.func73
def FL:cq Tryz.prog 74:=low Tryz.func74
def FM:cq Tryz.prog 75:=low Tryz.func75
def B8:cq Tryz.prog 76:=low Tryz.func76
def B9:cq Tryz.prog 77:=low Tryz.func77
def CA:cq Tryz.prog 78:=low Tryz.func78
def CB:cq Tryz.prog 79:=low Tryz.func79
def CC:cq Tryz.prog 80:=low Tryz.func80
def CD:cq Tryz.prog 81:=low Tryz.func81
def vi:cq Tryz.prog 82:=low Tryz.func82
def CE:cq Tryz.prog 83:=low Tryz.func83
def CG:cq Tryz.prog 84:=low Tryz.func84
def CH:cq Tryz.prog 85:=low Tryz.func85
def CI:cq Tryz.prog 86:=low Tryz.func86
def CJ:cq Tryz.prog 87:=low Tryz.func87
def CK:cq Tryz.prog 88:=low Tryz.func88
def yo:cq Tryz.prog 89:=low Tryz.func89
def CL:cq Tryz.prog 90:=low Tryz.func90
def CM:cq Tryz.prog 91:=low Tryz.func91
def yp:cq Tryz.prog 92:=low Tryz.func92
def yq:cq Tryz.prog 94:=low Tryz.func94
def FN:cq Tryz.prog 96:=low Tryz.func96
def FO:cq Tryz.prog 97:=low Tryz.func97
def FP:cq Tryz.prog 98:=low Tryz.func98
def FQ:cq Tryz.prog 99:=low Tryz.func99
def xA:cq Tryz.prog 100:=low Tryz.func100
def xB:cq Tryz.prog 101:=low Tryz.func101
def xC:cq Tryz.prog 102:=low Tryz.func102
def xD:cq Tryz.prog 103:=low Tryz.func103
def xE:cq Tryz.prog 104:=low Tryz.func104
def xF:cq Tryz.prog 105:=low Tryz.func105
def xG:cq Tryz.prog 106:=low Tryz.func106
def xH:cq Tryz.prog 107:=low Tryz.func107
def xI:cq Tryz.prog 108:=low Tryz.func108
def xJ:cq Tryz.prog 109:=low Tryz.func109
def xK:cq Tryz.prog 110:=low Tryz.func110
def xL:cq Tryz.prog 111:=low Tryz.func111
def xM:cq Tryz.prog 112:=low Tryz.func112
def xN:cq Tryz.prog 113:=low Tryz.func113
def tC:cq Tryz.prog 114:=low Tryz.func114
def tD:cq Tryz.prog 115:=low Tryz.func115
def tE:cq Tryz.prog 116:=low Tryz.func116
def tF:cq Tryz.prog 117:=low Tryz.func117
def tG:cq Tryz.prog 118:=low Tryz.func118
def tH:cq Tryz.prog 119:=low Tryz.func119
def tI:cq Tryz.prog 120:=low Tryz.func120
end Go.Proofs.YtekfmjjmihomlaaGreat
end
