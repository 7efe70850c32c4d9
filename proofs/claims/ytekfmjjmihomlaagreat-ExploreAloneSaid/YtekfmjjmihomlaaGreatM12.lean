import Derived.Test.YtekfmjjmihomlaaGreatProg
import Derived.Test.YtekfmjjmihomlaaGreatM10
section
/- Lowered functions. -/
namespace Go.Proofs.YtekfmjjmihomlaaGreat
open Go Go.cO Go.Proofs
set_option maxRecDepth 100000
def GN:cu Tryz.prog 61:=low Tryz.func61
def GO:cu Tryz.prog 62:=low Tryz.func62
def DI:cu Tryz.prog 63:=low Tryz.func63
def DJ:cu Tryz.prog 64:=low Tryz.func64
def DK:cu Tryz.prog 65:=low Tryz.func65
def GP:cu Tryz.prog 66:=low Tryz.func66
def GQ:cu Tryz.prog 67:=low Tryz.func67
def GR:cu Tryz.prog 68:=low Tryz.func68
def GS:cu Tryz.prog 69:=low Tryz.func69
def GU:cu Tryz.prog 70:=low Tryz.func70
def GV:cu Tryz.prog 71:=low Tryz.func71
def GW:cu Tryz.prog 72:=low Tryz.func72
def GX:cu Tryz.prog 73:=low Tryz.func73
def GY:cu Tryz.prog 74:=low Tryz.func74
def GZ:cu Tryz.prog 75:=low Tryz.func75
def DL:cu Tryz.prog 76:=low Tryz.func76
def DM:cu Tryz.prog 77:=low Tryz.func77
def DN:cu Tryz.prog 78:=low Tryz.func78
def DO:cu Tryz.prog 79:=low Tryz.func79
def DP:cu Tryz.prog 80:=low Tryz.func80
def DQ:cu Tryz.prog 81:=low Tryz.func81
def w3:cu Tryz.prog 82:=low Tryz.func82
def DR:cu Tryz.prog 83:=low Tryz.func83
def DS:cu Tryz.prog 84:=low Tryz.func84
def DT:cu Tryz.prog 85:=low Tryz.func85
def DU:cu Tryz.prog 86:=low Tryz.func86
def DV:cu Tryz.prog 87:=low Tryz.func87
def DW:cu Tryz.prog 88:=low Tryz.func88
def zq:cu Tryz.prog 89:=low Tryz.func89
def DX:cu Tryz.prog 90:=low Tryz.func90
def DY:cu Tryz.prog 91:=low Tryz.func91
def zr:cu Tryz.prog 92:=low Tryz.func92
def zt:cu Tryz.prog 94:=low Tryz.func94
def G0:cu Tryz.prog 96:=low Tryz.func96
def G1:cu Tryz.prog 97:=low Tryz.func97
def G2:cu Tryz.prog 98:=low Tryz.func98
def G3:cu Tryz.prog 99:=low Tryz.func99
def xq:cu Tryz.prog 100:=low Tryz.func100
def xr:cu Tryz.prog 101:=low Tryz.func101
def xu:cu Tryz.prog 102:=low Tryz.func102
def xw:cu Tryz.prog 103:=low Tryz.func103
def xx:cu Tryz.prog 104:=low Tryz.func104
def xy:cu Tryz.prog 105:=low Tryz.func105
def xz:cu Tryz.prog 106:=low Tryz.func106
def yA:cu Tryz.prog 107:=low Tryz.func107
def yB:cu Tryz.prog 108:=low Tryz.func108
def yC:cu Tryz.prog 109:=low Tryz.func109
def yD:cu Tryz.prog 110:=low Tryz.func110
def yE:cu Tryz.prog 111:=low Tryz.func111
def yF:cu Tryz.prog 112:=low Tryz.func112
def yG:cu Tryz.prog 113:=low Tryz.func113
def uB:cu Tryz.prog 114:=low Tryz.func114
def uC:cu Tryz.prog 115:=low Tryz.func115
def uD:cu Tryz.prog 116:=low Tryz.func116
def uE:cu Tryz.prog 117:=low Tryz.func117
def uF:cu Tryz.prog 118:=low Tryz.func118
def uG:cu Tryz.prog 119:=low Tryz.func119
def uH:cu Tryz.prog 120:=low Tryz.func120
end Go.Proofs.YtekfmjjmihomlaaGreat
end
