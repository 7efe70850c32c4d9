import Derived.Test.YtekfmjjmihomlaaGreatProg
import Derived.Test.YtekfmjjmihomlaaGreatM10
section
/- Lowered functions. -/
namespace Go.Proofs.YtekfmjjmihomlaaGreat
open Go Go.cZ Go.Proofs
set_option maxRecDepth 100000
def LV:dR Tryz.prog 61:=low Tryz.func61
def LW:dR Tryz.prog 62:=low Tryz.func62
def HZ:dR Tryz.prog 63:=low Tryz.func63
def H5:dR Tryz.prog 64:=low Tryz.func64
def H6:dR Tryz.prog 65:=low Tryz.func65
def H7:dR Tryz.prog 66:=low Tryz.func66
def H8:dR Tryz.prog 67:=low Tryz.func67
def H9:dR Tryz.prog 68:=low Tryz.func68
def DS:dR Tryz.prog 69:=low Tryz.func69
def IA:dR Tryz.prog 70:=low Tryz.func70
def IB:dR Tryz.prog 71:=low Tryz.func71
def IC:dR Tryz.prog 72:=low Tryz.func72
def LX:dR Tryz.prog 73:=low Tryz.func73
def LY:dR Tryz.prog 74:=low Tryz.func74
def ID:dR Tryz.prog 75:=low Tryz.func75
def IE:dR Tryz.prog 76:=low Tryz.func76
def IF:dR Tryz.prog 77:=low Tryz.func77
def IG:dR Tryz.prog 78:=low Tryz.func78
def IH:dR Tryz.prog 79:=low Tryz.func79
def II:dR Tryz.prog 80:=low Tryz.func80
def IJ:dR Tryz.prog 81:=low Tryz.func81
def zN:dR Tryz.prog 82:=low Tryz.func82
def IK:dR Tryz.prog 83:=low Tryz.func83
def IL:dR Tryz.prog 84:=low Tryz.func84
def IM:dR Tryz.prog 85:=low Tryz.func85
def IN:dR Tryz.prog 86:=low Tryz.func86
def IP:dR Tryz.prog 87:=low Tryz.func87
def IQ:dR Tryz.prog 88:=low Tryz.func88
def DT:dR Tryz.prog 89:=low Tryz.func89
def IS:dR Tryz.prog 90:=low Tryz.func90
def IT:dR Tryz.prog 91:=low Tryz.func91
def DU:dR Tryz.prog 92:=low Tryz.func92
def DV:dR Tryz.prog 94:=low Tryz.func94
def IU:dR Tryz.prog 96:=low Tryz.func96
def IV:dR Tryz.prog 97:=low Tryz.func97
def IW:dR Tryz.prog 98:=low Tryz.func98
def DW:dR Tryz.prog 99:=low Tryz.func99
def oI:dR Tryz.prog 100:=low Tryz.func100
def wU:dR Tryz.prog 101:=low Tryz.func101
def rQ:dR Tryz.prog 102:=low Tryz.func102
def tg:dR Tryz.prog 103:=low Tryz.func103
def BF:dR Tryz.prog 104:=low Tryz.func104
def BG:dR Tryz.prog 105:=low Tryz.func105
def BH:dR Tryz.prog 106:=low Tryz.func106
def BI:dR Tryz.prog 107:=low Tryz.func107
def BJ:dR Tryz.prog 108:=low Tryz.func108
def BK:dR Tryz.prog 109:=low Tryz.func109
def BL:dR Tryz.prog 110:=low Tryz.func110
def BM:dR Tryz.prog 111:=low Tryz.func111
def BN:dR Tryz.prog 112:=low Tryz.func112
def BO:dR Tryz.prog 113:=low Tryz.func113
def wV:dR Tryz.prog 114:=low Tryz.func114
def wW:dR Tryz.prog 115:=low Tryz.func115
def wX:dR Tryz.prog 116:=low Tryz.func116
def wY:dR Tryz.prog 117:=low Tryz.func117
def wZ:dR Tryz.prog 118:=low Tryz.func118
def w3:dR Tryz.prog 119:=low Tryz.func119
def w4:dR Tryz.prog 120:=low Tryz.func120
end Go.Proofs.YtekfmjjmihomlaaGreat
end
