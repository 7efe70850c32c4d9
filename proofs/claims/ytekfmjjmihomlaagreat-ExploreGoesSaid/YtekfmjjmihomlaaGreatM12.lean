import Derived.Test.YtekfmjjmihomlaaGreatProg
import Derived.Test.YtekfmjjmihomlaaGreatM10
section
/- Lowered functions. -/
namespace Go.Proofs.YtekfmjjmihomlaaGreat
open Go Go.cO Go.Proofs
set_option maxRecDepth 100000
def C6:cw Tryz.prog 61:=low Tryz.func61
def F9:cw Tryz.prog 62:=low Tryz.func62
def C7:cw Tryz.prog 63:=low Tryz.func63
def C8:cw Tryz.prog 64:=low Tryz.func64
def C9:cw Tryz.prog 65:=low Tryz.func65
def GA:cw Tryz.prog 66:=low Tryz.func66
def GB:cw Tryz.prog 67:=low Tryz.func67
def GC:cw Tryz.prog 68:=low Tryz.func68
def GD:cw Tryz.prog 69:=low Tryz.func69
def GF:cw Tryz.prog 70:=low Tryz.func70
def GG:cw Tryz.prog 71:=low Tryz.func71
def GH:cw Tryz.prog 72:=low Tryz.func72
def GI:cw Tryz.prog 73:=low Tryz.func73
def GJ:cw Tryz.prog 74:=low Tryz.func74
def GK:cw Tryz.prog 75:=low Tryz.func75
def DA:cw Tryz.prog 76:=low Tryz.func76
def DB:cw Tryz.prog 77:=low Tryz.func77
def DC:cw Tryz.prog 78:=low Tryz.func78
def DD:cw Tryz.prog 79:=low Tryz.func79
def DE:cw Tryz.prog 80:=low Tryz.func80
def DF:cw Tryz.prog 81:=low Tryz.func81
def wR:cw Tryz.prog 82:=low Tryz.func82
def DG:cw Tryz.prog 83:=low Tryz.func83
def DH:cw Tryz.prog 84:=low Tryz.func84
def DI:cw Tryz.prog 85:=low Tryz.func85
def DJ:cw Tryz.prog 86:=low Tryz.func86
def DK:cw Tryz.prog 87:=low Tryz.func87
def DL:cw Tryz.prog 88:=low Tryz.func88
def zh:cw Tryz.prog 89:=low Tryz.func89
def DM:cw Tryz.prog 90:=low Tryz.func90
def DN:cw Tryz.prog 91:=low Tryz.func91
def zi:cw Tryz.prog 92:=low Tryz.func92
def zj:cw Tryz.prog 94:=low Tryz.func94
def GL:cw Tryz.prog 96:=low Tryz.func96
def GM:cw Tryz.prog 97:=low Tryz.func97
def GN:cw Tryz.prog 98:=low Tryz.func98
def GO:cw Tryz.prog 99:=low Tryz.func99
def xh:cw Tryz.prog 100:=low Tryz.func100
def xi:cw Tryz.prog 101:=low Tryz.func101
def xj:cw Tryz.prog 102:=low Tryz.func102
def xk:cw Tryz.prog 103:=low Tryz.func103
def xl:cw Tryz.prog 104:=low Tryz.func104
def xm:cw Tryz.prog 105:=low Tryz.func105
def xn:cw Tryz.prog 106:=low Tryz.func106
def xo:cw Tryz.prog 107:=low Tryz.func107
def xp:cw Tryz.prog 108:=low Tryz.func108
def xq:cw Tryz.prog 109:=low Tryz.func109
def xr:cw Tryz.prog 110:=low Tryz.func110
def xu:cw Tryz.prog 111:=low Tryz.func111
def xw:cw Tryz.prog 112:=low Tryz.func112
def xx:cw Tryz.prog 113:=low Tryz.func113
def tm:cw Tryz.prog 114:=low Tryz.func114
def tn:cw Tryz.prog 115:=low Tryz.func115
def tq:cw Tryz.prog 116:=low Tryz.func116
def tu:cw Tryz.prog 117:=low Tryz.func117
def tv:cw Tryz.prog 118:=low Tryz.func118
def tw:cw Tryz.prog 119:=low Tryz.func119
def tx:cw Tryz.prog 120:=low Tryz.func120
end Go.Proofs.YtekfmjjmihomlaaGreat
end
