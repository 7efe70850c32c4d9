import Derived.Test.YtekfmjjmihomlaaGreatProg
import Derived.Test.YtekfmjjmihomlaaGreatM10
section
/- Lowered functions. -/
namespace Go.Proofs.YtekfmjjmihomlaaGreat
open Go Go.cN Go.Proofs
set_option maxRecDepth 100000
def FQ:ct Tryz.prog 61:=low Tryz.func61
def FT:ct Tryz.prog 62:=low Tryz.func62
def CN:ct Tryz.prog 63:=low Tryz.func63
def CO:ct Tryz.prog 64:=low Tryz.func64
def CP:ct Tryz.prog 65:=low Tryz.func65
def FU:ct Tryz.prog 66:=low Tryz.func66
def FV:ct Tryz.prog 67:=low Tryz.func67
def FW:ct Tryz.prog 68:=low Tryz.func68
def FX:ct Tryz.prog 69:=low Tryz.func69
def FY:ct Tryz.prog 70:=low Tryz.func70
def FZ:ct Tryz.prog 71:=low Tryz.func71
def F0:ct Tryz.prog 72:=low Tryz.func72
def F1:ct Tryz.prog 73:=low Tryz.func73
def F2:ct Tryz.prog 74:=low Tryz.func74
def F3:ct Tryz.prog 75:=low Tryz.func75
def CQ:ct Tryz.prog 76:=low Tryz.func76
def CR:ct Tryz.prog 77:=low Tryz.func77
def CS:ct Tryz.prog 78:=low Tryz.func78
def CT:ct Tryz.prog 79:=low Tryz.func79
def CU:ct Tryz.prog 80:=low Tryz.func80
def CV:ct Tryz.prog 81:=low Tryz.func81
def wC:ct Tryz.prog 82:=low Tryz.func82
def CW:ct Tryz.prog 83:=low Tryz.func83
def CX:ct Tryz.prog 84:=low Tryz.func84
def CY:ct Tryz.prog 85:=low Tryz.func85
def CZ:ct Tryz.prog 86:=low Tryz.func86
def C0:ct Tryz.prog 87:=low Tryz.func87
def C1:ct Tryz.prog 88:=low Tryz.func88
def zL:ct Tryz.prog 89:=low Tryz.func89
def C2:ct Tryz.prog 90:=low Tryz.func90
def C3:ct Tryz.prog 91:=low Tryz.func91
def zM:ct Tryz.prog 92:=low Tryz.func92
def zN:ct Tryz.prog 94:=low Tryz.func94
def F4:ct Tryz.prog 96:=low Tryz.func96
def F5:ct Tryz.prog 97:=low Tryz.func97
def F6:ct Tryz.prog 98:=low Tryz.func98
def F7:ct Tryz.prog 99:=low Tryz.func99
def xS:ct Tryz.prog 100:=low Tryz.func100
def xT:ct Tryz.prog 101:=low Tryz.func101
def xU:ct Tryz.prog 102:=low Tryz.func102
def xV:ct Tryz.prog 103:=low Tryz.func103
def xW:ct Tryz.prog 104:=low Tryz.func104
def xX:ct Tryz.prog 105:=low Tryz.func105
def xY:ct Tryz.prog 106:=low Tryz.func106
def xZ:ct Tryz.prog 107:=low Tryz.func107
def x6:ct Tryz.prog 108:=low Tryz.func108
def x7:ct Tryz.prog 109:=low Tryz.func109
def x8:ct Tryz.prog 110:=low Tryz.func110
def x9:ct Tryz.prog 111:=low Tryz.func111
def xb:ct Tryz.prog 112:=low Tryz.func112
def xc:ct Tryz.prog 113:=low Tryz.func113
def tR:ct Tryz.prog 114:=low Tryz.func114
def tS:ct Tryz.prog 115:=low Tryz.func115
def tT:ct Tryz.prog 116:=low Tryz.func116
def tU:ct Tryz.prog 117:=low Tryz.func117
def tV:ct Tryz.prog 118:=low Tryz.func118
def tW:ct Tryz.prog 119:=low Tryz.func119
def tX:ct Tryz.prog 120:=low Tryz.func120
end Go.Proofs.YtekfmjjmihomlaaGreat
end
