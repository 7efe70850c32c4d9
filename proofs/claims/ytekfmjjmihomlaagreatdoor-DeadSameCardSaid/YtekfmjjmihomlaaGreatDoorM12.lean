import Derived.Test.YtekfmjjmihomlaaGreatDoorProg
import Derived.Test.YtekfmjjmihomlaaGreatDoorM10
namespace Go.Proofs.YtekfmjjmihomlaaGreatDoor
open Go Go.cw Go.Proofs
set_option maxRecDepth 100000
def xu:dX Tryz.prog 69:=low Tryz.func69
def OP:dX Tryz.prog 70:=low Tryz.func70
def OQ:dX Tryz.prog 71:=low Tryz.func71
def OR:dX Tryz.prog 72:=low Tryz.func72
def SI:dX Tryz.prog 73:=low Tryz.func73
def SJ:dX Tryz.prog 74:=low Tryz.func74
def SK:dX Tryz.prog 75:=low Tryz.func75
def SL:dX Tryz.prog 76:=low Tryz.func76
def SM:dX Tryz.prog 77:=low Tryz.func77
def SN:dX Tryz.prog 78:=low Tryz.func78
def SO:dX Tryz.prog 79:=low Tryz.func79
def SP:dX Tryz.prog 80:=low Tryz.func80
def SQ:dX Tryz.prog 81:=low Tryz.func81
def SR:dX Tryz.prog 82:=low Tryz.func82
def OS:dX Tryz.prog 83:=low Tryz.func83
def OT:dX Tryz.prog 84:=low Tryz.func84
def JK:dX Tryz.prog 85:=low Tryz.func85
def OU:dX Tryz.prog 86:=low Tryz.func86
def OV:dX Tryz.prog 87:=low Tryz.func87
def OW:dX Tryz.prog 88:=low Tryz.func88
def OX:dX Tryz.prog 89:=low Tryz.func89
def OY:dX Tryz.prog 90:=low Tryz.func90
def OZ:dX Tryz.prog 91:=low Tryz.func91
def O0:dX Tryz.prog 92:=low Tryz.func92
def O1:dX Tryz.prog 93:=low Tryz.func93
def O2:dX Tryz.prog 94:=low Tryz.func94
def O3:dX Tryz.prog 95:=low Tryz.func95
def O4:dX Tryz.prog 96:=low Tryz.func96
def O5:dX Tryz.prog 97:=low Tryz.func97
def JL:dX Tryz.prog 98:=low Tryz.func98
def O6:dX Tryz.prog 99:=low Tryz.func99
def zh:dX Tryz.prog 100:=low Tryz.func100
def zi:dX Tryz.prog 101:=low Tryz.func101
def zj:dX Tryz.prog 102:=low Tryz.func102
def zk:dX Tryz.prog 103:=low Tryz.func103
def zl:dX Tryz.prog 105:=low Tryz.func105
def uN:dX Tryz.prog 106:=low Tryz.func106
def zm:dX Tryz.prog 107:=low Tryz.func107
def zn:dX Tryz.prog 108:=low Tryz.func108
def zo:dX Tryz.prog 109:=low Tryz.func109
def zp:dX Tryz.prog 110:=low Tryz.func110
def zq:dX Tryz.prog 111:=low Tryz.func111
def zr:dX Tryz.prog 112:=low Tryz.func112
def w4:dX Tryz.prog 113:=low Tryz.func113
def GK:dX Tryz.prog 114:=low Tryz.func114
def GL:dX Tryz.prog 115:=low Tryz.func115
def GM:dX Tryz.prog 116:=low Tryz.func116
def GN:dX Tryz.prog 117:=low Tryz.func117
def GO:dX Tryz.prog 118:=low Tryz.func118
def w5:dX Tryz.prog 119:=low Tryz.func119
def zt:dX Tryz.prog 120:=low Tryz.func120
def zu:dX Tryz.prog 121:=low Tryz.func121
def zw:dX Tryz.prog 122:=low Tryz.func122
def zx:dX Tryz.prog 123:=low Tryz.func123
def zy:dX Tryz.prog 124:=low Tryz.func124
def AA:dX Tryz.prog 125:=low Tryz.func125
end Go.Proofs.YtekfmjjmihomlaaGreatDoor
