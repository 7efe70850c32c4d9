import Derived.Test.YtjopoheligmmoaaGreatDoorProg
import Derived.Test.YtjopoheligmmoaaGreatDoorM10
namespace Go.Proofs.YtjopoheligmmoaaGreatDoor
open Go Go.cu Go.Proofs
set_option maxRecDepth 100000
def YL:eB Tryz.prog 71:=low Tryz.func71
def YM:eB Tryz.prog 72:=low Tryz.func72
def YN:eB Tryz.prog 73:=low Tryz.func73
def WA:eB Tryz.prog 74:=low Tryz.func74
def YO:eB Tryz.prog 75:=low Tryz.func75
def YP:eB Tryz.prog 76:=low Tryz.func76
def YQ:eB Tryz.prog 77:=low Tryz.func77
def YR:eB Tryz.prog 78:=low Tryz.func78
def YS:eB Tryz.prog 80:=low Tryz.func80
def YT:eB Tryz.prog 83:=low Tryz.func83
def YU:eB Tryz.prog 84:=low Tryz.func84
def YV:eB Tryz.prog 85:=low Tryz.func85
def K2:eB Tryz.prog 86:=low Tryz.func86
def YW:eB Tryz.prog 87:=low Tryz.func87
def YX:eB Tryz.prog 88:=low Tryz.func88
def RP:eB Tryz.prog 89:=low Tryz.func89
def WB:eB Tryz.prog 90:=low Tryz.func90
def WG:eB Tryz.prog 91:=low Tryz.func91
def RQ:eB Tryz.prog 92:=low Tryz.func92
def WH:eB Tryz.prog 93:=low Tryz.func93
def YY:eB Tryz.prog 94:=low Tryz.func94
def YZ:eB Tryz.prog 96:=low Tryz.func96
def WI:eB Tryz.prog 97:=low Tryz.func97
def Y0:eB Tryz.prog 98:=low Tryz.func98
def Y1:eB Tryz.prog 99:=low Tryz.func99
def zB:eB Tryz.prog 103:=low Tryz.func103
def TX:eB Tryz.prog 104:=low Tryz.func104
def KY:eB Tryz.prog 106:=low Tryz.func106
def TY:eB Tryz.prog 107:=low Tryz.func107
def TZ:eB Tryz.prog 108:=low Tryz.func108
def T0:eB Tryz.prog 109:=low Tryz.func109
def T1:eB Tryz.prog 110:=low Tryz.func110
def T2:eB Tryz.prog 111:=low Tryz.func111
def T3:eB Tryz.prog 112:=low Tryz.func112
def P2:eB Tryz.prog 113:=low Tryz.func113
def T4:eB Tryz.prog 114:=low Tryz.func114
def T5:eB Tryz.prog 115:=low Tryz.func115
def P3:eB Tryz.prog 116:=low Tryz.func116
def T6:eB Tryz.prog 117:=low Tryz.func117
def T7:eB Tryz.prog 118:=low Tryz.func118
def T8:eB Tryz.prog 119:=low Tryz.func119
def T9:eB Tryz.prog 120:=low Tryz.func120
def UA:eB Tryz.prog 121:=low Tryz.func121
def UB:eB Tryz.prog 122:=low Tryz.func122
def UC:eB Tryz.prog 124:=low Tryz.func124
def UD:eB Tryz.prog 125:=low Tryz.func125
def UE:eB Tryz.prog 126:=low Tryz.func126
def UF:eB Tryz.prog 127:=low Tryz.func127
def UG:eB Tryz.prog 128:=low Tryz.func128
def UH:eB Tryz.prog 129:=low Tryz.func129
end Go.Proofs.YtjopoheligmmoaaGreatDoor
