import Derived.Test.YtjopoheligmmoaaGreatDoorProg
import Derived.Test.YtjopoheligmmoaaGreatDoorM10
namespace Go.Proofs.YtjopoheligmmoaaGreatDoor
open Go Go.dA Go.Proofs
set_option maxRecDepth 100000
def aA5:eB Tryz.prog 71:=low Tryz.func71
def aA6:eB Tryz.prog 72:=low Tryz.func72
def aA7:eB Tryz.prog 73:=low Tryz.func73
def YQ:eB Tryz.prog 74:=low Tryz.func74
def aA8:eB Tryz.prog 75:=low Tryz.func75
def aA9:eB Tryz.prog 76:=low Tryz.func76
def aAa:eB Tryz.prog 77:=low Tryz.func77
def aAb:eB Tryz.prog 78:=low Tryz.func78
def aAc:eB Tryz.prog 79:=low Tryz.func79
def aAd:eB Tryz.prog 80:=low Tryz.func80
def aAe:eB Tryz.prog 83:=low Tryz.func83
def aAf:eB Tryz.prog 84:=low Tryz.func84
def aAg:eB Tryz.prog 85:=low Tryz.func85
def TX:eB Tryz.prog 92:=low Tryz.func92
def YR:eB Tryz.prog 93:=low Tryz.func93
def aAh:eB Tryz.prog 94:=low Tryz.func94
def aAi:eB Tryz.prog 96:=low Tryz.func96
def YS:eB Tryz.prog 97:=low Tryz.func97
def aAj:eB Tryz.prog 98:=low Tryz.func98
def aAk:eB Tryz.prog 99:=low Tryz.func99
def zu:eB Tryz.prog 103:=low Tryz.func103
def V9:eB Tryz.prog 104:=low Tryz.func104
def NI:eB Tryz.prog 106:=low Tryz.func106
def WA:eB Tryz.prog 107:=low Tryz.func107
def WB:eB Tryz.prog 108:=low Tryz.func108
def WG:eB Tryz.prog 109:=low Tryz.func109
def WH:eB Tryz.prog 110:=low Tryz.func110
def WI:eB Tryz.prog 111:=low Tryz.func111
def WJ:eB Tryz.prog 112:=low Tryz.func112
def R8:eB Tryz.prog 113:=low Tryz.func113
def WK:eB Tryz.prog 114:=low Tryz.func114
def WM:eB Tryz.prog 115:=low Tryz.func115
def R9:eB Tryz.prog 116:=low Tryz.func116
def WN:eB Tryz.prog 117:=low Tryz.func117
def WO:eB Tryz.prog 118:=low Tryz.func118
def WQ:eB Tryz.prog 119:=low Tryz.func119
def WR:eB Tryz.prog 120:=low Tryz.func120
def WU:eB Tryz.prog 121:=low Tryz.func121
def WV:eB Tryz.prog 122:=low Tryz.func122
def WW:eB Tryz.prog 124:=low Tryz.func124
def WX:eB Tryz.prog 125:=low Tryz.func125
def WY:eB Tryz.prog 126:=low Tryz.func126
def WZ:eB Tryz.prog 127:=low Tryz.func127
def W0:eB Tryz.prog 128:=low Tryz.func128
def W1:eB Tryz.prog 129:=low Tryz.func129
def W3:eB Tryz.prog 130:=low Tryz.func130
def W4:eB Tryz.prog 131:=low Tryz.func131
end Go.Proofs.YtjopoheligmmoaaGreatDoor
