import Derived.Test.YtjopoheligmmoaaGreatDoorProg
import Derived.Test.YtjopoheligmmoaaGreatDoorM10
namespace Go.Proofs.YtjopoheligmmoaaGreatDoor
open Go Go.cw Go.Proofs
set_option maxRecDepth 100000
def aAd:dw Tryz.prog 71:=low Tryz.func71
def aAe:dw Tryz.prog 72:=low Tryz.func72
def aAf:dw Tryz.prog 73:=low Tryz.func73
def Y5:dw Tryz.prog 74:=low Tryz.func74
def aAg:dw Tryz.prog 75:=low Tryz.func75
def aAh:dw Tryz.prog 76:=low Tryz.func76
def aAi:dw Tryz.prog 77:=low Tryz.func77
def aAj:dw Tryz.prog 78:=low Tryz.func78
def aAk:dw Tryz.prog 80:=low Tryz.func80
def aAl:dw Tryz.prog 83:=low Tryz.func83
def aAm:dw Tryz.prog 84:=low Tryz.func84
def aAn:dw Tryz.prog 85:=low Tryz.func85
def NK:dw Tryz.prog 86:=low Tryz.func86
def aAo:dw Tryz.prog 87:=low Tryz.func87
def aAp:dw Tryz.prog 88:=low Tryz.func88
def T6:dw Tryz.prog 89:=low Tryz.func89
def Y6:dw Tryz.prog 90:=low Tryz.func90
def T7:dw Tryz.prog 92:=low Tryz.func92
def Y7:dw Tryz.prog 93:=low Tryz.func93
def aAq:dw Tryz.prog 94:=low Tryz.func94
def aAr:dw Tryz.prog 96:=low Tryz.func96
def Y8:dw Tryz.prog 97:=low Tryz.func97
def aAs:dw Tryz.prog 98:=low Tryz.func98
def aAt:dw Tryz.prog 99:=low Tryz.func99
def NF:dw Tryz.prog 100:=low Tryz.func100
def WM:dw Tryz.prog 101:=low Tryz.func101
def WN:dw Tryz.prog 102:=low Tryz.func102
def AI:dw Tryz.prog 103:=low Tryz.func103
def WO:dw Tryz.prog 104:=low Tryz.func104
def WQ:dw Tryz.prog 105:=low Tryz.func105
def NG:dw Tryz.prog 106:=low Tryz.func106
def WR:dw Tryz.prog 107:=low Tryz.func107
def WU:dw Tryz.prog 108:=low Tryz.func108
def WV:dw Tryz.prog 109:=low Tryz.func109
def WW:dw Tryz.prog 110:=low Tryz.func110
def WX:dw Tryz.prog 111:=low Tryz.func111
def WY:dw Tryz.prog 112:=low Tryz.func112
def SI:dw Tryz.prog 113:=low Tryz.func113
def WZ:dw Tryz.prog 114:=low Tryz.func114
def W0:dw Tryz.prog 115:=low Tryz.func115
def SJ:dw Tryz.prog 116:=low Tryz.func116
def W1:dw Tryz.prog 117:=low Tryz.func117
def W2:dw Tryz.prog 118:=low Tryz.func118
def W3:dw Tryz.prog 119:=low Tryz.func119
def W4:dw Tryz.prog 120:=low Tryz.func120
def W5:dw Tryz.prog 121:=low Tryz.func121
def W6:dw Tryz.prog 122:=low Tryz.func122
def W7:dw Tryz.prog 124:=low Tryz.func124
def W8:dw Tryz.prog 125:=low Tryz.func125
def W9:dw Tryz.prog 126:=low Tryz.func126
def XA:dw Tryz.prog 127:=low Tryz.func127
def XB:dw Tryz.prog 128:=low Tryz.func128
def XC:dw Tryz.prog 129:=low Tryz.func129
end Go.Proofs.YtjopoheligmmoaaGreatDoor
