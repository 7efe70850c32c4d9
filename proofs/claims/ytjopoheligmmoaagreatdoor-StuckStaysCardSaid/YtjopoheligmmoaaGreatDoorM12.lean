import Derived.Test.YtjopoheligmmoaaGreatDoorProg
import Derived.Test.YtjopoheligmmoaaGreatDoorM10
namespace Go.Proofs.YtjopoheligmmoaaGreatDoor
open Go Go.cp Go.Proofs
set_option maxRecDepth 100000
def VE:eF Tryz.prog 71:=low Tryz.func71
def VF:eF Tryz.prog 72:=low Tryz.func72
def VG:eF Tryz.prog 73:=low Tryz.func73
def S5:eF Tryz.prog 74:=low Tryz.func74
def VH:eF Tryz.prog 75:=low Tryz.func75
def VJ:eF Tryz.prog 80:=low Tryz.func80
def VK:eF Tryz.prog 83:=low Tryz.func83
def VL:eF Tryz.prog 84:=low Tryz.func84
def VM:eF Tryz.prog 85:=low Tryz.func85
def O5:eF Tryz.prog 92:=low Tryz.func92
def S6:eF Tryz.prog 93:=low Tryz.func93
def VN:eF Tryz.prog 94:=low Tryz.func94
def VO:eF Tryz.prog 96:=low Tryz.func96
def S7:eF Tryz.prog 97:=low Tryz.func97
def VP:eF Tryz.prog 98:=low Tryz.func98
def VQ:eF Tryz.prog 99:=low Tryz.func99
def xj:eF Tryz.prog 103:=low Tryz.func103
def Q9:eF Tryz.prog 104:=low Tryz.func104
def I1:eF Tryz.prog 106:=low Tryz.func106
def RA:eF Tryz.prog 107:=low Tryz.func107
def RB:eF Tryz.prog 108:=low Tryz.func108
def RC:eF Tryz.prog 109:=low Tryz.func109
def RD:eF Tryz.prog 110:=low Tryz.func110
def RE:eF Tryz.prog 111:=low Tryz.func111
def RF:eF Tryz.prog 112:=low Tryz.func112
def NQ:eF Tryz.prog 113:=low Tryz.func113
def RG:eF Tryz.prog 114:=low Tryz.func114
def RH:eF Tryz.prog 115:=low Tryz.func115
def NR:eF Tryz.prog 116:=low Tryz.func116
def RI:eF Tryz.prog 117:=low Tryz.func117
def RJ:eF Tryz.prog 118:=low Tryz.func118
def RK:eF Tryz.prog 119:=low Tryz.func119
def RL:eF Tryz.prog 120:=low Tryz.func120
def RM:eF Tryz.prog 121:=low Tryz.func121
def RN:eF Tryz.prog 122:=low Tryz.func122
end Go.Proofs.YtjopoheligmmoaaGreatDoor
