import Derived.Test.YtmonponfppdgfaaGreatDoorProg
import Derived.Test.YtmonponfppdgfaaGreatDoorM10
namespace Go.Proofs.YtmonponfppdgfaaGreatDoor
open Go Go.dD Go.Proofs
set_option maxRecDepth 100000
def HM:eD Tryz.prog 84:=low Tryz.func84
def HN:eD Tryz.prog 85:=low Tryz.func85
def CV:eD Tryz.prog 86:=low Tryz.func86
def HO:eD Tryz.prog 87:=low Tryz.func87
def HQ:eD Tryz.prog 88:=low Tryz.func88
def HR:eD Tryz.prog 89:=low Tryz.func89
def HT:eD Tryz.prog 90:=low Tryz.func90
def HU:eD Tryz.prog 91:=low Tryz.func91
def HV:eD Tryz.prog 92:=low Tryz.func92
def HW:eD Tryz.prog 93:=low Tryz.func93
def HX:eD Tryz.prog 94:=low Tryz.func94
def HY:eD Tryz.prog 95:=low Tryz.func95
def HZ:eD Tryz.prog 96:=low Tryz.func96
def H6:eD Tryz.prog 97:=low Tryz.func97
def H7:eD Tryz.prog 98:=low Tryz.func98
def CW:eD Tryz.prog 99:=low Tryz.func99
def wx:eD Tryz.prog 100:=low Tryz.func100
def wy:eD Tryz.prog 101:=low Tryz.func101
def wz:eD Tryz.prog 102:=low Tryz.func102
def xA:eD Tryz.prog 103:=low Tryz.func103
def xB:eD Tryz.prog 104:=low Tryz.func104
def xC:eD Tryz.prog 105:=low Tryz.func105
def xD:eD Tryz.prog 106:=low Tryz.func106
def xE:eD Tryz.prog 107:=low Tryz.func107
def xF:eD Tryz.prog 108:=low Tryz.func108
def xG:eD Tryz.prog 109:=low Tryz.func109
def xH:eD Tryz.prog 110:=low Tryz.func110
def uT:eD Tryz.prog 111:=low Tryz.func111
def xI:eD Tryz.prog 112:=low Tryz.func112
def xJ:eD Tryz.prog 113:=low Tryz.func113
def xK:eD Tryz.prog 114:=low Tryz.func114
def xL:eD Tryz.prog 116:=low Tryz.func116
def xM:eD Tryz.prog 117:=low Tryz.func117
end Go.Proofs.YtmonponfppdgfaaGreatDoor
