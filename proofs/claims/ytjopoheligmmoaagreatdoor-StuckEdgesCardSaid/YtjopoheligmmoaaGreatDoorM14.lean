import Derived.Test.YtjopoheligmmoaaGreatDoorProg
import Derived.Test.YtjopoheligmmoaaGreatDoorM10
namespace Go.Proofs.YtjopoheligmmoaaGreatDoor
open Go Go.dA Go.Proofs
set_option maxRecDepth 100000
def X0:eB Tryz.prog 206:=low Tryz.func206
def X1:eB Tryz.prog 207:=low Tryz.func207
def X2:eB Tryz.prog 208:=low Tryz.func208
def X3:eB Tryz.prog 209:=low Tryz.func209
def X4:eB Tryz.prog 210:=low Tryz.func210
def X5:eB Tryz.prog 211:=low Tryz.func211
def X6:eB Tryz.prog 212:=low Tryz.func212
def X7:eB Tryz.prog 213:=low Tryz.func213
def X8:eB Tryz.prog 214:=low Tryz.func214
def X9:eB Tryz.prog 215:=low Tryz.func215
def YA:eB Tryz.prog 216:=low Tryz.func216
def YB:eB Tryz.prog 217:=low Tryz.func217
def YC:eB Tryz.prog 218:=low Tryz.func218
def YD:eB Tryz.prog 219:=low Tryz.func219
def YE:eB Tryz.prog 220:=low Tryz.func220
def YF:eB Tryz.prog 221:=low Tryz.func221
def YG:eB Tryz.prog 222:=low Tryz.func222
def YH:eB Tryz.prog 223:=low Tryz.func223
def YI:eB Tryz.prog 226:=low Tryz.func226
end Go.Proofs.YtjopoheligmmoaaGreatDoor
