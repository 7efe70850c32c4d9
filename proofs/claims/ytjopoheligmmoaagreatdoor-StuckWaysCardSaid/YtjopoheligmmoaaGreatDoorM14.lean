import Derived.Test.YtjopoheligmmoaaGreatDoorProg
import Derived.Test.YtjopoheligmmoaaGreatDoorM10
namespace Go.Proofs.YtjopoheligmmoaaGreatDoor
open Go Go.cw Go.Proofs
set_option maxRecDepth 100000
def SO:dw Tryz.prog 205:=low Tryz.func205
def YC:dw Tryz.prog 206:=low Tryz.func206
def YD:dw Tryz.prog 207:=low Tryz.func207
def YE:dw Tryz.prog 208:=low Tryz.func208
def YF:dw Tryz.prog 209:=low Tryz.func209
def YG:dw Tryz.prog 210:=low Tryz.func210
def YH:dw Tryz.prog 211:=low Tryz.func211
def YI:dw Tryz.prog 212:=low Tryz.func212
def YJ:dw Tryz.prog 213:=low Tryz.func213
def YK:dw Tryz.prog 214:=low Tryz.func214
def YL:dw Tryz.prog 215:=low Tryz.func215
def YM:dw Tryz.prog 216:=low Tryz.func216
def YN:dw Tryz.prog 217:=low Tryz.func217
def YO:dw Tryz.prog 218:=low Tryz.func218
def YP:dw Tryz.prog 219:=low Tryz.func219
def YQ:dw Tryz.prog 220:=low Tryz.func220
def YR:dw Tryz.prog 221:=low Tryz.func221
def YS:dw Tryz.prog 222:=low Tryz.func222
def YT:dw Tryz.prog 223:=low Tryz.func223
def YU:dw Tryz.prog 226:=low Tryz.func226
end Go.Proofs.YtjopoheligmmoaaGreatDoor
