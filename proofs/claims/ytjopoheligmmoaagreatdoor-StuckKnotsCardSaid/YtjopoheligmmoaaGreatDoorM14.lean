import Derived.Test.YtjopoheligmmoaaGreatDoorProg
import Derived.Test.YtjopoheligmmoaaGreatDoorM10
namespace Go.Proofs.YtjopoheligmmoaaGreatDoor
open Go Go.cu Go.Proofs
set_option maxRecDepth 100000
def VH:eB Tryz.prog 206:=low Tryz.func206
def VI:eB Tryz.prog 207:=low Tryz.func207
def VJ:eB Tryz.prog 208:=low Tryz.func208
def VK:eB Tryz.prog 209:=low Tryz.func209
def VL:eB Tryz.prog 210:=low Tryz.func210
def VM:eB Tryz.prog 211:=low Tryz.func211
def VN:eB Tryz.prog 212:=low Tryz.func212
def VO:eB Tryz.prog 213:=low Tryz.func213
def VP:eB Tryz.prog 214:=low Tryz.func214
def VQ:eB Tryz.prog 215:=low Tryz.func215
def VS:eB Tryz.prog 216:=low Tryz.func216
def VT:eB Tryz.prog 217:=low Tryz.func217
def VU:eB Tryz.prog 218:=low Tryz.func218
def VV:eB Tryz.prog 219:=low Tryz.func219
def VW:eB Tryz.prog 220:=low Tryz.func220
def VX:eB Tryz.prog 221:=low Tryz.func221
def VY:eB Tryz.prog 222:=low Tryz.func222
def VZ:eB Tryz.prog 223:=low Tryz.func223
def V0:eB Tryz.prog 226:=low Tryz.func226
end Go.Proofs.YtjopoheligmmoaaGreatDoor
