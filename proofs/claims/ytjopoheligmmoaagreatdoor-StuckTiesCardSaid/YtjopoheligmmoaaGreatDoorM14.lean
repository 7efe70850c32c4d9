import Derived.Test.YtjopoheligmmoaaGreatDoorProg
import Derived.Test.YtjopoheligmmoaaGreatDoorM10
section
/- Lowered functions. -/
namespace Go.Proofs.YtjopoheligmmoaaGreatDoor
open Go Go.cY Go.Proofs
set_option maxRecDepth 100000
def GI:cu Tryz.prog 202:=low Tryz.func202
def GJ:cu Tryz.prog 203:=low Tryz.func203
def GK:cu Tryz.prog 204:=low Tryz.func204
def GL:cu Tryz.prog 205:=low Tryz.func205
def yu:cu Tryz.prog 206:=low Tryz.func206
def yw:cu Tryz.prog 207:=low Tryz.func207
def yx:cu Tryz.prog 208:=low Tryz.func208
def yy:cu Tryz.prog 209:=low Tryz.func209
def yz:cu Tryz.prog 210:=low Tryz.func210
def zA:cu Tryz.prog 211:=low Tryz.func211
def zB:cu Tryz.prog 212:=low Tryz.func212
def zC:cu Tryz.prog 213:=low Tryz.func213
def zD:cu Tryz.prog 214:=low Tryz.func214
def zF:cu Tryz.prog 215:=low Tryz.func215
def zG:cu Tryz.prog 216:=low Tryz.func216
def zH:cu Tryz.prog 217:=low Tryz.func217
def zI:cu Tryz.prog 218:=low Tryz.func218
def zJ:cu Tryz.prog 219:=low Tryz.func219
def zK:cu Tryz.prog 220:=low Tryz.func220
def zL:cu Tryz.prog 221:=low Tryz.func221
def zM:cu Tryz.prog 222:=low Tryz.func222
def zN:cu Tryz.prog 223:=low Tryz.func223
def GM:cu Tryz.prog 225:=low Tryz.func225
def zO:cu Tryz.prog 226:=low Tryz.func226
end Go.Proofs.YtjopoheligmmoaaGreatDoor
end
