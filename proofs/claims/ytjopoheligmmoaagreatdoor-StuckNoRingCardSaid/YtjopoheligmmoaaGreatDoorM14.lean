import Derived.Test.YtjopoheligmmoaaGreatDoorProg
import Derived.Test.YtjopoheligmmoaaGreatDoorM10
section
/- Lowered functions. -/
namespace Go.Proofs.YtjopoheligmmoaaGreatDoor
open Go Go.cY Go.Proofs
set_option maxRecDepth 100000
def GM:cr Tryz.prog 202:=low Tryz.func202
def GN:cr Tryz.prog 203:=low Tryz.func203
def GO:cr Tryz.prog 204:=low Tryz.func204
def GP:cr Tryz.prog 205:=low Tryz.func205
def yu:cr Tryz.prog 206:=low Tryz.func206
def yw:cr Tryz.prog 207:=low Tryz.func207
def yx:cr Tryz.prog 208:=low Tryz.func208
def yy:cr Tryz.prog 209:=low Tryz.func209
def yz:cr Tryz.prog 210:=low Tryz.func210
def zA:cr Tryz.prog 211:=low Tryz.func211
def zB:cr Tryz.prog 212:=low Tryz.func212
def zC:cr Tryz.prog 213:=low Tryz.func213
def zD:cr Tryz.prog 214:=low Tryz.func214
def zF:cr Tryz.prog 215:=low Tryz.func215
def zG:cr Tryz.prog 216:=low Tryz.func216
def zH:cr Tryz.prog 217:=low Tryz.func217
def zI:cr Tryz.prog 218:=low Tryz.func218
def zJ:cr Tryz.prog 219:=low Tryz.func219
def zK:cr Tryz.prog 220:=low Tryz.func220
def zL:cr Tryz.prog 221:=low Tryz.func221
def zM:cr Tryz.prog 222:=low Tryz.func222
def zN:cr Tryz.prog 223:=low Tryz.func223
def GQ:cr Tryz.prog 225:=low Tryz.func225
def zO:cr Tryz.prog 226:=low Tryz.func226
end Go.Proofs.YtjopoheligmmoaaGreatDoor
end
