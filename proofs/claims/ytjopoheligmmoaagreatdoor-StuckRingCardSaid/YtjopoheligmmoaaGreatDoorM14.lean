import Derived.Test.YtjopoheligmmoaaGreatDoorProg
import Derived.Test.YtjopoheligmmoaaGreatDoorM10
section
/- Lowered functions. -/
namespace Go.Proofs.YtjopoheligmmoaaGreatDoor
open Go Go.cY Go.Proofs
set_option maxRecDepth 100000
def F3:ct Tryz.prog 202:=low Tryz.func202
def F4:ct Tryz.prog 203:=low Tryz.func203
def F5:ct Tryz.prog 204:=low Tryz.func204
def F6:ct Tryz.prog 205:=low Tryz.func205
def yg:ct Tryz.prog 206:=low Tryz.func206
def yh:ct Tryz.prog 207:=low Tryz.func207
def yi:ct Tryz.prog 208:=low Tryz.func208
def yj:ct Tryz.prog 209:=low Tryz.func209
def yk:ct Tryz.prog 210:=low Tryz.func210
def yl:ct Tryz.prog 211:=low Tryz.func211
def ym:ct Tryz.prog 212:=low Tryz.func212
def yn:ct Tryz.prog 213:=low Tryz.func213
def yo:ct Tryz.prog 214:=low Tryz.func214
def yp:ct Tryz.prog 215:=low Tryz.func215
def yq:ct Tryz.prog 216:=low Tryz.func216
def yr:ct Tryz.prog 217:=low Tryz.func217
def yu:ct Tryz.prog 218:=low Tryz.func218
def yw:ct Tryz.prog 219:=low Tryz.func219
def yx:ct Tryz.prog 220:=low Tryz.func220
def yy:ct Tryz.prog 221:=low Tryz.func221
def yz:ct Tryz.prog 222:=low Tryz.func222
def zA:ct Tryz.prog 223:=low Tryz.func223
def F7:ct Tryz.prog 225:=low Tryz.func225
def zB:ct Tryz.prog 226:=low Tryz.func226
end Go.Proofs.YtjopoheligmmoaaGreatDoor
end
