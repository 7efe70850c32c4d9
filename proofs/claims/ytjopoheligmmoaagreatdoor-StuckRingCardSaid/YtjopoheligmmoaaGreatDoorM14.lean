import Derived.Test.YtjopoheligmmoaaGreatDoorProg
import Derived.Test.YtjopoheligmmoaaGreatDoorM10
section
/- Lowered functions. -/
namespace Go.Proofs.YtjopoheligmmoaaGreatDoor
open Go Go.cX Go.Proofs
set_option maxRecDepth 100000
def F2:cr Tryz.prog 202:=low Tryz.func202
def F3:cr Tryz.prog 203:=low Tryz.func203
def F4:cr Tryz.prog 204:=low Tryz.func204
def F5:cr Tryz.prog 205:=low Tryz.func205
def yf:cr Tryz.prog 206:=low Tryz.func206
def yg:cr Tryz.prog 207:=low Tryz.func207
def yh:cr Tryz.prog 208:=low Tryz.func208
def yi:cr Tryz.prog 209:=low Tryz.func209
def yj:cr Tryz.prog 210:=low Tryz.func210
def yk:cr Tryz.prog 211:=low Tryz.func211
def yl:cr Tryz.prog 212:=low Tryz.func212
def ym:cr Tryz.prog 213:=low Tryz.func213
def yn:cr Tryz.prog 214:=low Tryz.func214
def yo:cr Tryz.prog 215:=low Tryz.func215
def yp:cr Tryz.prog 216:=low Tryz.func216
def yq:cr Tryz.prog 217:=low Tryz.func217
def yr:cr Tryz.prog 218:=low Tryz.func218
def yu:cr Tryz.prog 219:=low Tryz.func219
def yw:cr Tryz.prog 220:=low Tryz.func220
def yx:cr Tryz.prog 221:=low Tryz.func221
def yy:cr Tryz.prog 222:=low Tryz.func222
def yz:cr Tryz.prog 223:=low Tryz.func223
def F6:cr Tryz.prog 225:=low Tryz.func225
def zA:cr Tryz.prog 226:=low Tryz.func226
end Go.Proofs.YtjopoheligmmoaaGreatDoor
end
