import Derived.Test.YtjopoheligmmoaaGreatDoorProg
import Derived.Test.YtjopoheligmmoaaGreatDoorM10
section
/- Lowered functions. -/
namespace Go.Proofs.YtjopoheligmmoaaGreatDoor
open Go Go.cZ Go.Proofs
set_option maxRecDepth 100000
def G2:cu Tryz.prog 202:=low Tryz.func202
def G3:cu Tryz.prog 203:=low Tryz.func203
def G4:cu Tryz.prog 204:=low Tryz.func204
def G5:cu Tryz.prog 205:=low Tryz.func205
def zR:cu Tryz.prog 206:=low Tryz.func206
def zV:cu Tryz.prog 207:=low Tryz.func207
def zW:cu Tryz.prog 208:=low Tryz.func208
def zX:cu Tryz.prog 209:=low Tryz.func209
def zY:cu Tryz.prog 210:=low Tryz.func210
def zZ:cu Tryz.prog 211:=low Tryz.func211
def z6:cu Tryz.prog 212:=low Tryz.func212
def z7:cu Tryz.prog 213:=low Tryz.func213
def z8:cu Tryz.prog 214:=low Tryz.func214
def za:cu Tryz.prog 215:=low Tryz.func215
def zb:cu Tryz.prog 216:=low Tryz.func216
def zd:cu Tryz.prog 217:=low Tryz.func217
def ze:cu Tryz.prog 218:=low Tryz.func218
def zf:cu Tryz.prog 219:=low Tryz.func219
def zg:cu Tryz.prog 220:=low Tryz.func220
def zh:cu Tryz.prog 221:=low Tryz.func221
def zi:cu Tryz.prog 222:=low Tryz.func222
def zj:cu Tryz.prog 223:=low Tryz.func223
def G6:cu Tryz.prog 225:=low Tryz.func225
def zk:cu Tryz.prog 226:=low Tryz.func226
end Go.Proofs.YtjopoheligmmoaaGreatDoor
end
