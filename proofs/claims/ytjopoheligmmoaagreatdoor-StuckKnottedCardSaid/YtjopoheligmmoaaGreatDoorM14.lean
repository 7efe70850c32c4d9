import Derived.Test.YtjopoheligmmoaaGreatDoorProg
import Derived.Test.YtjopoheligmmoaaGreatDoorM10
section
/- Lowered functions. -/
namespace Go.Proofs.YtjopoheligmmoaaGreatDoor
open Go Go.cY Go.Proofs
set_option maxRecDepth 100000
def GW:ct Tryz.prog 202:=low Tryz.func202
def GX:ct Tryz.prog 203:=low Tryz.func203
def GY:ct Tryz.prog 204:=low Tryz.func204
def GZ:ct Tryz.prog 205:=low Tryz.func205
def zB:ct Tryz.prog 206:=low Tryz.func206
def zC:ct Tryz.prog 207:=low Tryz.func207
def zD:ct Tryz.prog 208:=low Tryz.func208
def zF:ct Tryz.prog 209:=low Tryz.func209
def zG:ct Tryz.prog 210:=low Tryz.func210
def zH:ct Tryz.prog 211:=low Tryz.func211
def zI:ct Tryz.prog 212:=low Tryz.func212
def zJ:ct Tryz.prog 213:=low Tryz.func213
def zK:ct Tryz.prog 214:=low Tryz.func214
def zL:ct Tryz.prog 215:=low Tryz.func215
def zM:ct Tryz.prog 216:=low Tryz.func216
def zN:ct Tryz.prog 217:=low Tryz.func217
def zO:ct Tryz.prog 218:=low Tryz.func218
def zP:ct Tryz.prog 219:=low Tryz.func219
def zQ:ct Tryz.prog 220:=low Tryz.func220
def zR:ct Tryz.prog 221:=low Tryz.func221
def zV:ct Tryz.prog 222:=low Tryz.func222
def zW:ct Tryz.prog 223:=low Tryz.func223
def G0:ct Tryz.prog 225:=low Tryz.func225
def zX:ct Tryz.prog 226:=low Tryz.func226
end Go.Proofs.YtjopoheligmmoaaGreatDoor
end
