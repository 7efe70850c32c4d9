import Derived.Test.YtjopoheligmmoaaGreatDoorProg
import Derived.Test.YtjopoheligmmoaaGreatDoorM10
namespace Go.Proofs.YtjopoheligmmoaaGreatDoor
open Go Go.cp Go.Proofs
set_option maxRecDepth 100000
def SD:eF Tryz.prog 206:=low Tryz.func206
def SE:eF Tryz.prog 207:=low Tryz.func207
def SF:eF Tryz.prog 208:=low Tryz.func208
def SG:eF Tryz.prog 209:=low Tryz.func209
def SH:eF Tryz.prog 210:=low Tryz.func210
def SI:eF Tryz.prog 211:=low Tryz.func211
def SJ:eF Tryz.prog 212:=low Tryz.func212
def SK:eF Tryz.prog 213:=low Tryz.func213
def SL:eF Tryz.prog 214:=low Tryz.func214
def SM:eF Tryz.prog 215:=low Tryz.func215
def SN:eF Tryz.prog 216:=low Tryz.func216
def SO:eF Tryz.prog 217:=low Tryz.func217
def SP:eF Tryz.prog 218:=low Tryz.func218
def SQ:eF Tryz.prog 219:=low Tryz.func219
def SR:eF Tryz.prog 220:=low Tryz.func220
def SS:eF Tryz.prog 221:=low Tryz.func221
def SU:eF Tryz.prog 222:=low Tryz.func222
def SV:eF Tryz.prog 223:=low Tryz.func223
def SX:eF Tryz.prog 226:=low Tryz.func226
end Go.Proofs.YtjopoheligmmoaaGreatDoor
