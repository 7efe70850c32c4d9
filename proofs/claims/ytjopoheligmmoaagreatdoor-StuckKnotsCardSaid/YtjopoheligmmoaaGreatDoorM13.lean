import Derived.Test.YtjopoheligmmoaaGreatDoorProg
import Derived.Test.YtjopoheligmmoaaGreatDoorM10
namespace Go.Proofs.YtjopoheligmmoaaGreatDoor
open Go Go.cu Go.Proofs
set_option maxRecDepth 100000
def UI:eB Tryz.prog 143:=low Tryz.func143
def UJ:eB Tryz.prog 144:=low Tryz.func144
def UK:eB Tryz.prog 145:=low Tryz.func145
def UL:eB Tryz.prog 146:=low Tryz.func146
def UM:eB Tryz.prog 147:=low Tryz.func147
def UN:eB Tryz.prog 148:=low Tryz.func148
def UO:eB Tryz.prog 150:=low Tryz.func150
def UP:eB Tryz.prog 151:=low Tryz.func151
def KZ:eB Tryz.prog 152:=low Tryz.func152
def UQ:eB Tryz.prog 153:=low Tryz.func153
def P4:eB Tryz.prog 158:=low Tryz.func158
def UR:eB Tryz.prog 159:=low Tryz.func159
def US:eB Tryz.prog 160:=low Tryz.func160
def UT:eB Tryz.prog 161:=low Tryz.func161
def UU:eB Tryz.prog 162:=low Tryz.func162
def UW:eB Tryz.prog 163:=low Tryz.func163
def UX:eB Tryz.prog 164:=low Tryz.func164
def UY:eB Tryz.prog 165:=low Tryz.func165
def UZ:eB Tryz.prog 166:=low Tryz.func166
def U4:eB Tryz.prog 167:=low Tryz.func167
def U5:eB Tryz.prog 168:=low Tryz.func168
def U6:eB Tryz.prog 169:=low Tryz.func169
def U7:eB Tryz.prog 170:=low Tryz.func170
def K0:eB Tryz.prog 177:=low Tryz.func177
def U8:eB Tryz.prog 178:=low Tryz.func178
def U9:eB Tryz.prog 179:=low Tryz.func179
def P6:eB Tryz.prog 182:=low Tryz.func182
def VA:eB Tryz.prog 184:=low Tryz.func184
def VB:eB Tryz.prog 185:=low Tryz.func185
def VC:eB Tryz.prog 194:=low Tryz.func194
def VD:eB Tryz.prog 196:=low Tryz.func196
def VE:eB Tryz.prog 197:=low Tryz.func197
def VF:eB Tryz.prog 198:=low Tryz.func198
def VG:eB Tryz.prog 199:=low Tryz.func199
end Go.Proofs.YtjopoheligmmoaaGreatDoor
