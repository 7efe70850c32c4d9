import Derived.Test.YtjopoheligmmoaaGreatDoorProg
import Derived.Test.YtjopoheligmmoaaGreatDoorM10
namespace Go.Proofs.YtjopoheligmmoaaGreatDoor
open Go Go.dA Go.Proofs
set_option maxRecDepth 100000
def W6:eB Tryz.prog 145:=low Tryz.func145
def W7:eB Tryz.prog 146:=low Tryz.func146
def W8:eB Tryz.prog 147:=low Tryz.func147
def W9:eB Tryz.prog 148:=low Tryz.func148
def XA:eB Tryz.prog 150:=low Tryz.func150
def XB:eB Tryz.prog 151:=low Tryz.func151
def NJ:eB Tryz.prog 152:=low Tryz.func152
def XC:eB Tryz.prog 153:=low Tryz.func153
def SA:eB Tryz.prog 158:=low Tryz.func158
def XD:eB Tryz.prog 159:=low Tryz.func159
def XF:eB Tryz.prog 160:=low Tryz.func160
def XG:eB Tryz.prog 161:=low Tryz.func161
def XH:eB Tryz.prog 162:=low Tryz.func162
def XI:eB Tryz.prog 163:=low Tryz.func163
def XJ:eB Tryz.prog 164:=low Tryz.func164
def XK:eB Tryz.prog 165:=low Tryz.func165
def XL:eB Tryz.prog 166:=low Tryz.func166
def XM:eB Tryz.prog 167:=low Tryz.func167
def XN:eB Tryz.prog 168:=low Tryz.func168
def XO:eB Tryz.prog 169:=low Tryz.func169
def XP:eB Tryz.prog 170:=low Tryz.func170
def XQ:eB Tryz.prog 171:=low Tryz.func171
def XR:eB Tryz.prog 179:=low Tryz.func179
def SC:eB Tryz.prog 182:=low Tryz.func182
def XS:eB Tryz.prog 184:=low Tryz.func184
def XU:eB Tryz.prog 185:=low Tryz.func185
def XV:eB Tryz.prog 194:=low Tryz.func194
def XW:eB Tryz.prog 196:=low Tryz.func196
def XX:eB Tryz.prog 197:=low Tryz.func197
def XY:eB Tryz.prog 198:=low Tryz.func198
def XZ:eB Tryz.prog 199:=low Tryz.func199
end Go.Proofs.YtjopoheligmmoaaGreatDoor
