import Derived.Test.YtjopoheligmmoaaGreatDoorProg
import Derived.Test.YtjopoheligmmoaaGreatDoorM10
namespace Go.Proofs.YtjopoheligmmoaaGreatDoor
open Go Go.cw Go.Proofs
set_option maxRecDepth 100000
def XD:dw Tryz.prog 143:=low Tryz.func143
def XE:dw Tryz.prog 144:=low Tryz.func144
def XF:dw Tryz.prog 145:=low Tryz.func145
def XG:dw Tryz.prog 146:=low Tryz.func146
def XH:dw Tryz.prog 147:=low Tryz.func147
def XI:dw Tryz.prog 148:=low Tryz.func148
def XJ:dw Tryz.prog 150:=low Tryz.func150
def XK:dw Tryz.prog 151:=low Tryz.func151
def NH:dw Tryz.prog 152:=low Tryz.func152
def XL:dw Tryz.prog 153:=low Tryz.func153
def XM:dw Tryz.prog 154:=low Tryz.func154
def XN:dw Tryz.prog 155:=low Tryz.func155
def XO:dw Tryz.prog 156:=low Tryz.func156
def XP:dw Tryz.prog 157:=low Tryz.func157
def SK:dw Tryz.prog 158:=low Tryz.func158
def XQ:dw Tryz.prog 159:=low Tryz.func159
def XR:dw Tryz.prog 160:=low Tryz.func160
def XS:dw Tryz.prog 161:=low Tryz.func161
def XU:dw Tryz.prog 162:=low Tryz.func162
def XV:dw Tryz.prog 163:=low Tryz.func163
def XW:dw Tryz.prog 164:=low Tryz.func164
def XX:dw Tryz.prog 165:=low Tryz.func165
def XY:dw Tryz.prog 166:=low Tryz.func166
def XZ:dw Tryz.prog 167:=low Tryz.func167
def X0:dw Tryz.prog 168:=low Tryz.func168
def X1:dw Tryz.prog 169:=low Tryz.func169
def X2:dw Tryz.prog 170:=low Tryz.func170
def NI:dw Tryz.prog 177:=low Tryz.func177
def X3:dw Tryz.prog 178:=low Tryz.func178
def X4:dw Tryz.prog 179:=low Tryz.func179
def SM:dw Tryz.prog 182:=low Tryz.func182
def X5:dw Tryz.prog 184:=low Tryz.func184
def X6:dw Tryz.prog 185:=low Tryz.func185
def X7:dw Tryz.prog 194:=low Tryz.func194
def SN:dw Tryz.prog 195:=low Tryz.func195
def X8:dw Tryz.prog 196:=low Tryz.func196
def X9:dw Tryz.prog 197:=low Tryz.func197
def YA:dw Tryz.prog 198:=low Tryz.func198
def YB:dw Tryz.prog 199:=low Tryz.func199
end Go.Proofs.YtjopoheligmmoaaGreatDoor
