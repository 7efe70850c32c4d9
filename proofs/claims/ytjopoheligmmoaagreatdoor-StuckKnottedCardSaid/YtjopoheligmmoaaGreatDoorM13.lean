import Derived.Test.YtjopoheligmmoaaGreatDoorProg
import Derived.Test.YtjopoheligmmoaaGreatDoorM10
section
/- Lowered functions. -/
namespace Go.Proofs.YtjopoheligmmoaaGreatDoor
open Go Go.cY Go.Proofs
set_option maxRecDepth 100000
def FY:ct Tryz.prog 141:=low Tryz.func141
def FZ:ct Tryz.prog 142:=low Tryz.func142
def F0:ct Tryz.prog 143:=low Tryz.func143
def F1:ct Tryz.prog 144:=low Tryz.func144
def yb:ct Tryz.prog 145:=low Tryz.func145
def yc:ct Tryz.prog 146:=low Tryz.func146
def yd:ct Tryz.prog 147:=low Tryz.func147
def ye:ct Tryz.prog 148:=low Tryz.func148
def F2:ct Tryz.prog 149:=low Tryz.func149
def yf:ct Tryz.prog 150:=low Tryz.func150
def yg:ct Tryz.prog 151:=low Tryz.func151
def sd:ct Tryz.prog 152:=low Tryz.func152
def yh:ct Tryz.prog 153:=low Tryz.func153
def F3:ct Tryz.prog 154:=low Tryz.func154
def F4:ct Tryz.prog 155:=low Tryz.func155
def F5:ct Tryz.prog 156:=low Tryz.func156
def F6:ct Tryz.prog 157:=low Tryz.func157
def uw:ct Tryz.prog 158:=low Tryz.func158
def yi:ct Tryz.prog 159:=low Tryz.func159
def yj:ct Tryz.prog 160:=low Tryz.func160
def yk:ct Tryz.prog 161:=low Tryz.func161
def yl:ct Tryz.prog 162:=low Tryz.func162
def ym:ct Tryz.prog 163:=low Tryz.func163
def yn:ct Tryz.prog 164:=low Tryz.func164
def yo:ct Tryz.prog 165:=low Tryz.func165
def yp:ct Tryz.prog 166:=low Tryz.func166
def yq:ct Tryz.prog 167:=low Tryz.func167
def F7:ct Tryz.prog 168:=low Tryz.func168
def F8:ct Tryz.prog 169:=low Tryz.func169
def F9:ct Tryz.prog 170:=low Tryz.func170
def GA:ct Tryz.prog 171:=low Tryz.func171
def GB:ct Tryz.prog 172:=low Tryz.func172
def GC:ct Tryz.prog 173:=low Tryz.func173
def GD:ct Tryz.prog 174:=low Tryz.func174
def GF:ct Tryz.prog 175:=low Tryz.func175
def GG:ct Tryz.prog 176:=low Tryz.func176
def GH:ct Tryz.prog 177:=low Tryz.func177
def GI:ct Tryz.prog 178:=low Tryz.func178
def yr:ct Tryz.prog 179:=low Tryz.func179
def GJ:ct Tryz.prog 181:=low Tryz.func181
def ux:ct Tryz.prog 182:=low Tryz.func182
def yu:ct Tryz.prog 184:=low Tryz.func184
def yw:ct Tryz.prog 185:=low Tryz.func185
def GK:ct Tryz.prog 186:=low Tryz.func186
def GL:ct Tryz.prog 187:=low Tryz.func187
def GM:ct Tryz.prog 188:=low Tryz.func188
def GN:ct Tryz.prog 189:=low Tryz.func189
def GO:ct Tryz.prog 190:=low Tryz.func190
def GP:ct Tryz.prog 191:=low Tryz.func191
def GQ:ct Tryz.prog 192:=low Tryz.func192
def GR:ct Tryz.prog 193:=low Tryz.func193
def yx:ct Tryz.prog 194:=low Tryz.func194
def GS:ct Tryz.prog 195:=low Tryz.func195
def yy:ct Tryz.prog 196:=low Tryz.func196
def GU:ct Tryz.prog 197:=low Tryz.func197
def yz:ct Tryz.prog 198:=low Tryz.func198
def zA:ct Tryz.prog 199:=low Tryz.func199
def GV:ct Tryz.prog 200:=low Tryz.func200
end Go.Proofs.YtjopoheligmmoaaGreatDoor
end
