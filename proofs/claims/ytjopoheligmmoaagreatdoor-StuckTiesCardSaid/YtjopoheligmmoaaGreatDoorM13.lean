import Derived.Test.YtjopoheligmmoaaGreatDoorProg
import Derived.Test.YtjopoheligmmoaaGreatDoorM10
section
/- Lowered functions. -/
namespace Go.Proofs.YtjopoheligmmoaaGreatDoor
open Go Go.cY Go.Proofs
set_option maxRecDepth 100000
def FJ:cu Tryz.prog 141:=low Tryz.func141
def FK:cu Tryz.prog 142:=low Tryz.func142
def FL:cu Tryz.prog 143:=low Tryz.func143
def FM:cu Tryz.prog 144:=low Tryz.func144
def yY:cu Tryz.prog 145:=low Tryz.func145
def yZ:cu Tryz.prog 146:=low Tryz.func146
def y6:cu Tryz.prog 147:=low Tryz.func147
def y7:cu Tryz.prog 148:=low Tryz.func148
def FN:cu Tryz.prog 149:=low Tryz.func149
def y8:cu Tryz.prog 150:=low Tryz.func150
def y9:cu Tryz.prog 151:=low Tryz.func151
def sY:cu Tryz.prog 152:=low Tryz.func152
def yb:cu Tryz.prog 153:=low Tryz.func153
def FO:cu Tryz.prog 154:=low Tryz.func154
def FP:cu Tryz.prog 155:=low Tryz.func155
def FQ:cu Tryz.prog 156:=low Tryz.func156
def FT:cu Tryz.prog 157:=low Tryz.func157
def uo:cu Tryz.prog 158:=low Tryz.func158
def yc:cu Tryz.prog 159:=low Tryz.func159
def yd:cu Tryz.prog 160:=low Tryz.func160
def ye:cu Tryz.prog 161:=low Tryz.func161
def yf:cu Tryz.prog 162:=low Tryz.func162
def yg:cu Tryz.prog 163:=low Tryz.func163
def yh:cu Tryz.prog 164:=low Tryz.func164
def yi:cu Tryz.prog 165:=low Tryz.func165
def yj:cu Tryz.prog 166:=low Tryz.func166
def yk:cu Tryz.prog 167:=low Tryz.func167
def FU:cu Tryz.prog 168:=low Tryz.func168
def FV:cu Tryz.prog 169:=low Tryz.func169
def FW:cu Tryz.prog 170:=low Tryz.func170
def FX:cu Tryz.prog 171:=low Tryz.func171
def FY:cu Tryz.prog 172:=low Tryz.func172
def FZ:cu Tryz.prog 173:=low Tryz.func173
def F0:cu Tryz.prog 174:=low Tryz.func174
def F1:cu Tryz.prog 175:=low Tryz.func175
def F2:cu Tryz.prog 176:=low Tryz.func176
def F3:cu Tryz.prog 177:=low Tryz.func177
def F4:cu Tryz.prog 178:=low Tryz.func178
def yl:cu Tryz.prog 179:=low Tryz.func179
def F5:cu Tryz.prog 181:=low Tryz.func181
def uq:cu Tryz.prog 182:=low Tryz.func182
def ym:cu Tryz.prog 184:=low Tryz.func184
def yn:cu Tryz.prog 185:=low Tryz.func185
def F6:cu Tryz.prog 186:=low Tryz.func186
def F7:cu Tryz.prog 187:=low Tryz.func187
def F8:cu Tryz.prog 188:=low Tryz.func188
def F9:cu Tryz.prog 189:=low Tryz.func189
def GA:cu Tryz.prog 190:=low Tryz.func190
def GB:cu Tryz.prog 191:=low Tryz.func191
def GC:cu Tryz.prog 192:=low Tryz.func192
def GD:cu Tryz.prog 193:=low Tryz.func193
def yo:cu Tryz.prog 194:=low Tryz.func194
def GF:cu Tryz.prog 195:=low Tryz.func195
def yp:cu Tryz.prog 196:=low Tryz.func196
def GG:cu Tryz.prog 197:=low Tryz.func197
def yq:cu Tryz.prog 198:=low Tryz.func198
def yr:cu Tryz.prog 199:=low Tryz.func199
def GH:cu Tryz.prog 200:=low Tryz.func200
end Go.Proofs.YtjopoheligmmoaaGreatDoor
end
