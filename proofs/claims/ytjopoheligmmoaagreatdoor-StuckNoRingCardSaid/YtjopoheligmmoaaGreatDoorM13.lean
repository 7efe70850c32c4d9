import Derived.Test.YtjopoheligmmoaaGreatDoorProg
import Derived.Test.YtjopoheligmmoaaGreatDoorM10
section
/- Lowered functions. -/
namespace Go.Proofs.YtjopoheligmmoaaGreatDoor
open Go Go.cY Go.Proofs
set_option maxRecDepth 100000
def FN:cr Tryz.prog 141:=low Tryz.func141
def FO:cr Tryz.prog 142:=low Tryz.func142
def FP:cr Tryz.prog 143:=low Tryz.func143
def FQ:cr Tryz.prog 144:=low Tryz.func144
def yY:cr Tryz.prog 145:=low Tryz.func145
def yZ:cr Tryz.prog 146:=low Tryz.func146
def y6:cr Tryz.prog 147:=low Tryz.func147
def y7:cr Tryz.prog 148:=low Tryz.func148
def FT:cr Tryz.prog 149:=low Tryz.func149
def y8:cr Tryz.prog 150:=low Tryz.func150
def y9:cr Tryz.prog 151:=low Tryz.func151
def s8:cr Tryz.prog 152:=low Tryz.func152
def yb:cr Tryz.prog 153:=low Tryz.func153
def FU:cr Tryz.prog 154:=low Tryz.func154
def FV:cr Tryz.prog 155:=low Tryz.func155
def FW:cr Tryz.prog 156:=low Tryz.func156
def FX:cr Tryz.prog 157:=low Tryz.func157
def uq:cr Tryz.prog 158:=low Tryz.func158
def yc:cr Tryz.prog 159:=low Tryz.func159
def yd:cr Tryz.prog 160:=low Tryz.func160
def ye:cr Tryz.prog 161:=low Tryz.func161
def yf:cr Tryz.prog 162:=low Tryz.func162
def yg:cr Tryz.prog 163:=low Tryz.func163
def yh:cr Tryz.prog 164:=low Tryz.func164
def yi:cr Tryz.prog 165:=low Tryz.func165
def yj:cr Tryz.prog 166:=low Tryz.func166
def yk:cr Tryz.prog 167:=low Tryz.func167
def FY:cr Tryz.prog 168:=low Tryz.func168
def FZ:cr Tryz.prog 169:=low Tryz.func169
def F0:cr Tryz.prog 170:=low Tryz.func170
def F1:cr Tryz.prog 171:=low Tryz.func171
def F2:cr Tryz.prog 172:=low Tryz.func172
def F3:cr Tryz.prog 173:=low Tryz.func173
def F4:cr Tryz.prog 174:=low Tryz.func174
def F5:cr Tryz.prog 175:=low Tryz.func175
def F6:cr Tryz.prog 176:=low Tryz.func176
def F7:cr Tryz.prog 177:=low Tryz.func177
def F8:cr Tryz.prog 178:=low Tryz.func178
def yl:cr Tryz.prog 179:=low Tryz.func179
def F9:cr Tryz.prog 181:=low Tryz.func181
def ur:cr Tryz.prog 182:=low Tryz.func182
def ym:cr Tryz.prog 184:=low Tryz.func184
def yn:cr Tryz.prog 185:=low Tryz.func185
def GA:cr Tryz.prog 186:=low Tryz.func186
def GB:cr Tryz.prog 187:=low Tryz.func187
def GC:cr Tryz.prog 188:=low Tryz.func188
def GD:cr Tryz.prog 189:=low Tryz.func189
def GF:cr Tryz.prog 190:=low Tryz.func190
def GG:cr Tryz.prog 191:=low Tryz.func191
def GH:cr Tryz.prog 192:=low Tryz.func192
def GI:cr Tryz.prog 193:=low Tryz.func193
def yo:cr Tryz.prog 194:=low Tryz.func194
def GJ:cr Tryz.prog 195:=low Tryz.func195
def yp:cr Tryz.prog 196:=low Tryz.func196
def GK:cr Tryz.prog 197:=low Tryz.func197
def yq:cr Tryz.prog 198:=low Tryz.func198
def yr:cr Tryz.prog 199:=low Tryz.func199
def GL:cr Tryz.prog 200:=low Tryz.func200
end Go.Proofs.YtjopoheligmmoaaGreatDoor
end
