import Derived.Test.YtjopoheligmmoaaGreatDoorProg
import Derived.Test.YtjopoheligmmoaaGreatDoorM10
section
/- Lowered functions. -/
namespace Go.Proofs.YtjopoheligmmoaaGreatDoor
open Go Go.cY Go.Proofs
set_option maxRecDepth 100000
def E5:ct Tryz.prog 141:=low Tryz.func141
def E6:ct Tryz.prog 142:=low Tryz.func142
def E7:ct Tryz.prog 143:=low Tryz.func143
def E8:ct Tryz.prog 144:=low Tryz.func144
def yM:ct Tryz.prog 145:=low Tryz.func145
def yN:ct Tryz.prog 146:=low Tryz.func146
def yO:ct Tryz.prog 147:=low Tryz.func147
def yP:ct Tryz.prog 148:=low Tryz.func148
def E9:ct Tryz.prog 149:=low Tryz.func149
def yQ:ct Tryz.prog 150:=low Tryz.func150
def yR:ct Tryz.prog 151:=low Tryz.func151
def sN:ct Tryz.prog 152:=low Tryz.func152
def yS:ct Tryz.prog 153:=low Tryz.func153
def FA:ct Tryz.prog 154:=low Tryz.func154
def FB:ct Tryz.prog 155:=low Tryz.func155
def FC:ct Tryz.prog 156:=low Tryz.func156
def FD:ct Tryz.prog 157:=low Tryz.func157
def u5:ct Tryz.prog 158:=low Tryz.func158
def yT:ct Tryz.prog 159:=low Tryz.func159
def yU:ct Tryz.prog 160:=low Tryz.func160
def yV:ct Tryz.prog 161:=low Tryz.func161
def yW:ct Tryz.prog 162:=low Tryz.func162
def yX:ct Tryz.prog 163:=low Tryz.func163
def yY:ct Tryz.prog 164:=low Tryz.func164
def yZ:ct Tryz.prog 165:=low Tryz.func165
def y6:ct Tryz.prog 166:=low Tryz.func166
def y7:ct Tryz.prog 167:=low Tryz.func167
def FE:ct Tryz.prog 168:=low Tryz.func168
def FF:ct Tryz.prog 169:=low Tryz.func169
def FG:ct Tryz.prog 170:=low Tryz.func170
def FH:ct Tryz.prog 171:=low Tryz.func171
def FI:ct Tryz.prog 172:=low Tryz.func172
def FJ:ct Tryz.prog 173:=low Tryz.func173
def FK:ct Tryz.prog 174:=low Tryz.func174
def FL:ct Tryz.prog 175:=low Tryz.func175
def FM:ct Tryz.prog 176:=low Tryz.func176
def FN:ct Tryz.prog 177:=low Tryz.func177
def FO:ct Tryz.prog 178:=low Tryz.func178
def y8:ct Tryz.prog 179:=low Tryz.func179
def FP:ct Tryz.prog 181:=low Tryz.func181
def u6:ct Tryz.prog 182:=low Tryz.func182
def y9:ct Tryz.prog 184:=low Tryz.func184
def yb:ct Tryz.prog 185:=low Tryz.func185
def FQ:ct Tryz.prog 186:=low Tryz.func186
def FT:ct Tryz.prog 187:=low Tryz.func187
def FU:ct Tryz.prog 188:=low Tryz.func188
def FV:ct Tryz.prog 189:=low Tryz.func189
def FW:ct Tryz.prog 190:=low Tryz.func190
def FX:ct Tryz.prog 191:=low Tryz.func191
def FY:ct Tryz.prog 192:=low Tryz.func192
def FZ:ct Tryz.prog 193:=low Tryz.func193
def yc:ct Tryz.prog 194:=low Tryz.func194
def F0:ct Tryz.prog 195:=low Tryz.func195
def yd:ct Tryz.prog 196:=low Tryz.func196
def F1:ct Tryz.prog 197:=low Tryz.func197
def ye:ct Tryz.prog 198:=low Tryz.func198
def yf:ct Tryz.prog 199:=low Tryz.func199
def F2:ct Tryz.prog 200:=low Tryz.func200
end Go.Proofs.YtjopoheligmmoaaGreatDoor
end
