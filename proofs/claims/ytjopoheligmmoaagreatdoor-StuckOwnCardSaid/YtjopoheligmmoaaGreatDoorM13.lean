import Derived.Test.YtjopoheligmmoaaGreatDoorProg
import Derived.Test.YtjopoheligmmoaaGreatDoorM10
section
/- Lowered functions. -/
namespace Go.Proofs.YtjopoheligmmoaaGreatDoor
open Go Go.cZ Go.Proofs
set_option maxRecDepth 100000
def F4:cu Tryz.prog 141:=low Tryz.func141
def F5:cu Tryz.prog 142:=low Tryz.func142
def F6:cu Tryz.prog 143:=low Tryz.func143
def F7:cu Tryz.prog 144:=low Tryz.func144
def yq:cu Tryz.prog 145:=low Tryz.func145
def yr:cu Tryz.prog 146:=low Tryz.func146
def yu:cu Tryz.prog 147:=low Tryz.func147
def yw:cu Tryz.prog 148:=low Tryz.func148
def F8:cu Tryz.prog 149:=low Tryz.func149
def yx:cu Tryz.prog 150:=low Tryz.func150
def yy:cu Tryz.prog 151:=low Tryz.func151
def sn:cu Tryz.prog 152:=low Tryz.func152
def yz:cu Tryz.prog 153:=low Tryz.func153
def F9:cu Tryz.prog 154:=low Tryz.func154
def GA:cu Tryz.prog 155:=low Tryz.func155
def GB:cu Tryz.prog 156:=low Tryz.func156
def GC:cu Tryz.prog 157:=low Tryz.func157
def vF:cu Tryz.prog 158:=low Tryz.func158
def zA:cu Tryz.prog 159:=low Tryz.func159
def zB:cu Tryz.prog 160:=low Tryz.func160
def zC:cu Tryz.prog 161:=low Tryz.func161
def zD:cu Tryz.prog 162:=low Tryz.func162
def zF:cu Tryz.prog 163:=low Tryz.func163
def zG:cu Tryz.prog 164:=low Tryz.func164
def zH:cu Tryz.prog 165:=low Tryz.func165
def zI:cu Tryz.prog 166:=low Tryz.func166
def zJ:cu Tryz.prog 167:=low Tryz.func167
def GD:cu Tryz.prog 168:=low Tryz.func168
def GF:cu Tryz.prog 169:=low Tryz.func169
def GG:cu Tryz.prog 170:=low Tryz.func170
def GH:cu Tryz.prog 171:=low Tryz.func171
def GI:cu Tryz.prog 172:=low Tryz.func172
def GJ:cu Tryz.prog 173:=low Tryz.func173
def GK:cu Tryz.prog 174:=low Tryz.func174
def GL:cu Tryz.prog 175:=low Tryz.func175
def GM:cu Tryz.prog 176:=low Tryz.func176
def GN:cu Tryz.prog 177:=low Tryz.func177
def GO:cu Tryz.prog 178:=low Tryz.func178
def zK:cu Tryz.prog 179:=low Tryz.func179
def GP:cu Tryz.prog 181:=low Tryz.func181
def vG:cu Tryz.prog 182:=low Tryz.func182
def zL:cu Tryz.prog 184:=low Tryz.func184
def zM:cu Tryz.prog 185:=low Tryz.func185
def GQ:cu Tryz.prog 186:=low Tryz.func186
def GR:cu Tryz.prog 187:=low Tryz.func187
def GS:cu Tryz.prog 188:=low Tryz.func188
def GU:cu Tryz.prog 189:=low Tryz.func189
def GV:cu Tryz.prog 190:=low Tryz.func190
def GW:cu Tryz.prog 191:=low Tryz.func191
def GX:cu Tryz.prog 192:=low Tryz.func192
def GY:cu Tryz.prog 193:=low Tryz.func193
def zN:cu Tryz.prog 194:=low Tryz.func194
def GZ:cu Tryz.prog 195:=low Tryz.func195
def zO:cu Tryz.prog 196:=low Tryz.func196
def G0:cu Tryz.prog 197:=low Tryz.func197
def zP:cu Tryz.prog 198:=low Tryz.func198
def zQ:cu Tryz.prog 199:=low Tryz.func199
def G1:cu Tryz.prog 200:=low Tryz.func200
end Go.Proofs.YtjopoheligmmoaaGreatDoor
end
