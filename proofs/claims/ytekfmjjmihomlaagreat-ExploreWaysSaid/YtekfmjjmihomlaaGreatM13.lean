import Derived.Test.YtekfmjjmihomlaaGreatProg
import Derived.Test.YtekfmjjmihomlaaGreatM10
section
/- Lowered functions. -/
namespace Go.Proofs.YtekfmjjmihomlaaGreat
open Go Go.cV Go.Proofs
set_option maxRecDepth 100000
def vt:dK Tryz.prog 121:=low Tryz.func121
def sy:dK Tryz.prog 122:=low Tryz.func122
def vu:dK Tryz.prog 123:=low Tryz.func123
def vv:dK Tryz.prog 124:=low Tryz.func124
def vw:dK Tryz.prog 125:=low Tryz.func125
def vx:dK Tryz.prog 126:=low Tryz.func126
def vy:dK Tryz.prog 128:=low Tryz.func128
def vz:dK Tryz.prog 129:=low Tryz.func129
def wA:dK Tryz.prog 130:=low Tryz.func130
def wB:dK Tryz.prog 131:=low Tryz.func131
def wC:dK Tryz.prog 132:=low Tryz.func132
def wD:dK Tryz.prog 133:=low Tryz.func133
def wE:dK Tryz.prog 134:=low Tryz.func134
def tA:dK Tryz.prog 135:=low Tryz.func135
def wF:dK Tryz.prog 136:=low Tryz.func136
def wG:dK Tryz.prog 137:=low Tryz.func137
def AP:dK Tryz.prog 138:=low Tryz.func138
def AQ:dK Tryz.prog 139:=low Tryz.func139
def AR:dK Tryz.prog 140:=low Tryz.func140
def AS:dK Tryz.prog 141:=low Tryz.func141
def AT:dK Tryz.prog 142:=low Tryz.func142
def wH:dK Tryz.prog 143:=low Tryz.func143
def wI:dK Tryz.prog 144:=low Tryz.func144
def wJ:dK Tryz.prog 145:=low Tryz.func145
def wK:dK Tryz.prog 146:=low Tryz.func146
def AU:dK Tryz.prog 147:=low Tryz.func147
def wL:dK Tryz.prog 149:=low Tryz.func149
def wM:dK Tryz.prog 150:=low Tryz.func150
def wN:dK Tryz.prog 151:=low Tryz.func151
def qd:dK Tryz.prog 152:=low Tryz.func152
def wO:dK Tryz.prog 153:=low Tryz.func153
def AW:dK Tryz.prog 154:=low Tryz.func154
def wP:dK Tryz.prog 155:=low Tryz.func155
def wQ:dK Tryz.prog 156:=low Tryz.func156
def wR:dK Tryz.prog 157:=low Tryz.func157
def wS:dK Tryz.prog 158:=low Tryz.func158
def wT:dK Tryz.prog 159:=low Tryz.func159
def wU:dK Tryz.prog 160:=low Tryz.func160
def wV:dK Tryz.prog 161:=low Tryz.func161
def wW:dK Tryz.prog 162:=low Tryz.func162
def wX:dK Tryz.prog 163:=low Tryz.func163
def wY:dK Tryz.prog 164:=low Tryz.func164
def wZ:dK Tryz.prog 165:=low Tryz.func165
def w3:dK Tryz.prog 166:=low Tryz.func166
def w4:dK Tryz.prog 167:=low Tryz.func167
def w5:dK Tryz.prog 168:=low Tryz.func168
def w6:dK Tryz.prog 169:=low Tryz.func169
def w7:dK Tryz.prog 170:=low Tryz.func170
def w8:dK Tryz.prog 171:=low Tryz.func171
def w9:dK Tryz.prog 172:=low Tryz.func172
def wa:dK Tryz.prog 173:=low Tryz.func173
end Go.Proofs.YtekfmjjmihomlaaGreat
end
