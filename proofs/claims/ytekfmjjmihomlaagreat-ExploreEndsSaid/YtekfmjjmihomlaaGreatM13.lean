import Derived.Test.YtekfmjjmihomlaaGreatProg
import Derived.Test.YtekfmjjmihomlaaGreatM10
section
/- Lowered functions. -/
namespace Go.Proofs.YtekfmjjmihomlaaGreat
open Go Go.cZ Go.Proofs
set_option maxRecDepth 100000
def w5:dR Tryz.prog 121:=low Tryz.func121
def tj:dR Tryz.prog 122:=low Tryz.func122
def w6:dR Tryz.prog 123:=low Tryz.func123
def w7:dR Tryz.prog 124:=low Tryz.func124
def w8:dR Tryz.prog 125:=low Tryz.func125
def w9:dR Tryz.prog 126:=low Tryz.func126
def wa:dR Tryz.prog 128:=low Tryz.func128
def wc:dR Tryz.prog 129:=low Tryz.func129
def we:dR Tryz.prog 130:=low Tryz.func130
def wg:dR Tryz.prog 131:=low Tryz.func131
def wh:dR Tryz.prog 132:=low Tryz.func132
def wi:dR Tryz.prog 133:=low Tryz.func133
def wj:dR Tryz.prog 134:=low Tryz.func134
def tk:dR Tryz.prog 135:=low Tryz.func135
def wm:dR Tryz.prog 136:=low Tryz.func136
def wq:dR Tryz.prog 137:=low Tryz.func137
def BP:dR Tryz.prog 138:=low Tryz.func138
def BQ:dR Tryz.prog 139:=low Tryz.func139
def BR:dR Tryz.prog 140:=low Tryz.func140
def BS:dR Tryz.prog 141:=low Tryz.func141
def BT:dR Tryz.prog 142:=low Tryz.func142
def wu:dR Tryz.prog 143:=low Tryz.func143
def wv:dR Tryz.prog 144:=low Tryz.func144
def wx:dR Tryz.prog 145:=low Tryz.func145
def wy:dR Tryz.prog 146:=low Tryz.func146
def BU:dR Tryz.prog 147:=low Tryz.func147
def wz:dR Tryz.prog 149:=low Tryz.func149
def xA:dR Tryz.prog 150:=low Tryz.func150
def xB:dR Tryz.prog 151:=low Tryz.func151
def rR:dR Tryz.prog 152:=low Tryz.func152
def xC:dR Tryz.prog 153:=low Tryz.func153
def BV:dR Tryz.prog 154:=low Tryz.func154
def xD:dR Tryz.prog 155:=low Tryz.func155
def xE:dR Tryz.prog 156:=low Tryz.func156
def xF:dR Tryz.prog 157:=low Tryz.func157
def xG:dR Tryz.prog 158:=low Tryz.func158
def xH:dR Tryz.prog 159:=low Tryz.func159
def xI:dR Tryz.prog 160:=low Tryz.func160
def xJ:dR Tryz.prog 161:=low Tryz.func161
def xK:dR Tryz.prog 162:=low Tryz.func162
def xL:dR Tryz.prog 163:=low Tryz.func163
def xM:dR Tryz.prog 164:=low Tryz.func164
def xN:dR Tryz.prog 165:=low Tryz.func165
def xO:dR Tryz.prog 166:=low Tryz.func166
def xP:dR Tryz.prog 167:=low Tryz.func167
def xR:dR Tryz.prog 168:=low Tryz.func168
def xS:dR Tryz.prog 169:=low Tryz.func169
def xT:dR Tryz.prog 170:=low Tryz.func170
def xU:dR Tryz.prog 171:=low Tryz.func171
def xV:dR Tryz.prog 172:=low Tryz.func172
def xW:dR Tryz.prog 173:=low Tryz.func173
end Go.Proofs.YtekfmjjmihomlaaGreat
end
