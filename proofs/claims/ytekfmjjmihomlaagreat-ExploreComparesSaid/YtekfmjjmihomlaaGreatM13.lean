import Derived.Test.YtekfmjjmihomlaaGreatProg
import Derived.Test.YtekfmjjmihomlaaGreatM10
section
/- Lowered functions. -/
namespace Go.Proofs.YtekfmjjmihomlaaGreat
open Go Go.cO Go.Proofs
set_option maxRecDepth 100000
def tJ:cq Tryz.prog 121:=low Tryz.func121
def qK:cq Tryz.prog 122:=low Tryz.func122
def tK:cq Tryz.prog 123:=low Tryz.func123
def tL:cq Tryz.prog 124:=low Tryz.func124
def tM:cq Tryz.prog 125:=low Tryz.func125
def tN:cq Tryz.prog 126:=low Tryz.func126
def xO:cq Tryz.prog 128:=low Tryz.func128
def xP:cq Tryz.prog 129:=low Tryz.func129
def xR:cq Tryz.prog 130:=low Tryz.func130
def xS:cq Tryz.prog 131:=low Tryz.func131
def xT:cq Tryz.prog 132:=low Tryz.func132
def xU:cq Tryz.prog 133:=low Tryz.func133
def xV:cq Tryz.prog 134:=low Tryz.func134
def xW:cq Tryz.prog 135:=low Tryz.func135
def xX:cq Tryz.prog 136:=low Tryz.func136
def xY:cq Tryz.prog 137:=low Tryz.func137
def xZ:cq Tryz.prog 138:=low Tryz.func138
def x6:cq Tryz.prog 139:=low Tryz.func139
def x7:cq Tryz.prog 140:=low Tryz.func140
def x8:cq Tryz.prog 141:=low Tryz.func141
def x9:cq Tryz.prog 142:=low Tryz.func142
def tO:cq Tryz.prog 143:=low Tryz.func143
def tP:cq Tryz.prog 144:=low Tryz.func144
def tQ:cq Tryz.prog 145:=low Tryz.func145
def tR:cq Tryz.prog 146:=low Tryz.func146
def xb:cq Tryz.prog 147:=low Tryz.func147
def xc:cq Tryz.prog 149:=low Tryz.func149
def xd:cq Tryz.prog 150:=low Tryz.func150
def xe:cq Tryz.prog 151:=low Tryz.func151
def xf:cq Tryz.prog 152:=low Tryz.func152
def xg:cq Tryz.prog 153:=low Tryz.func153
def xh:cq Tryz.prog 154:=low Tryz.func154
def tS:cq Tryz.prog 155:=low Tryz.func155
def tT:cq Tryz.prog 156:=low Tryz.func156
def tU:cq Tryz.prog 157:=low Tryz.func157
def tV:cq Tryz.prog 158:=low Tryz.func158
def tW:cq Tryz.prog 159:=low Tryz.func159
def tX:cq Tryz.prog 160:=low Tryz.func160
def tY:cq Tryz.prog 161:=low Tryz.func161
def tZ:cq Tryz.prog 162:=low Tryz.func162
def ta:cq Tryz.prog 163:=low Tryz.func163
def tc:cq Tryz.prog 164:=low Tryz.func164
def tf:cq Tryz.prog 165:=low Tryz.func165
def tg:cq Tryz.prog 166:=low Tryz.func166
def tj:cq Tryz.prog 167:=low Tryz.func167
def tk:cq Tryz.prog 168:=low Tryz.func168
def tm:cq Tryz.prog 169:=low Tryz.func169
def tn:cq Tryz.prog 170:=low Tryz.func170
def tq:cq Tryz.prog 171:=low Tryz.func171
def tu:cq Tryz.prog 172:=low Tryz.func172
def tv:cq Tryz.prog 173:=low Tryz.func173
end Go.Proofs.YtekfmjjmihomlaaGreat
end
