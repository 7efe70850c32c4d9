import Derived.Test.YtekfmjjmihomlaaGreatProg
import Derived.Test.YtekfmjjmihomlaaGreatM10
section
/- Lowered functions. -/
namespace Go.Proofs.YtekfmjjmihomlaaGreat
open Go Go.cN Go.Proofs
set_option maxRecDepth 100000
def tY:ct Tryz.prog 121:=low Tryz.func121
def q7:ct Tryz.prog 122:=low Tryz.func122
def tZ:ct Tryz.prog 123:=low Tryz.func123
def ta:ct Tryz.prog 124:=low Tryz.func124
def tc:ct Tryz.prog 125:=low Tryz.func125
def tf:ct Tryz.prog 126:=low Tryz.func126
def xd:ct Tryz.prog 128:=low Tryz.func128
def xe:ct Tryz.prog 129:=low Tryz.func129
def xf:ct Tryz.prog 130:=low Tryz.func130
def xg:ct Tryz.prog 131:=low Tryz.func131
def xh:ct Tryz.prog 132:=low Tryz.func132
def xi:ct Tryz.prog 133:=low Tryz.func133
def xj:ct Tryz.prog 134:=low Tryz.func134
def xk:ct Tryz.prog 135:=low Tryz.func135
def xl:ct Tryz.prog 136:=low Tryz.func136
def xm:ct Tryz.prog 137:=low Tryz.func137
def xn:ct Tryz.prog 138:=low Tryz.func138
def xo:ct Tryz.prog 139:=low Tryz.func139
def xp:ct Tryz.prog 140:=low Tryz.func140
def xq:ct Tryz.prog 141:=low Tryz.func141
def xr:ct Tryz.prog 142:=low Tryz.func142
def tg:ct Tryz.prog 143:=low Tryz.func143
def tj:ct Tryz.prog 144:=low Tryz.func144
def tk:ct Tryz.prog 145:=low Tryz.func145
def tm:ct Tryz.prog 146:=low Tryz.func146
def xu:ct Tryz.prog 147:=low Tryz.func147
def xw:ct Tryz.prog 149:=low Tryz.func149
def xx:ct Tryz.prog 150:=low Tryz.func150
def xy:ct Tryz.prog 151:=low Tryz.func151
def xz:ct Tryz.prog 152:=low Tryz.func152
def yA:ct Tryz.prog 153:=low Tryz.func153
def yB:ct Tryz.prog 154:=low Tryz.func154
def tn:ct Tryz.prog 155:=low Tryz.func155
def tq:ct Tryz.prog 156:=low Tryz.func156
def tu:ct Tryz.prog 157:=low Tryz.func157
def tv:ct Tryz.prog 158:=low Tryz.func158
def tw:ct Tryz.prog 159:=low Tryz.func159
def tx:ct Tryz.prog 160:=low Tryz.func160
def uA:ct Tryz.prog 161:=low Tryz.func161
def uB:ct Tryz.prog 162:=low Tryz.func162
def uC:ct Tryz.prog 163:=low Tryz.func163
def uD:ct Tryz.prog 164:=low Tryz.func164
def uE:ct Tryz.prog 165:=low Tryz.func165
def uF:ct Tryz.prog 166:=low Tryz.func166
def uG:ct Tryz.prog 167:=low Tryz.func167
def uH:ct Tryz.prog 168:=low Tryz.func168
def uI:ct Tryz.prog 169:=low Tryz.func169
def uJ:ct Tryz.prog 170:=low Tryz.func170
def uK:ct Tryz.prog 171:=low Tryz.func171
def uL:ct Tryz.prog 172:=low Tryz.func172
def uM:ct Tryz.prog 173:=low Tryz.func173
end Go.Proofs.YtekfmjjmihomlaaGreat
end
