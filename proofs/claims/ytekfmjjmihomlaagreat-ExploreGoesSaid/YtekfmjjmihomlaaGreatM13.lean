import Derived.Test.YtekfmjjmihomlaaGreatProg
import Derived.Test.YtekfmjjmihomlaaGreatM10
section
/- Lowered functions. -/
namespace Go.Proofs.YtekfmjjmihomlaaGreat
open Go Go.cO Go.Proofs
set_option maxRecDepth 100000
def uA:cw Tryz.prog 121:=low Tryz.func121
def qi:cw Tryz.prog 122:=low Tryz.func122
def uB:cw Tryz.prog 123:=low Tryz.func123
def uC:cw Tryz.prog 124:=low Tryz.func124
def uD:cw Tryz.prog 125:=low Tryz.func125
def uE:cw Tryz.prog 126:=low Tryz.func126
def xy:cw Tryz.prog 128:=low Tryz.func128
def xz:cw Tryz.prog 129:=low Tryz.func129
def yA:cw Tryz.prog 130:=low Tryz.func130
def yB:cw Tryz.prog 131:=low Tryz.func131
def yC:cw Tryz.prog 132:=low Tryz.func132
def yD:cw Tryz.prog 133:=low Tryz.func133
def yE:cw Tryz.prog 134:=low Tryz.func134
def yF:cw Tryz.prog 135:=low Tryz.func135
def yG:cw Tryz.prog 136:=low Tryz.func136
def yH:cw Tryz.prog 137:=low Tryz.func137
def yI:cw Tryz.prog 138:=low Tryz.func138
def yJ:cw Tryz.prog 139:=low Tryz.func139
def yK:cw Tryz.prog 140:=low Tryz.func140
def yL:cw Tryz.prog 141:=low Tryz.func141
def yM:cw Tryz.prog 142:=low Tryz.func142
def uF:cw Tryz.prog 143:=low Tryz.func143
def uG:cw Tryz.prog 144:=low Tryz.func144
def uH:cw Tryz.prog 145:=low Tryz.func145
def uI:cw Tryz.prog 146:=low Tryz.func146
def yN:cw Tryz.prog 147:=low Tryz.func147
def yO:cw Tryz.prog 149:=low Tryz.func149
def yP:cw Tryz.prog 150:=low Tryz.func150
def yQ:cw Tryz.prog 151:=low Tryz.func151
def yR:cw Tryz.prog 152:=low Tryz.func152
def yS:cw Tryz.prog 153:=low Tryz.func153
def yT:cw Tryz.prog 154:=low Tryz.func154
def uJ:cw Tryz.prog 155:=low Tryz.func155
def uK:cw Tryz.prog 156:=low Tryz.func156
def uL:cw Tryz.prog 157:=low Tryz.func157
def uM:cw Tryz.prog 158:=low Tryz.func158
def uN:cw Tryz.prog 159:=low Tryz.func159
def uO:cw Tryz.prog 160:=low Tryz.func160
def uP:cw Tryz.prog 161:=low Tryz.func161
def uQ:cw Tryz.prog 162:=low Tryz.func162
def uR:cw Tryz.prog 163:=low Tryz.func163
def uS:cw Tryz.prog 164:=low Tryz.func164
def uT:cw Tryz.prog 165:=low Tryz.func165
def uU:cw Tryz.prog 166:=low Tryz.func166
def uV:cw Tryz.prog 167:=low Tryz.func167
def uX:cw Tryz.prog 168:=low Tryz.func168
def uY:cw Tryz.prog 169:=low Tryz.func169
def uZ:cw Tryz.prog 170:=low Tryz.func170
def u0:cw Tryz.prog 171:=low Tryz.func171
def u5:cw Tryz.prog 172:=low Tryz.func172
def u6:cw Tryz.prog 173:=low Tryz.func173
end Go.Proofs.YtekfmjjmihomlaaGreat
end
