import Derived.Test.YtekfmjjmihomlaaGreatProg
import Derived.Test.YtekfmjjmihomlaaGreatM10
section
/- Lowered functions. -/
namespace Go.Proofs.YtekfmjjmihomlaaGreat
open Go Go.cO Go.Proofs
set_option maxRecDepth 100000
def uI:cu Tryz.prog 121:=low Tryz.func121
def qh:cu Tryz.prog 122:=low Tryz.func122
def uJ:cu Tryz.prog 123:=low Tryz.func123
def uK:cu Tryz.prog 124:=low Tryz.func124
def uL:cu Tryz.prog 125:=low Tryz.func125
def uM:cu Tryz.prog 126:=low Tryz.func126
def yH:cu Tryz.prog 128:=low Tryz.func128
def yI:cu Tryz.prog 129:=low Tryz.func129
def yJ:cu Tryz.prog 130:=low Tryz.func130
def yK:cu Tryz.prog 131:=low Tryz.func131
def yL:cu Tryz.prog 132:=low Tryz.func132
def yM:cu Tryz.prog 133:=low Tryz.func133
def yN:cu Tryz.prog 134:=low Tryz.func134
def yO:cu Tryz.prog 135:=low Tryz.func135
def yP:cu Tryz.prog 136:=low Tryz.func136
def yQ:cu Tryz.prog 137:=low Tryz.func137
def yR:cu Tryz.prog 138:=low Tryz.func138
def yS:cu Tryz.prog 139:=low Tryz.func139
def yT:cu Tryz.prog 140:=low Tryz.func140
def yU:cu Tryz.prog 141:=low Tryz.func141
def yV:cu Tryz.prog 142:=low Tryz.func142
def uN:cu Tryz.prog 143:=low Tryz.func143
def uO:cu Tryz.prog 144:=low Tryz.func144
def uP:cu Tryz.prog 145:=low Tryz.func145
def uQ:cu Tryz.prog 146:=low Tryz.func146
def yW:cu Tryz.prog 147:=low Tryz.func147
def yX:cu Tryz.prog 149:=low Tryz.func149
def yY:cu Tryz.prog 150:=low Tryz.func150
def yZ:cu Tryz.prog 151:=low Tryz.func151
def y0:cu Tryz.prog 152:=low Tryz.func152
def y6:cu Tryz.prog 153:=low Tryz.func153
def y7:cu Tryz.prog 154:=low Tryz.func154
def uR:cu Tryz.prog 155:=low Tryz.func155
def uS:cu Tryz.prog 156:=low Tryz.func156
def uT:cu Tryz.prog 157:=low Tryz.func157
def uU:cu Tryz.prog 158:=low Tryz.func158
def uV:cu Tryz.prog 159:=low Tryz.func159
def uX:cu Tryz.prog 160:=low Tryz.func160
def uY:cu Tryz.prog 161:=low Tryz.func161
def uZ:cu Tryz.prog 162:=low Tryz.func162
def u0:cu Tryz.prog 163:=low Tryz.func163
def u5:cu Tryz.prog 164:=low Tryz.func164
def u6:cu Tryz.prog 165:=low Tryz.func165
def u7:cu Tryz.prog 166:=low Tryz.func166
def u9:cu Tryz.prog 167:=low Tryz.func167
def ua:cu Tryz.prog 168:=low Tryz.func168
def uc:cu Tryz.prog 169:=low Tryz.func169
def ud:cu Tryz.prog 170:=low Tryz.func170
def ue:cu Tryz.prog 171:=low Tryz.func171
def uf:cu Tryz.prog 172:=low Tryz.func172
def ug:cu Tryz.prog 173:=low Tryz.func173
end Go.Proofs.YtekfmjjmihomlaaGreat
end
