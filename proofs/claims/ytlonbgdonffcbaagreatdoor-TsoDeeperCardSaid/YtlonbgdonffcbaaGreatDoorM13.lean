import Derived.Test.YtlonbgdonffcbaaGreatDoorProg
import Derived.Test.YtlonbgdonffcbaaGreatDoorM10
section
/- Lowered functions. -/
namespace Go.Proofs.YtlonbgdonffcbaaGreatDoor
open Go Go.cU Go.Proofs
set_option maxRecDepth 100000
def vN:cz Tryz.prog 121:=low Tryz.func121
def vO:cz Tryz.prog 122:=low Tryz.func122
def vP:cz Tryz.prog 123:=low Tryz.func123
def vQ:cz Tryz.prog 124:=low Tryz.func124
def vR:cz Tryz.prog 125:=low Tryz.func125
def vS:cz Tryz.prog 126:=low Tryz.func126
def vT:cz Tryz.prog 127:=low Tryz.func127
def vU:cz Tryz.prog 128:=low Tryz.func128
def vV:cz Tryz.prog 129:=low Tryz.func129
def vW:cz Tryz.prog 130:=low Tryz.func130
def vX:cz Tryz.prog 131:=low Tryz.func131
def vY:cz Tryz.prog 132:=low Tryz.func132
def vZ:cz Tryz.prog 133:=low Tryz.func133
def v7:cz Tryz.prog 134:=low Tryz.func134
def v8:cz Tryz.prog 135:=low Tryz.func135
def va:cz Tryz.prog 136:=low Tryz.func136
def vc:cz Tryz.prog 137:=low Tryz.func137
def vd:cz Tryz.prog 138:=low Tryz.func138
def yj:cz Tryz.prog 139:=low Tryz.func139
def yk:cz Tryz.prog 140:=low Tryz.func140
def yl:cz Tryz.prog 141:=low Tryz.func141
def ve:cz Tryz.prog 142:=low Tryz.func142
def vg:cz Tryz.prog 143:=low Tryz.func143
def ym:cz Tryz.prog 144:=low Tryz.func144
def yn:cz Tryz.prog 145:=low Tryz.func145
def yo:cz Tryz.prog 146:=low Tryz.func146
def yq:cz Tryz.prog 147:=low Tryz.func147
def yr:cz Tryz.prog 148:=low Tryz.func148
def yu:cz Tryz.prog 149:=low Tryz.func149
end Go.Proofs.YtlonbgdonffcbaaGreatDoor
end
