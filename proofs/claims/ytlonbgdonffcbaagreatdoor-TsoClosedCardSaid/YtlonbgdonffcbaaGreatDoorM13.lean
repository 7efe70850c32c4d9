import Derived.Test.YtlonbgdonffcbaaGreatDoorProg
import Derived.Test.YtlonbgdonffcbaaGreatDoorM10
section
/- Lowered functions. -/
namespace Go.Proofs.YtlonbgdonffcbaaGreatDoor
open Go Go.cW Go.Proofs
set_option maxRecDepth 100000
def vP:dB Tryz.prog 121:=low Tryz.func121
def vQ:dB Tryz.prog 122:=low Tryz.func122
def vR:dB Tryz.prog 123:=low Tryz.func123
def vS:dB Tryz.prog 124:=low Tryz.func124
def vT:dB Tryz.prog 125:=low Tryz.func125
def vU:dB Tryz.prog 126:=low Tryz.func126
def vV:dB Tryz.prog 127:=low Tryz.func127
def vW:dB Tryz.prog 128:=low Tryz.func128
def vX:dB Tryz.prog 129:=low Tryz.func129
def vY:dB Tryz.prog 130:=low Tryz.func130
def vZ:dB Tryz.prog 131:=low Tryz.func131
def v7:dB Tryz.prog 132:=low Tryz.func132
def v8:dB Tryz.prog 133:=low Tryz.func133
def va:dB Tryz.prog 134:=low Tryz.func134
def vc:dB Tryz.prog 135:=low Tryz.func135
def vd:dB Tryz.prog 136:=low Tryz.func136
def ve:dB Tryz.prog 137:=low Tryz.func137
def vg:dB Tryz.prog 138:=low Tryz.func138
def yk:dB Tryz.prog 139:=low Tryz.func139
def yl:dB Tryz.prog 140:=low Tryz.func140
def ym:dB Tryz.prog 141:=low Tryz.func141
def vh:dB Tryz.prog 142:=low Tryz.func142
def vi:dB Tryz.prog 143:=low Tryz.func143
def yn:dB Tryz.prog 144:=low Tryz.func144
def yo:dB Tryz.prog 145:=low Tryz.func145
def yq:dB Tryz.prog 146:=low Tryz.func146
def yr:dB Tryz.prog 147:=low Tryz.func147
def yu:dB Tryz.prog 148:=low Tryz.func148
def yx:dB Tryz.prog 149:=low Tryz.func149
end Go.Proofs.YtlonbgdonffcbaaGreatDoor
end
