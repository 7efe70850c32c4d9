import Derived.Test.YtlonbgdonffcbaaGreatDoorProg
import Derived.Test.YtlonbgdonffcbaaGreatDoorM10
section
/- Lowered functions. -/
namespace Go.Proofs.YtlonbgdonffcbaaGreatDoor
open Go Go.cY Go.Proofs
set_option maxRecDepth 100000
def vp:dG Tryz.prog 121:=low Tryz.func121
def vq:dG Tryz.prog 122:=low Tryz.func122
def vr:dG Tryz.prog 123:=low Tryz.func123
def vt:dG Tryz.prog 124:=low Tryz.func124
def vu:dG Tryz.prog 125:=low Tryz.func125
def vv:dG Tryz.prog 126:=low Tryz.func126
def vw:dG Tryz.prog 127:=low Tryz.func127
def vx:dG Tryz.prog 128:=low Tryz.func128
def vy:dG Tryz.prog 129:=low Tryz.func129
def vz:dG Tryz.prog 130:=low Tryz.func130
def wA:dG Tryz.prog 131:=low Tryz.func131
def wB:dG Tryz.prog 132:=low Tryz.func132
def wC:dG Tryz.prog 133:=low Tryz.func133
def wD:dG Tryz.prog 134:=low Tryz.func134
def wE:dG Tryz.prog 135:=low Tryz.func135
def wF:dG Tryz.prog 136:=low Tryz.func136
def wG:dG Tryz.prog 137:=low Tryz.func137
def wH:dG Tryz.prog 138:=low Tryz.func138
def zW:dG Tryz.prog 139:=low Tryz.func139
def zX:dG Tryz.prog 140:=low Tryz.func140
def zY:dG Tryz.prog 141:=low Tryz.func141
def wI:dG Tryz.prog 142:=low Tryz.func142
def wJ:dG Tryz.prog 143:=low Tryz.func143
def zZ:dG Tryz.prog 144:=low Tryz.func144
def z6:dG Tryz.prog 145:=low Tryz.func145
def z7:dG Tryz.prog 146:=low Tryz.func146
def z8:dG Tryz.prog 147:=low Tryz.func147
def za:dG Tryz.prog 148:=low Tryz.func148
def zb:dG Tryz.prog 149:=low Tryz.func149
end Go.Proofs.YtlonbgdonffcbaaGreatDoor
end
