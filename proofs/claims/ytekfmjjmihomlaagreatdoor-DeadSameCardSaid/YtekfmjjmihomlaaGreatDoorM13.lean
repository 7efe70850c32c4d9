import Derived.Test.YtekfmjjmihomlaaGreatDoorProg
import Derived.Test.YtekfmjjmihomlaaGreatDoorM10
namespace Go.Proofs.YtekfmjjmihomlaaGreatDoor
open Go Go.cw Go.Proofs
set_option maxRecDepth 100000
def w6:dX Tryz.prog 127:=low Tryz.func127
def AB:dX Tryz.prog 128:=low Tryz.func128
def AD:dX Tryz.prog 129:=low Tryz.func129
def AE:dX Tryz.prog 130:=low Tryz.func130
def GP:dX Tryz.prog 131:=low Tryz.func131
def w7:dX Tryz.prog 132:=low Tryz.func132
def AF:dX Tryz.prog 133:=low Tryz.func133
def AG:dX Tryz.prog 134:=low Tryz.func134
def AH:dX Tryz.prog 135:=low Tryz.func135
def AI:dX Tryz.prog 137:=low Tryz.func137
def AJ:dX Tryz.prog 138:=low Tryz.func138
def AK:dX Tryz.prog 139:=low Tryz.func139
def AL:dX Tryz.prog 140:=low Tryz.func140
def AM:dX Tryz.prog 141:=low Tryz.func141
def AN:dX Tryz.prog 142:=low Tryz.func142
def AO:dX Tryz.prog 143:=low Tryz.func143
def AP:dX Tryz.prog 144:=low Tryz.func144
def AQ:dX Tryz.prog 145:=low Tryz.func145
def AR:dX Tryz.prog 146:=low Tryz.func146
def AS:dX Tryz.prog 147:=low Tryz.func147
def AT:dX Tryz.prog 148:=low Tryz.func148
def AU:dX Tryz.prog 149:=low Tryz.func149
def AW:dX Tryz.prog 150:=low Tryz.func150
def AX:dX Tryz.prog 151:=low Tryz.func151
def AY:dX Tryz.prog 152:=low Tryz.func152
def AZ:dX Tryz.prog 153:=low Tryz.func153
def A0:dX Tryz.prog 154:=low Tryz.func154
def A1:dX Tryz.prog 155:=low Tryz.func155
def A2:dX Tryz.prog 156:=low Tryz.func156
def A3:dX Tryz.prog 157:=low Tryz.func157
def A4:dX Tryz.prog 158:=low Tryz.func158
end Go.Proofs.YtekfmjjmihomlaaGreatDoor
