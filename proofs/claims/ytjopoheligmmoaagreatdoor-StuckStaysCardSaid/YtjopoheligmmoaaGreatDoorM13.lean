import Derived.Test.YtjopoheligmmoaaGreatDoorProg
import Derived.Test.YtjopoheligmmoaaGreatDoorM10
namespace Go.Proofs.YtjopoheligmmoaaGreatDoor
open Go Go.cp Go.Proofs
set_option maxRecDepth 100000
def RO:eF Tryz.prog 145:=low Tryz.func145
def RP:eF Tryz.prog 146:=low Tryz.func146
def RQ:eF Tryz.prog 147:=low Tryz.func147
def RR:eF Tryz.prog 148:=low Tryz.func148
def RS:eF Tryz.prog 150:=low Tryz.func150
def RT:eF Tryz.prog 151:=low Tryz.func151
def I2:eF Tryz.prog 152:=low Tryz.func152
def RU:eF Tryz.prog 153:=low Tryz.func153
def NS:eF Tryz.prog 158:=low Tryz.func158
def RV:eF Tryz.prog 159:=low Tryz.func159
def RW:eF Tryz.prog 160:=low Tryz.func160
def RX:eF Tryz.prog 161:=low Tryz.func161
def RY:eF Tryz.prog 162:=low Tryz.func162
def RZ:eF Tryz.prog 163:=low Tryz.func163
def R0:eF Tryz.prog 164:=low Tryz.func164
def R1:eF Tryz.prog 165:=low Tryz.func165
def R3:eF Tryz.prog 166:=low Tryz.func166
def R4:eF Tryz.prog 167:=low Tryz.func167
def R5:eF Tryz.prog 179:=low Tryz.func179
def NU:eF Tryz.prog 182:=low Tryz.func182
def R6:eF Tryz.prog 184:=low Tryz.func184
def R7:eF Tryz.prog 185:=low Tryz.func185
def R8:eF Tryz.prog 194:=low Tryz.func194
def R9:eF Tryz.prog 196:=low Tryz.func196
def SA:eF Tryz.prog 197:=low Tryz.func197
def SB:eF Tryz.prog 198:=low Tryz.func198
def SC:eF Tryz.prog 199:=low Tryz.func199
end Go.Proofs.YtjopoheligmmoaaGreatDoor
