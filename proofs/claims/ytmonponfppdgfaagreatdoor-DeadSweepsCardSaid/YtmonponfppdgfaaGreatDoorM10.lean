import Derived.Test.YtmonponfppdgfaaGreatDoorProg
import Derived.Test.YtmonponfppdgfaaGreatDoorM9
section
/- Lowered functions. -/
namespace Go.Proofs.YtmonponfppdgfaaGreatDoor
open Go Go.ch Go.Proofs
set_option maxRecDepth 100000
def MB:dw Tryz.prog 3:=low Tryz.func3
def LM:dw Tryz.prog 4:=low Tryz.func4
def MC:dw Tryz.prog 5:=low Tryz.func5
def MD:dw Tryz.prog 6:=low Tryz.func6
def JZ:dw Tryz.prog 7:=low Tryz.func7
def ME:dw Tryz.prog 8:=low Tryz.func8
def KQ:dw Tryz.prog 9:=low Tryz.func9
def AM:dw Tryz.prog 10:=low Tryz.func10
def DG:dw Tryz.prog 11:=low Tryz.func11
def DH:dw Tryz.prog 12:=low Tryz.func12
def DI:dw Tryz.prog 13:=low Tryz.func13
def DJ:dw Tryz.prog 14:=low Tryz.func14
def AN:dw Tryz.prog 15:=low Tryz.func15
def AO:dw Tryz.prog 16:=low Tryz.func16
def xq:dw Tryz.prog 17:=low Tryz.func17
def HQ:dw Tryz.prog 18:=low Tryz.func18
def HR:dw Tryz.prog 19:=low Tryz.func19
def HT:dw Tryz.prog 20:=low Tryz.func20
def HU:dw Tryz.prog 21:=low Tryz.func21
def xr:dw Tryz.prog 22:=low Tryz.func22
def DK:dw Tryz.prog 23:=low Tryz.func23
def HV:dw Tryz.prog 24:=low Tryz.func24
def AP:dw Tryz.prog 25:=low Tryz.func25
def DL:dw Tryz.prog 26:=low Tryz.func26
def DM:dw Tryz.prog 27:=low Tryz.func27
def DN:dw Tryz.prog 28:=low Tryz.func28
def DO:dw Tryz.prog 29:=low Tryz.func29
def DP:dw Tryz.prog 30:=low Tryz.func30
def DQ:dw Tryz.prog 31:=low Tryz.func31
def DR:dw Tryz.prog 32:=low Tryz.func32
def DS:dw Tryz.prog 33:=low Tryz.func33
def DT:dw Tryz.prog 34:=low Tryz.func34
def DU:dw Tryz.prog 35:=low Tryz.func35
def DV:dw Tryz.prog 36:=low Tryz.func36
def DW:dw Tryz.prog 37:=low Tryz.func37
def DX:dw Tryz.prog 38:=low Tryz.func38
def DY:dw Tryz.prog 39:=low Tryz.func39
def DZ:dw Tryz.prog 40:=low Tryz.func40
def D0:dw Tryz.prog 41:=low Tryz.func41
def D1:dw Tryz.prog 42:=low Tryz.func42
def D2:dw Tryz.prog 43:=low Tryz.func43
def D3:dw Tryz.prog 44:=low Tryz.func44
def D4:dw Tryz.prog 45:=low Tryz.func45
def D5:dw Tryz.prog 46:=low Tryz.func46
def D6:dw Tryz.prog 47:=low Tryz.func47
def D7:dw Tryz.prog 48:=low Tryz.func48
def D8:dw Tryz.prog 49:=low Tryz.func49
def D9:dw Tryz.prog 50:=low Tryz.func50
end Go.Proofs.YtmonponfppdgfaaGreatDoor
end
