import Derived.Test.YtmonponfppdgfaaGreatDoorProg
import Derived.Test.YtmonponfppdgfaaGreatDoorM9
section
/- Lowered functions. -/
namespace Go.Proofs.YtmonponfppdgfaaGreatDoor
open Go Go.ck Go.Proofs
set_option maxRecDepth 100000
def LJ:dv Tryz.prog 3:=low Tryz.func3
def L9:dv Tryz.prog 4:=low Tryz.func4
def MA:dv Tryz.prog 5:=low Tryz.func5
def MB:dv Tryz.prog 6:=low Tryz.func6
def JW:dv Tryz.prog 7:=low Tryz.func7
def JX:dv Tryz.prog 8:=low Tryz.func8
def KO:dv Tryz.prog 9:=low Tryz.func9
def AH:dv Tryz.prog 10:=low Tryz.func10
def DB:dv Tryz.prog 11:=low Tryz.func11
def DC:dv Tryz.prog 12:=low Tryz.func12
def DD:dv Tryz.prog 13:=low Tryz.func13
def DE:dv Tryz.prog 14:=low Tryz.func14
def DF:dv Tryz.prog 15:=low Tryz.func15
def HM:dv Tryz.prog 16:=low Tryz.func16
def xn:dv Tryz.prog 17:=low Tryz.func17
def HN:dv Tryz.prog 18:=low Tryz.func18
def HO:dv Tryz.prog 19:=low Tryz.func19
def HQ:dv Tryz.prog 20:=low Tryz.func20
def HR:dv Tryz.prog 21:=low Tryz.func21
def xo:dv Tryz.prog 22:=low Tryz.func22
def DG:dv Tryz.prog 23:=low Tryz.func23
def AI:dv Tryz.prog 24:=low Tryz.func24
def AJ:dv Tryz.prog 25:=low Tryz.func25
def DH:dv Tryz.prog 26:=low Tryz.func26
def DI:dv Tryz.prog 27:=low Tryz.func27
def DJ:dv Tryz.prog 28:=low Tryz.func28
def DK:dv Tryz.prog 29:=low Tryz.func29
def DL:dv Tryz.prog 30:=low Tryz.func30
def DM:dv Tryz.prog 31:=low Tryz.func31
def DN:dv Tryz.prog 32:=low Tryz.func32
def DO:dv Tryz.prog 33:=low Tryz.func33
def DP:dv Tryz.prog 34:=low Tryz.func34
def DQ:dv Tryz.prog 35:=low Tryz.func35
def DR:dv Tryz.prog 36:=low Tryz.func36
def DS:dv Tryz.prog 37:=low Tryz.func37
def DT:dv Tryz.prog 38:=low Tryz.func38
def DU:dv Tryz.prog 39:=low Tryz.func39
def DV:dv Tryz.prog 40:=low Tryz.func40
def DW:dv Tryz.prog 41:=low Tryz.func41
def DX:dv Tryz.prog 42:=low Tryz.func42
def DY:dv Tryz.prog 43:=low Tryz.func43
def DZ:dv Tryz.prog 44:=low Tryz.func44
def D0:dv Tryz.prog 45:=low Tryz.func45
def D1:dv Tryz.prog 46:=low Tryz.func46
def D2:dv Tryz.prog 47:=low Tryz.func47
def D3:dv Tryz.prog 48:=low Tryz.func48
def D4:dv Tryz.prog 49:=low Tryz.func49
def D5:dv Tryz.prog 50:=low Tryz.func50
end Go.Proofs.YtmonponfppdgfaaGreatDoor
end
