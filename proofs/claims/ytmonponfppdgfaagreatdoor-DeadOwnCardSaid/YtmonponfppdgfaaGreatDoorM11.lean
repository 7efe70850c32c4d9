import Derived.Test.YtmonponfppdgfaaGreatDoorProg
import Derived.Test.YtmonponfppdgfaaGreatDoorM10
namespace Go.Proofs.YtmonponfppdgfaaGreatDoor
open Go Go.dD Go.Proofs
set_option maxRecDepth 100000
def OW:eD Tryz.prog 3:=low Tryz.func3
def OX:eD Tryz.prog 4:=low Tryz.func4
def OC:eD Tryz.prog 5:=low Tryz.func5
def OY:eD Tryz.prog 6:=low Tryz.func6
def MN:eD Tryz.prog 7:=low Tryz.func7
def OZ:eD Tryz.prog 8:=low Tryz.func8
def MO:eD Tryz.prog 9:=low Tryz.func9
def CO:eD Tryz.prog 10:=low Tryz.func10
def CP:eD Tryz.prog 11:=low Tryz.func11
def FT:eD Tryz.prog 12:=low Tryz.func12
def FU:eD Tryz.prog 13:=low Tryz.func13
def FV:eD Tryz.prog 14:=low Tryz.func14
def zB:eD Tryz.prog 15:=low Tryz.func15
def CQ:eD Tryz.prog 16:=low Tryz.func16
def xN:eD Tryz.prog 17:=low Tryz.func17
def zC:eD Tryz.prog 18:=low Tryz.func18
def FW:eD Tryz.prog 19:=low Tryz.func19
def KD:eD Tryz.prog 20:=low Tryz.func20
def KE:eD Tryz.prog 21:=low Tryz.func21
def zD:eD Tryz.prog 22:=low Tryz.func22
def FX:eD Tryz.prog 23:=low Tryz.func23
def CR:eD Tryz.prog 24:=low Tryz.func24
def CS:eD Tryz.prog 25:=low Tryz.func25
def FY:eD Tryz.prog 26:=low Tryz.func26
def FZ:eD Tryz.prog 27:=low Tryz.func27
def F0:eD Tryz.prog 28:=low Tryz.func28
def F1:eD Tryz.prog 29:=low Tryz.func29
def F3:eD Tryz.prog 30:=low Tryz.func30
def F4:eD Tryz.prog 31:=low Tryz.func31
def F5:eD Tryz.prog 32:=low Tryz.func32
def F6:eD Tryz.prog 33:=low Tryz.func33
def F7:eD Tryz.prog 34:=low Tryz.func34
def F8:eD Tryz.prog 35:=low Tryz.func35
def F9:eD Tryz.prog 36:=low Tryz.func36
def GA:eD Tryz.prog 37:=low Tryz.func37
def GB:eD Tryz.prog 38:=low Tryz.func38
def GC:eD Tryz.prog 39:=low Tryz.func39
def GD:eD Tryz.prog 40:=low Tryz.func40
def GF:eD Tryz.prog 41:=low Tryz.func41
def GG:eD Tryz.prog 42:=low Tryz.func42
def GH:eD Tryz.prog 43:=low Tryz.func43
def GI:eD Tryz.prog 44:=low Tryz.func44
def GJ:eD Tryz.prog 45:=low Tryz.func45
def GK:eD Tryz.prog 46:=low Tryz.func46
def GL:eD Tryz.prog 47:=low Tryz.func47
def GM:eD Tryz.prog 48:=low Tryz.func48
def GN:eD Tryz.prog 49:=low Tryz.func49
def GO:eD Tryz.prog 50:=low Tryz.func50
end Go.Proofs.YtmonponfppdgfaaGreatDoor
