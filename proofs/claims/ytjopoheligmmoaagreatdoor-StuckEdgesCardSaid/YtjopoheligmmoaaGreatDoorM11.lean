import Derived.Test.YtjopoheligmmoaaGreatDoorProg
import Derived.Test.YtjopoheligmmoaaGreatDoorM10
namespace Go.Proofs.YtjopoheligmmoaaGreatDoor
open Go Go.dA Go.Proofs
set_option maxRecDepth 100000
def lf3:eB Tryz.prog 3:=low Tryz.func3
def Z9:eB Tryz.prog 12:=low Tryz.func12
def W2:eB Tryz.prog 13:=low Tryz.func13
def W5:eB Tryz.prog 14:=low Tryz.func14
def XE:eB Tryz.prog 16:=low Tryz.func16
def aAA:eB Tryz.prog 17:=low Tryz.func17
def aAB:eB Tryz.prog 18:=low Tryz.func18
def aAC:eB Tryz.prog 19:=low Tryz.func19
def aAD:eB Tryz.prog 20:=low Tryz.func20
def aAE:eB Tryz.prog 21:=low Tryz.func21
def YJ:eB Tryz.prog 23:=low Tryz.func23
def TV:eB Tryz.prog 25:=low Tryz.func25
def aAF:eB Tryz.prog 30:=low Tryz.func30
def YK:eB Tryz.prog 31:=low Tryz.func31
def aAG:eB Tryz.prog 32:=low Tryz.func32
def aAH:eB Tryz.prog 33:=low Tryz.func33
def aAI:eB Tryz.prog 34:=low Tryz.func34
def aAJ:eB Tryz.prog 35:=low Tryz.func35
def aAK:eB Tryz.prog 36:=low Tryz.func36
def aAL:eB Tryz.prog 37:=low Tryz.func37
def aAM:eB Tryz.prog 38:=low Tryz.func38
def aAN:eB Tryz.prog 39:=low Tryz.func39
def aAO:eB Tryz.prog 40:=low Tryz.func40
def aAP:eB Tryz.prog 41:=low Tryz.func41
def aAQ:eB Tryz.prog 42:=low Tryz.func42
def aAR:eB Tryz.prog 43:=low Tryz.func43
def YL:eB Tryz.prog 44:=low Tryz.func44
def aAS:eB Tryz.prog 45:=low Tryz.func45
def aAT:eB Tryz.prog 46:=low Tryz.func46
def aAU:eB Tryz.prog 47:=low Tryz.func47
def YM:eB Tryz.prog 48:=low Tryz.func48
def aAV:eB Tryz.prog 49:=low Tryz.func49
def YN:eB Tryz.prog 50:=low Tryz.func50
def YO:eB Tryz.prog 54:=low Tryz.func54
def YP:eB Tryz.prog 55:=low Tryz.func55
def aAW:eB Tryz.prog 56:=low Tryz.func56
def aAX:eB Tryz.prog 58:=low Tryz.func58
def aAY:eB Tryz.prog 59:=low Tryz.func59
def aAZ:eB Tryz.prog 60:=low Tryz.func60
def aA0:eB Tryz.prog 61:=low Tryz.func61
def TW:eB Tryz.prog 62:=low Tryz.func62
def aA1:eB Tryz.prog 63:=low Tryz.func63
def aA2:eB Tryz.prog 67:=low Tryz.func67
def aA3:eB Tryz.prog 68:=low Tryz.func68
def NK:eB Tryz.prog 69:=low Tryz.func69
def aA4:eB Tryz.prog 70:=low Tryz.func70
end Go.Proofs.YtjopoheligmmoaaGreatDoor
