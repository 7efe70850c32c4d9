import Derived.Test.YtjopoheligmmoaaGreatDoorProg
import Derived.Test.YtjopoheligmmoaaGreatDoorM10
section
/- Lowered functions. -/
namespace Go.Proofs.YtjopoheligmmoaaGreatDoor
open Go Go.cZ Go.Proofs
set_option maxRecDepth 100000
def ZP:cu Tryz.prog 3:=low Tryz.func3
def ZQ:cu Tryz.prog 4:=low Tryz.func4
def ZR:cu Tryz.prog 5:=low Tryz.func5
def ZS:cu Tryz.prog 6:=low Tryz.func6
def ZT:cu Tryz.prog 7:=low Tryz.func7
def ZU:cu Tryz.prog 8:=low Tryz.func8
def ZV:cu Tryz.prog 9:=low Tryz.func9
def RW:cu Tryz.prog 10:=low Tryz.func10
def N2:cu Tryz.prog 11:=low Tryz.func11
def RX:cu Tryz.prog 12:=low Tryz.func12
def JN:cu Tryz.prog 13:=low Tryz.func13
def RY:cu Tryz.prog 14:=low Tryz.func14
def RZ:cu Tryz.prog 16:=low Tryz.func16
def R0:cu Tryz.prog 17:=low Tryz.func17
def N3:cu Tryz.prog 18:=low Tryz.func18
def R1:cu Tryz.prog 19:=low Tryz.func19
def N4:cu Tryz.prog 20:=low Tryz.func20
def CW:cu Tryz.prog 21:=low Tryz.func21
def R3:cu Tryz.prog 22:=low Tryz.func22
def JO:cu Tryz.prog 23:=low Tryz.func23
def R4:cu Tryz.prog 24:=low Tryz.func24
def CX:cu Tryz.prog 25:=low Tryz.func25
def R5:cu Tryz.prog 26:=low Tryz.func26
def R6:cu Tryz.prog 27:=low Tryz.func27
def R7:cu Tryz.prog 28:=low Tryz.func28
def R8:cu Tryz.prog 29:=low Tryz.func29
def N5:cu Tryz.prog 30:=low Tryz.func30
def JP:cu Tryz.prog 31:=low Tryz.func31
def N6:cu Tryz.prog 32:=low Tryz.func32
def N7:cu Tryz.prog 33:=low Tryz.func33
def R9:cu Tryz.prog 34:=low Tryz.func34
def N8:cu Tryz.prog 35:=low Tryz.func35
def N9:cu Tryz.prog 36:=low Tryz.func36
def SA:cu Tryz.prog 37:=low Tryz.func37
def SB:cu Tryz.prog 38:=low Tryz.func38
def OA:cu Tryz.prog 39:=low Tryz.func39
def OB:cu Tryz.prog 40:=low Tryz.func40
def OC:cu Tryz.prog 41:=low Tryz.func41
def SC:cu Tryz.prog 42:=low Tryz.func42
def SD:cu Tryz.prog 43:=low Tryz.func43
def OD:cu Tryz.prog 44:=low Tryz.func44
def SE:cu Tryz.prog 45:=low Tryz.func45
def SF:cu Tryz.prog 46:=low Tryz.func46
def SG:cu Tryz.prog 47:=low Tryz.func47
def JQ:cu Tryz.prog 48:=low Tryz.func48
def OE:cu Tryz.prog 49:=low Tryz.func49
def JR:cu Tryz.prog 50:=low Tryz.func50
def SH:cu Tryz.prog 51:=low Tryz.func51
def SI:cu Tryz.prog 52:=low Tryz.func52
def SJ:cu Tryz.prog 53:=low Tryz.func53
def JS:cu Tryz.prog 54:=low Tryz.func54
def JT:cu Tryz.prog 55:=low Tryz.func55
def OF:cu Tryz.prog 56:=low Tryz.func56
def SK:cu Tryz.prog 57:=low Tryz.func57
def OG:cu Tryz.prog 58:=low Tryz.func58
def OH:cu Tryz.prog 59:=low Tryz.func59
def OI:cu Tryz.prog 60:=low Tryz.func60
def OJ:cu Tryz.prog 61:=low Tryz.func61
def CY:cu Tryz.prog 62:=low Tryz.func62
def OK:cu Tryz.prog 63:=low Tryz.func63
def SL:cu Tryz.prog 64:=low Tryz.func64
def SM:cu Tryz.prog 65:=low Tryz.func65
def SN:cu Tryz.prog 66:=low Tryz.func66
def OL:cu Tryz.prog 67:=low Tryz.func67
def OM:cu Tryz.prog 68:=low Tryz.func68
def wZ:cu Tryz.prog 69:=low Tryz.func69
def SO:cu Tryz.prog 70:=low Tryz.func70
end Go.Proofs.YtjopoheligmmoaaGreatDoor
end
