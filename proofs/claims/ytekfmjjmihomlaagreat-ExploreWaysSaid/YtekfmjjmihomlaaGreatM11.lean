import Derived.Test.YtekfmjjmihomlaaGreatProg
import Derived.Test.YtekfmjjmihomlaaGreatM10
section
/- Lowered functions. -/
namespace Go.Proofs.YtekfmjjmihomlaaGreat
open Go Go.cV Go.Proofs
set_option maxRecDepth 100000
def P8:dK Tryz.prog 3:=low Tryz.func3
def P9:dK Tryz.prog 4:=low Tryz.func4
def QA:dK Tryz.prog 5:=low Tryz.func5
def QB:dK Tryz.prog 6:=low Tryz.func6
def PJ:dK Tryz.prog 7:=low Tryz.func7
def QC:dK Tryz.prog 8:=low Tryz.func8
def QD:dK Tryz.prog 9:=low Tryz.func9
def KB:dK Tryz.prog 10:=low Tryz.func10
def FV:dK Tryz.prog 11:=low Tryz.func11
def KC:dK Tryz.prog 12:=low Tryz.func12
def FW:dK Tryz.prog 13:=low Tryz.func13
def KD:dK Tryz.prog 14:=low Tryz.func14
def KE:dK Tryz.prog 15:=low Tryz.func15
def KF:dK Tryz.prog 16:=low Tryz.func16
def FX:dK Tryz.prog 17:=low Tryz.func17
def FY:dK Tryz.prog 18:=low Tryz.func18
def FZ:dK Tryz.prog 19:=low Tryz.func19
def F0:dK Tryz.prog 20:=low Tryz.func20
def CO:dK Tryz.prog 21:=low Tryz.func21
def F1:dK Tryz.prog 22:=low Tryz.func22
def F2:dK Tryz.prog 23:=low Tryz.func23
def KG:dK Tryz.prog 24:=low Tryz.func24
def F3:dK Tryz.prog 25:=low Tryz.func25
def F4:dK Tryz.prog 26:=low Tryz.func26
def F5:dK Tryz.prog 27:=low Tryz.func27
def F6:dK Tryz.prog 28:=low Tryz.func28
def F7:dK Tryz.prog 29:=low Tryz.func29
def F8:dK Tryz.prog 30:=low Tryz.func30
def KH:dK Tryz.prog 31:=low Tryz.func31
def yY:dK Tryz.prog 32:=low Tryz.func32
def F9:dK Tryz.prog 33:=low Tryz.func33
def yZ:dK Tryz.prog 34:=low Tryz.func34
def CP:dK Tryz.prog 35:=low Tryz.func35
def GA:dK Tryz.prog 36:=low Tryz.func36
def KI:dK Tryz.prog 37:=low Tryz.func37
def GB:dK Tryz.prog 38:=low Tryz.func38
def KJ:dK Tryz.prog 39:=low Tryz.func39
def GC:dK Tryz.prog 40:=low Tryz.func40
def KK:dK Tryz.prog 41:=low Tryz.func41
def KL:dK Tryz.prog 42:=low Tryz.func42
def KM:dK Tryz.prog 43:=low Tryz.func43
def GD:dK Tryz.prog 44:=low Tryz.func44
def GF:dK Tryz.prog 45:=low Tryz.func45
def GG:dK Tryz.prog 46:=low Tryz.func46
def GH:dK Tryz.prog 47:=low Tryz.func47
def y0:dK Tryz.prog 48:=low Tryz.func48
def yb:dK Tryz.prog 49:=low Tryz.func49
def GI:dK Tryz.prog 50:=low Tryz.func50
def GJ:dK Tryz.prog 51:=low Tryz.func51
def GK:dK Tryz.prog 52:=low Tryz.func52
def GL:dK Tryz.prog 53:=low Tryz.func53
def uE:dK Tryz.prog 54:=low Tryz.func54
def KN:dK Tryz.prog 55:=low Tryz.func55
def GM:dK Tryz.prog 56:=low Tryz.func56
def GN:dK Tryz.prog 57:=low Tryz.func57
def uF:dK Tryz.prog 58:=low Tryz.func58
def GO:dK Tryz.prog 59:=low Tryz.func59
def CQ:dK Tryz.prog 60:=low Tryz.func60
end Go.Proofs.YtekfmjjmihomlaaGreat
end
