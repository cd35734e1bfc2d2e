/-
 The code of the functions that this seat reaches, translated into abstract code (brought out by Lean itself from the translation). No condition.
-/
import Derived.Test.YtcaaenddpjepiaaGreatDoorExe
import Derived.Test.YtcaaenddpjepiaaGreatDoorChecked
set_option maxRecDepth 1000000
set_option maxHeartbeats 0
set_option linter.defProp false
namespace Go.Proofs.YtcaaenddpjepiaaGreatDoor
open Go.Abs
def J7:=(by conv=>lhs;reduce;simp only [Int.reduceOfNat,Int.reduceNegSucc]:B8 Tryz.prog 64=_)
def A5i:=(by conv=>lhs;reduce;simp only [Int.reduceOfNat,Int.reduceNegSucc]:B8 Tryz.prog 65=_)
def O2:=(by conv=>lhs;reduce;simp only [Int.reduceOfNat,Int.reduceNegSucc]:B8 Tryz.prog 66=_)
def A5j:=(by conv=>lhs;reduce;simp only [Int.reduceOfNat,Int.reduceNegSucc]:B8 Tryz.prog 67=_)
noncomputable def B4g:AC:=lpO Tryz.prog 68 0
def A4B:=(by conv=>lhs;reduce;simp only [Int.reduceOfNat,Int.reduceNegSucc]:B4g=_)
def A7W:=(by conv=>lhs;reduce;simp only [Int.reduceOfNat,Int.reduceNegSucc,←A4B]:B8 Tryz.prog 68=_)
noncomputable def A7r:AC:=lpO Tryz.prog 69 0
def w8:=(by conv=>lhs;reduce;simp only [Int.reduceOfNat,Int.reduceNegSucc]:A7r=_)
def A1X:=(by conv=>lhs;reduce;simp only [Int.reduceOfNat,Int.reduceNegSucc,←w8]:B8 Tryz.prog 69=_)
noncomputable def A7C:AC:=lpO Tryz.prog 70 0
def A0f:=(by conv=>lhs;reduce;simp only [Int.reduceOfNat,Int.reduceNegSucc]:A7C=_)
def A2h:=(by conv=>lhs;reduce;simp only [Int.reduceOfNat,Int.reduceNegSucc,←A0f]:B8 Tryz.prog 70=_)
noncomputable def A8T:AC:=lpO Tryz.prog 71 0
def A0K:=(by conv=>lhs;reduce;simp only [Int.reduceOfNat,Int.reduceNegSucc]:A8T=_)
def A2Z:=(by conv=>lhs;reduce;simp only [Int.reduceOfNat,Int.reduceNegSucc,←A0K]:B8 Tryz.prog 71=_)
def p9:=(by conv=>lhs;reduce;simp only [Int.reduceOfNat,Int.reduceNegSucc]:B8 Tryz.prog 72=_)
noncomputable def A8Q:AC:=lpO Tryz.prog 73 0
def A0I:=(by conv=>lhs;reduce;simp only [Int.reduceOfNat,Int.reduceNegSucc]:A8Q=_)
def A2X:=(by conv=>lhs;reduce;simp only [Int.reduceOfNat,Int.reduceNegSucc,←A0I]:B8 Tryz.prog 73=_)
def A2W:=(by conv=>lhs;reduce;simp only [Int.reduceOfNat,Int.reduceNegSucc]:B8 Tryz.prog 74=_)
def A0H:=(by conv=>lhs;reduce;simp only [Int.reduceOfNat,Int.reduceNegSucc]:B8 Tryz.prog 75=_)
noncomputable def B6F:AC:=lpO Tryz.prog 76 0
def A6e:=(by conv=>lhs;reduce;simp only [Int.reduceOfNat,Int.reduceNegSucc]:B6F=_)
def B0m:=(by conv=>lhs;reduce;simp only [Int.reduceOfNat,Int.reduceNegSucc,←A6e]:B8 Tryz.prog 76=_)
def B1c:=(by conv=>lhs;reduce;simp only [Int.reduceOfNat,Int.reduceNegSucc]:B8 Tryz.prog 77=_)
noncomputable def B5d:AC:=lpO Tryz.prog 78 0
noncomputable def B5e:AC:=lpO Tryz.prog 78 1
noncomputable def B5f:AC:=lpO Tryz.prog 78 2
def Z6:=(by conv=>lhs;reduce;simp only [Int.reduceOfNat,Int.reduceNegSucc]:B5f=_)
def A1B:=(by conv=>lhs;reduce;simp only [Int.reduceOfNat,Int.reduceNegSucc,←Z6]:B5e=_)
def A5o:=(by conv=>lhs;reduce;simp only [Int.reduceOfNat,Int.reduceNegSucc,←A1B,←Z6]:B5d=_)
def A9v:=(by conv=>lhs;reduce;simp only [Int.reduceOfNat,Int.reduceNegSucc,←A5o,←A1B,←Z6]:B8 Tryz.prog 78=_)
def A4l:=(by conv=>lhs;reduce;simp only [Int.reduceOfNat,Int.reduceNegSucc]:B8 Tryz.prog 79=_)
noncomputable def A9G:AC:=lpO Tryz.prog 80 0
noncomputable def A9H:AC:=lpO Tryz.prog 80 1
def V6:=(by conv=>lhs;reduce;simp only [Int.reduceOfNat,Int.reduceNegSucc]:A9H=_)
def A0X:=(by conv=>lhs;reduce;simp only [Int.reduceOfNat,Int.reduceNegSucc,←V6]:A9G=_)
def A3g:=(by conv=>lhs;reduce;simp only [Int.reduceOfNat,Int.reduceNegSucc,←A0X,←V6]:B8 Tryz.prog 80=_)
def A9o:=(by conv=>lhs;reduce;simp only [Int.reduceOfNat,Int.reduceNegSucc]:B8 Tryz.prog 81=_)
def A8W:=(by conv=>lhs;reduce;simp only [Int.reduceOfNat,Int.reduceNegSucc]:B8 Tryz.prog 82=_)
noncomputable def A5M:AC:=lpO Tryz.prog 83 0
noncomputable def A5N:AC:=lpO Tryz.prog 83 1
def i6:=(by conv=>lhs;reduce;simp only [Int.reduceOfNat,Int.reduceNegSucc]:A5N=_)
def A4p:=(by conv=>lhs;reduce;simp only [Int.reduceOfNat,Int.reduceNegSucc,←i6]:A5M=_)
def A5O:=(by conv=>lhs;reduce;simp only [Int.reduceOfNat,Int.reduceNegSucc,←A4p,←i6]:B8 Tryz.prog 83=_)
def A7e:=(by conv=>lhs;reduce;simp only [Int.reduceOfNat,Int.reduceNegSucc]:B8 Tryz.prog 84=_)
noncomputable def A1q:AC:=lpO Tryz.prog 85 0
def N3:=(by conv=>lhs;reduce;simp only [Int.reduceOfNat,Int.reduceNegSucc]:A1q=_)
def Q6:=(by conv=>lhs;reduce;simp only [Int.reduceOfNat,Int.reduceNegSucc,←N3]:B8 Tryz.prog 85=_)
noncomputable def t7:AC:=lpO Tryz.prog 86 0
def J8:=(by conv=>lhs;reduce;simp only [Int.reduceOfNat,Int.reduceNegSucc]:t7=_)
def M4:=(by conv=>lhs;reduce;simp only [Int.reduceOfNat,Int.reduceNegSucc,←J8]:B8 Tryz.prog 86=_)
noncomputable def A2s:AC:=lpO Tryz.prog 87 0
def O5:=(by conv=>lhs;reduce;simp only [Int.reduceOfNat,Int.reduceNegSucc]:A2s=_)
def S8:=(by conv=>lhs;reduce;simp only [Int.reduceOfNat,Int.reduceNegSucc,←O5]:B8 Tryz.prog 87=_)
noncomputable def B5n:AC:=lpO Tryz.prog 88 0
def A5G:=(by conv=>lhs;reduce;simp only [Int.reduceOfNat,Int.reduceNegSucc]:B5n=_)
def A9D:=(by conv=>lhs;reduce;simp only [Int.reduceOfNat,Int.reduceNegSucc,←A5G]:B8 Tryz.prog 88=_)
def Y0:=(by conv=>lhs;reduce;simp only [Int.reduceOfNat,Int.reduceNegSucc]:B8 Tryz.prog 89=_)
noncomputable def A7s:AC:=lpO Tryz.prog 90 0
noncomputable def A7t:AC:=lpO Tryz.prog 90 1
def R6:=(by conv=>lhs;reduce;simp only [Int.reduceOfNat,Int.reduceNegSucc]:A7t=_)
def y0:=(by conv=>lhs;reduce;simp only [Int.reduceOfNat,Int.reduceNegSucc,←R6]:A7s=_)
def A1Y:=(by conv=>lhs;reduce;simp only [Int.reduceOfNat,Int.reduceNegSucc,←y0,←R6]:B8 Tryz.prog 90=_)
noncomputable def A6D:AC:=lpO Tryz.prog 91 0
noncomputable def A6E:AC:=lpO Tryz.prog 91 1
noncomputable def A6F:AC:=lpO Tryz.prog 91 2
def J0:=(by conv=>lhs;reduce;simp only [Int.reduceOfNat,Int.reduceNegSucc]:A6F=_)
def P3:=(by conv=>lhs;reduce;simp only [Int.reduceOfNat,Int.reduceNegSucc,←J0]:A6E=_)
def p8:=(by conv=>lhs;reduce;simp only [Int.reduceOfNat,Int.reduceNegSucc,←P3,←J0]:A6D=_)
def A1h:=(by conv=>lhs;reduce;simp only [Int.reduceOfNat,Int.reduceNegSucc,←p8,←P3,←J0]:B8 Tryz.prog 91=_)
noncomputable def A6K:AC:=lpO Tryz.prog 92 0
noncomputable def A6L:AC:=lpO Tryz.prog 92 1
noncomputable def A6M:AC:=lpO Tryz.prog 92 2
noncomputable def A1m:AC:=lpO Tryz.prog 92 3
def H2:=(by conv=>lhs;reduce;simp only [Int.reduceOfNat,Int.reduceNegSucc]:A1m=_)
def J2:=(by conv=>lhs;reduce;simp only [Int.reduceOfNat,Int.reduceNegSucc,←H2]:A6M=_)
def P5:=(by conv=>lhs;reduce;simp only [Int.reduceOfNat,Int.reduceNegSucc,←J2,←H2]:A6L=_)
def q7:=(by conv=>lhs;reduce;simp only [Int.reduceOfNat,Int.reduceNegSucc,←P5,←J2,←H2]:A6K=_)
def A1n:=(by conv=>lhs;reduce;simp only [Int.reduceOfNat,Int.reduceNegSucc,←q7,←P5,←J2,←H2]:B8 Tryz.prog 92=_)
noncomputable def A5u:AC:=lpO Tryz.prog 93 0
noncomputable def A5v:AC:=lpO Tryz.prog 93 1
noncomputable def A5w:AC:=lpO Tryz.prog 93 2
def F9:=(by conv=>lhs;reduce;simp only [Int.reduceOfNat,Int.reduceNegSucc]:A5w=_)
def I5:=(by conv=>lhs;reduce;simp only [Int.reduceOfNat,Int.reduceNegSucc,←F9]:A5v=_)
def M9:=(by conv=>lhs;reduce;simp only [Int.reduceOfNat,Int.reduceNegSucc,←I5,←F9]:A5u=_)
noncomputable def D5:AC:=cdO Tryz.prog 93
@[go_sem] def A5t:=(by conv=>lhs;reduce;simp only [Int.reduceOfNat,Int.reduceNegSucc,←M9,←I5,←F9]:D5=_)
def A0h:=(by conv=>lhs;reduce;simp only [Int.reduceOfNat,Int.reduceNegSucc,←M9,←I5,←F9,←A5t]:B8 Tryz.prog 93=_)
def A1U:=(by conv=>lhs;reduce;simp only [Int.reduceOfNat,Int.reduceNegSucc]:B8 Tryz.prog 94=_)
noncomputable def A7x:AC:=lpO Tryz.prog 95 0
noncomputable def A7y:AC:=lpO Tryz.prog 95 1
def J6:=(by conv=>lhs;reduce;simp only [Int.reduceOfNat,Int.reduceNegSucc]:A7y=_)
def A0b:=(by conv=>lhs;reduce;simp only [Int.reduceOfNat,Int.reduceNegSucc,←J6]:A7x=_)
def A2c:=(by conv=>lhs;reduce;simp only [Int.reduceOfNat,Int.reduceNegSucc,←A0b,←J6]:B8 Tryz.prog 95=_)
def A1T:=(by conv=>lhs;reduce;simp only [Int.reduceOfNat,Int.reduceNegSucc]:B8 Tryz.prog 96=_)
noncomputable def A9N:AC:=lpO Tryz.prog 97 0
def A1i:=(by conv=>lhs;reduce;simp only [Int.reduceOfNat,Int.reduceNegSucc]:A9N=_)
def A3w:=(by conv=>lhs;reduce;simp only [Int.reduceOfNat,Int.reduceNegSucc,←A1i]:B8 Tryz.prog 97=_)
def A1b:=(by conv=>lhs;reduce;simp only [Int.reduceOfNat,Int.reduceNegSucc]:B8 Tryz.prog 98=_)
def A9p:=(by conv=>lhs;reduce;simp only [Int.reduceOfNat,Int.reduceNegSucc]:B8 Tryz.prog 99=_)
noncomputable def B7D:AC:=lpO Tryz.prog 100 0
def A7l:=(by conv=>lhs;reduce;simp only [Int.reduceOfNat,Int.reduceNegSucc]:B7D=_)
def B1f:=(by conv=>lhs;reduce;simp only [Int.reduceOfNat,Int.reduceNegSucc,←A7l]:B8 Tryz.prog 100=_)
noncomputable def B5c:AC:=lpO Tryz.prog 101 0
def A5n:=(by conv=>lhs;reduce;simp only [Int.reduceOfNat,Int.reduceNegSucc]:B5c=_)
def A9q:=(by conv=>lhs;reduce;simp only [Int.reduceOfNat,Int.reduceNegSucc,←A5n]:B8 Tryz.prog 101=_)
def A9t:=(by conv=>lhs;reduce;simp only [Int.reduceOfNat,Int.reduceNegSucc]:B8 Tryz.prog 102=_)
noncomputable def B7B:AC:=lpO Tryz.prog 103 0
noncomputable def B7C:AC:=lpO Tryz.prog 103 1
def A0y:=(by conv=>lhs;reduce;simp only [Int.reduceOfNat,Int.reduceNegSucc]:B7C=_)
def A3G:=(by conv=>lhs;reduce;simp only [Int.reduceOfNat,Int.reduceNegSucc,←A0y]:B7B=_)
def B1e:=(by conv=>lhs;reduce;simp only [Int.reduceOfNat,Int.reduceNegSucc,←A3G,←A0y]:B8 Tryz.prog 103=_)
def A3W:=(by conv=>lhs;reduce;simp only [Int.reduceOfNat,Int.reduceNegSucc]:B8 Tryz.prog 104=_)
noncomputable def B4Z:AC:=lpO Tryz.prog 105 0
noncomputable def B5a:AC:=lpO Tryz.prog 105 1
def Z5:=(by conv=>lhs;reduce;simp only [Int.reduceOfNat,Int.reduceNegSucc]:B5a=_)
def A1z:=(by conv=>lhs;reduce;simp only [Int.reduceOfNat,Int.reduceNegSucc,←Z5]:B4Z=_)
def A9n:=(by conv=>lhs;reduce;simp only [Int.reduceOfNat,Int.reduceNegSucc,←A1z,←Z5]:B8 Tryz.prog 105=_)
def A7g:=(by conv=>lhs;reduce;simp only [Int.reduceOfNat,Int.reduceNegSucc]:B8 Tryz.prog 106=_)
noncomputable def B6D:AC:=lpO Tryz.prog 107 0
def A5Y:=(by conv=>lhs;reduce;simp only [Int.reduceOfNat,Int.reduceNegSucc]:B6D=_)
def A5e:=(by conv=>lhs;reduce;simp only [Int.reduceOfNat,Int.reduceNegSucc,←A5Y]:B8 Tryz.prog 107=_)
noncomputable def B4h:AC:=lpO Tryz.prog 110 0
noncomputable def B4i:AC:=lpO Tryz.prog 110 1
def A0S:=(by conv=>lhs;reduce;simp only [Int.reduceOfNat,Int.reduceNegSucc]:B4i=_)
def A4C:=(by conv=>lhs;reduce;simp only [Int.reduceOfNat,Int.reduceNegSucc,←A0S]:B4h=_)
def A7X:=(by conv=>lhs;reduce;simp only [Int.reduceOfNat,Int.reduceNegSucc,←A4C,←A0S]:B8 Tryz.prog 110=_)
noncomputable def B5k:AC:=lpO Tryz.prog 111 0
noncomputable def B5l:AC:=lpO Tryz.prog 111 1
def A1F:=(by conv=>lhs;reduce;simp only [Int.reduceOfNat,Int.reduceNegSucc]:B5l=_)
def A5D:=(by conv=>lhs;reduce;simp only [Int.reduceOfNat,Int.reduceNegSucc,←A1F]:B5k=_)
def A9B:=(by conv=>lhs;reduce;simp only [Int.reduceOfNat,Int.reduceNegSucc,←A5D,←A1F]:B8 Tryz.prog 111=_)
noncomputable def B2e:AC:=lpO Tryz.prog 112 0
def j8:=(by conv=>lhs;reduce;simp only [Int.reduceOfNat,Int.reduceNegSucc]:B2e=_)
noncomputable def A6p:AC:=cdO Tryz.prog 112
@[go_sem] def B2d:=(by conv=>lhs;reduce;simp only [Int.reduceOfNat,Int.reduceNegSucc,←j8]:A6p=_)
def A1H:=(by conv=>lhs;reduce;simp only [Int.reduceOfNat,Int.reduceNegSucc,←j8,←B2d]:B8 Tryz.prog 112=_)
noncomputable def A6w:AC:=lpO Tryz.prog 113 0
noncomputable def A6x:AC:=lpO Tryz.prog 113 1
def P0:=(by conv=>lhs;reduce;simp only [Int.reduceOfNat,Int.reduceNegSucc]:A6x=_)
def p7:=(by conv=>lhs;reduce;simp only [Int.reduceOfNat,Int.reduceNegSucc,←P0]:A6w=_)
def A1f:=(by conv=>lhs;reduce;simp only [Int.reduceOfNat,Int.reduceNegSucc,←p7,←P0]:B8 Tryz.prog 113=_)
noncomputable def A8E:AC:=lpO Tryz.prog 114 0
noncomputable def A8F:AC:=lpO Tryz.prog 114 1
noncomputable def A8G:AC:=lpO Tryz.prog 114 2
noncomputable def A8H:AC:=lpO Tryz.prog 114 3
def H9:=(by conv=>lhs;reduce;simp only [Int.reduceOfNat,Int.reduceNegSucc]:A8H=_)
def K9:=(by conv=>lhs;reduce;simp only [Int.reduceOfNat,Int.reduceNegSucc,←H9]:A8G=_)
def T5:=(by conv=>lhs;reduce;simp only [Int.reduceOfNat,Int.reduceNegSucc,←K9,←H9]:A8F=_)
def A0F:=(by conv=>lhs;reduce;simp only [Int.reduceOfNat,Int.reduceNegSucc,←T5,←K9,←H9]:A8E=_)
def A2O:=(by conv=>lhs;reduce;simp only [Int.reduceOfNat,Int.reduceNegSucc,←A0F,←T5,←K9,←H9]:B8 Tryz.prog 114=_)
def A2a:=(by conv=>lhs;reduce;simp only [Int.reduceOfNat,Int.reduceNegSucc]:B8 Tryz.prog 115=_)
noncomputable def A7B:AC:=lpO Tryz.prog 116 0
def A0e:=(by conv=>lhs;reduce;simp only [Int.reduceOfNat,Int.reduceNegSucc]:A7B=_)
def A2g:=(by conv=>lhs;reduce;simp only [Int.reduceOfNat,Int.reduceNegSucc,←A0e]:B8 Tryz.prog 116=_)
noncomputable def A2i:AC:=cdO Tryz.prog 117
@[go_sem] def A6J:=(by conv=>lhs;reduce;simp only [Int.reduceOfNat,Int.reduceNegSucc]:A2i=_)
def A1l:=(by conv=>lhs;reduce;simp only [Int.reduceOfNat,Int.reduceNegSucc,←A6J]:B8 Tryz.prog 117=_)
noncomputable def A7D:AC:=lpO Tryz.prog 118 0
noncomputable def A7E:AC:=lpO Tryz.prog 118 1
def R9:=(by conv=>lhs;reduce;simp only [Int.reduceOfNat,Int.reduceNegSucc]:A7E=_)
def A0g:=(by conv=>lhs;reduce;simp only [Int.reduceOfNat,Int.reduceNegSucc,←R9]:A7D=_)
def A2j:=(by conv=>lhs;reduce;simp only [Int.reduceOfNat,Int.reduceNegSucc,←A0g,←R9]:B8 Tryz.prog 118=_)
noncomputable def A7z:AC:=lpO Tryz.prog 119 0
def A0c:=(by conv=>lhs;reduce;simp only [Int.reduceOfNat,Int.reduceNegSucc]:A7z=_)
def A2e:=(by conv=>lhs;reduce;simp only [Int.reduceOfNat,Int.reduceNegSucc,←A0c]:B8 Tryz.prog 119=_)
noncomputable def A7p:AC:=lpO Tryz.prog 120 0
noncomputable def A7q:AC:=lpO Tryz.prog 120 1
def E5:=(by conv=>lhs;reduce;simp only [Int.reduceOfNat,Int.reduceNegSucc]:A7q=_)
def F5:=(by conv=>lhs;reduce;simp only [Int.reduceOfNat,Int.reduceNegSucc,←E5]:A7p=_)
def A1S:=(by conv=>lhs;reduce;simp only [Int.reduceOfNat,Int.reduceNegSucc,←F5,←E5]:B8 Tryz.prog 120=_)
end Go.Proofs.YtcaaenddpjepiaaGreatDoor
