/-
 The code of the functions that this seat reaches, translated into abstract code (brought out by Lean itself from the translation). No condition.
-/
import Derived.Test.YtcaaenddpjepiaaGreatDoorCodeA
import Derived.Test.YtcaaenddpjepiaaGreatDoorCodeB
import Derived.Test.YtcaaenddpjepiaaGreatDoorCodeP
set_option maxRecDepth 1000000
set_option maxHeartbeats 0
set_option linter.defProp false
namespace Go.Proofs.YtcaaenddpjepiaaGreatDoor
open Go.Abs
noncomputable def A9M:AC:=lpO Tryz.prog 121 0
def A1e:=(by conv=>lhs;reduce;simp only [Int.reduceOfNat,Int.reduceNegSucc]:A9M=_)
def A3p:=(by conv=>lhs;reduce;simp only [Int.reduceOfNat,Int.reduceNegSucc,←A1e]:B8 Tryz.prog 121=_)
def d5:=(by conv=>lhs;reduce;simp only [Int.reduceOfNat,Int.reduceNegSucc]:B8 Tryz.prog 122=_)
noncomputable def A8A:AC:=lpO Tryz.prog 123 0
def S9:=(by conv=>lhs;reduce;simp only [Int.reduceOfNat,Int.reduceNegSucc]:A8A=_)
def d6:=(by conv=>lhs;reduce;simp only [Int.reduceOfNat,Int.reduceNegSucc,←S9]:B8 Tryz.prog 123=_)
def Q0:=(by conv=>lhs;reduce;simp only [Int.reduceOfNat,Int.reduceNegSucc]:B8 Tryz.prog 124=_)
def Q1:=(by conv=>lhs;reduce;simp only [Int.reduceOfNat,Int.reduceNegSucc]:B8 Tryz.prog 125=_)
def Y8:=(by conv=>lhs;reduce;simp only [Int.reduceOfNat,Int.reduceNegSucc]:B8 Tryz.prog 126=_)
def W1:=(by conv=>lhs;reduce;simp only [Int.reduceOfNat,Int.reduceNegSucc]:B8 Tryz.prog 127=_)
def A6f:=(by conv=>lhs;reduce;simp only [Int.reduceOfNat,Int.reduceNegSucc]:B8 Tryz.prog 128=_)
def A6g:=(by conv=>lhs;reduce;simp only [Int.reduceOfNat,Int.reduceNegSucc]:B8 Tryz.prog 129=_)
def A6h:=(by conv=>lhs;reduce;simp only [Int.reduceOfNat,Int.reduceNegSucc]:B8 Tryz.prog 130=_)
def Y1:=(by conv=>lhs;reduce;simp only [Int.reduceOfNat,Int.reduceNegSucc]:B8 Tryz.prog 131=_)
def A9r:=(by conv=>lhs;reduce;simp only [Int.reduceOfNat,Int.reduceNegSucc]:B8 Tryz.prog 132=_)
def A9s:=(by conv=>lhs;reduce;simp only [Int.reduceOfNat,Int.reduceNegSucc]:B8 Tryz.prog 133=_)
def A9w:=(by conv=>lhs;reduce;simp only [Int.reduceOfNat,Int.reduceNegSucc]:B8 Tryz.prog 135=_)
def A9u:=(by conv=>lhs;reduce;simp only [Int.reduceOfNat,Int.reduceNegSucc]:B8 Tryz.prog 136=_)
def B2M:=(by conv=>lhs;reduce;simp only [Int.reduceOfNat,Int.reduceNegSucc]:B8 Tryz.prog 137=_)
def A7f:=(by conv=>lhs;reduce;simp only [Int.reduceOfNat,Int.reduceNegSucc]:B8 Tryz.prog 138=_)
def B2L:=(by conv=>lhs;reduce;simp only [Int.reduceOfNat,Int.reduceNegSucc]:B8 Tryz.prog 139=_)
def B0i:=(by conv=>lhs;reduce;simp only [Int.reduceOfNat,Int.reduceNegSucc]:B8 Tryz.prog 140=_)
noncomputable def B5m:AC:=lpO Tryz.prog 152 0
def A5F:=(by conv=>lhs;reduce;simp only [Int.reduceOfNat,Int.reduceNegSucc]:B5m=_)
def A9C:=(by conv=>lhs;reduce;simp only [Int.reduceOfNat,Int.reduceNegSucc,←A5F]:B8 Tryz.prog 152=_)
def A7V:=(by conv=>lhs;reduce;simp only [Int.reduceOfNat,Int.reduceNegSucc]:B8 Tryz.prog 153=_)
noncomputable def B7r:AC:=lpO Tryz.prog 154 0
def A6n:=(by conv=>lhs;reduce;simp only [Int.reduceOfNat,Int.reduceNegSucc]:B7r=_)
def B0z:=(by conv=>lhs;reduce;simp only [Int.reduceOfNat,Int.reduceNegSucc,←A6n]:B8 Tryz.prog 154=_)
noncomputable def B5o:AC:=lpO Tryz.prog 155 0
noncomputable def B5p:AC:=lpO Tryz.prog 155 1
def d9:=(by conv=>lhs;reduce;simp only [Int.reduceOfNat,Int.reduceNegSucc]:B5p=_)
def A1G:=(by conv=>lhs;reduce;simp only [Int.reduceOfNat,Int.reduceNegSucc,←d9]:B5o=_)
def A4t:=(by conv=>lhs;reduce;simp only [Int.reduceOfNat,Int.reduceNegSucc,←A1G,←d9]:B8 Tryz.prog 155=_)
def A4d:=(by conv=>lhs;reduce;simp only [Int.reduceOfNat,Int.reduceNegSucc]:B8 Tryz.prog 156=_)
noncomputable def A7u:AC:=lpO Tryz.prog 158 0
def A0a:=(by conv=>lhs;reduce;simp only [Int.reduceOfNat,Int.reduceNegSucc]:A7u=_)
def A1Z:=(by conv=>lhs;reduce;simp only [Int.reduceOfNat,Int.reduceNegSucc,←A0a]:B8 Tryz.prog 158=_)
def A1g:=(by conv=>lhs;reduce;simp only [Int.reduceOfNat,Int.reduceNegSucc]:B8 Tryz.prog 159=_)
noncomputable def A6H:AC:=lpO Tryz.prog 160 0
noncomputable def A6I:AC:=lpO Tryz.prog 160 1
def J1:=(by conv=>lhs;reduce;simp only [Int.reduceOfNat,Int.reduceNegSucc]:A6I=_)
def P4:=(by conv=>lhs;reduce;simp only [Int.reduceOfNat,Int.reduceNegSucc,←J1]:A6H=_)
noncomputable def D3:AC:=cdO Tryz.prog 160
@[go_sem] def A6G:=(by conv=>lhs;reduce;simp only [Int.reduceOfNat,Int.reduceNegSucc,←P4,←J1]:D3=_)
def A1k:=(by conv=>lhs;reduce;simp only [Int.reduceOfNat,Int.reduceNegSucc,←P4,←J1,←A6G]:B8 Tryz.prog 160=_)
def A2K:=(by conv=>lhs;reduce;simp only [Int.reduceOfNat,Int.reduceNegSucc]:B8 Tryz.prog 161=_)
def A1c:=(by conv=>lhs;reduce;simp only [Int.reduceOfNat,Int.reduceNegSucc]:B8 Tryz.prog 162=_)
def A1W:=(by conv=>lhs;reduce;simp only [Int.reduceOfNat,Int.reduceNegSucc]:B8 Tryz.prog 163=_)
noncomputable def A9L:AC:=lpO Tryz.prog 164 0
def A1d:=(by conv=>lhs;reduce;simp only [Int.reduceOfNat,Int.reduceNegSucc]:A9L=_)
def A3o:=(by conv=>lhs;reduce;simp only [Int.reduceOfNat,Int.reduceNegSucc,←A1d]:B8 Tryz.prog 164=_)
noncomputable def A4M:AC:=lpO Tryz.prog 165 0
def L9:=(by conv=>lhs;reduce;simp only [Int.reduceOfNat,Int.reduceNegSucc]:A4M=_)
def P7:=(by conv=>lhs;reduce;simp only [Int.reduceOfNat,Int.reduceNegSucc,←L9]:B8 Tryz.prog 165=_)
def A6j:=(by conv=>lhs;reduce;simp only [Int.reduceOfNat,Int.reduceNegSucc]:B8 Tryz.prog 166=_)
def A6i:=(by conv=>lhs;reduce;simp only [Int.reduceOfNat,Int.reduceNegSucc]:B8 Tryz.prog 167=_)
def A6d:=(by conv=>lhs;reduce;simp only [Int.reduceOfNat,Int.reduceNegSucc]:B8 Tryz.prog 168=_)
noncomputable def B3k:AC:=lpO Tryz.prog 169 0
noncomputable def B3l:AC:=lpO Tryz.prog 169 1
noncomputable def B3m:AC:=lpO Tryz.prog 169 2
noncomputable def B3n:AC:=lpO Tryz.prog 169 3
def U9:=(by conv=>lhs;reduce;simp only [Int.reduceOfNat,Int.reduceNegSucc]:B3n=_)
def A0u:=(by conv=>lhs;reduce;simp only [Int.reduceOfNat,Int.reduceNegSucc,←U9]:B3m=_)
def A4b:=(by conv=>lhs;reduce;simp only [Int.reduceOfNat,Int.reduceNegSucc,←A0u,←U9]:B3l=_)
def B0w:=(by conv=>lhs;reduce;simp only [Int.reduceOfNat,Int.reduceNegSucc,←A4b,←A0u,←U9]:B3k=_)
def B3o:=(by conv=>lhs;reduce;simp only [Int.reduceOfNat,Int.reduceNegSucc,←B0w,←A4b,←A0u,←U9]:B8 Tryz.prog 169=_)
def B5b:=(by conv=>lhs;reduce;simp only [Int.reduceOfNat,Int.reduceNegSucc]:B8 Tryz.prog 170=_)
noncomputable def B4f:AC:=lpO Tryz.prog 177 0
def A0R:=(by conv=>lhs;reduce;simp only [Int.reduceOfNat,Int.reduceNegSucc]:B4f=_)
noncomputable def j4:AC:=cdO Tryz.prog 177
@[go_sem] def B4e:=(by conv=>lhs;reduce;simp only [Int.reduceOfNat,Int.reduceNegSucc,←A0R]:j4=_)
def A7U:=(by conv=>lhs;reduce;simp only [Int.reduceOfNat,Int.reduceNegSucc,←A0R,←B4e]:B8 Tryz.prog 177=_)
def A6o:=(by conv=>lhs;reduce;simp only [Int.reduceOfNat,Int.reduceNegSucc]:B8 Tryz.prog 178=_)
def A1R:=(by conv=>lhs;reduce;simp only [Int.reduceOfNat,Int.reduceNegSucc]:B8 Tryz.prog 179=_)
def A2U:=(by conv=>lhs;reduce;simp only [Int.reduceOfNat,Int.reduceNegSucc]:B8 Tryz.prog 180=_)
def A1j:=(by conv=>lhs;reduce;simp only [Int.reduceOfNat,Int.reduceNegSucc]:B8 Tryz.prog 181=_)
noncomputable def A7A:AC:=lpO Tryz.prog 182 0
def A0d:=(by conv=>lhs;reduce;simp only [Int.reduceOfNat,Int.reduceNegSucc]:A7A=_)
def A2f:=(by conv=>lhs;reduce;simp only [Int.reduceOfNat,Int.reduceNegSucc,←A0d]:B8 Tryz.prog 182=_)
def B0t:=(by conv=>lhs;reduce;simp only [Int.reduceOfNat,Int.reduceNegSucc]:B8 Tryz.prog 183=_)
def A9K:=(by conv=>lhs;reduce;simp only [Int.reduceOfNat,Int.reduceNegSucc]:B8 Tryz.prog 184=_)
def A1V:=(by conv=>lhs;reduce;simp only [Int.reduceOfNat,Int.reduceNegSucc]:B8 Tryz.prog 185=_)
noncomputable def B5g:AC:=lpO Tryz.prog 186 0
def A5p:=(by conv=>lhs;reduce;simp only [Int.reduceOfNat,Int.reduceNegSucc]:B5g=_)
def A9x:=(by conv=>lhs;reduce;simp only [Int.reduceOfNat,Int.reduceNegSucc,←A5p]:B8 Tryz.prog 186=_)
def A0M:=(by conv=>lhs;reduce;simp only [Int.reduceOfNat,Int.reduceNegSucc]:B8 Tryz.prog 190=_)
noncomputable def B5q:AC:=lpO Tryz.prog 191 0
def A5H:=(by conv=>lhs;reduce;simp only [Int.reduceOfNat,Int.reduceNegSucc]:B5q=_)
def A9E:=(by conv=>lhs;reduce;simp only [Int.reduceOfNat,Int.reduceNegSucc,←A5H]:B8 Tryz.prog 191=_)
noncomputable def A4q:AC:=lpO Tryz.prog 192 0
def W2:=(by conv=>lhs;reduce;simp only [Int.reduceOfNat,Int.reduceNegSucc]:A4q=_)
def i7:=(by conv=>lhs;reduce;simp only [Int.reduceOfNat,Int.reduceNegSucc,←W2]:B8 Tryz.prog 192=_)
def A5E:=(by conv=>lhs;reduce;simp only [Int.reduceOfNat,Int.reduceNegSucc]:B8 Tryz.prog 193=_)
noncomputable def A9J:AC:=lpO Tryz.prog 194 0
def A0Z:=(by conv=>lhs;reduce;simp only [Int.reduceOfNat,Int.reduceNegSucc]:A9J=_)
def A3n:=(by conv=>lhs;reduce;simp only [Int.reduceOfNat,Int.reduceNegSucc,←A0Z]:B8 Tryz.prog 194=_)
def A3m:=(by conv=>lhs;reduce;simp only [Int.reduceOfNat,Int.reduceNegSucc]:B8 Tryz.prog 195=_)
def B0W:=(by conv=>lhs;reduce;simp only [Int.reduceOfNat,Int.reduceNegSucc]:B8 Tryz.prog 196=_)
def A2L:=(by conv=>lhs;reduce;simp only [Int.reduceOfNat,Int.reduceNegSucc]:B8 Tryz.prog 197=_)
noncomputable def D6x:{T:List (FuncId×Nat×AC×List RV)//A6S Tryz.prog T}:=⟨_,(.cons W0 (.cons A1Q (.cons A1P (.cons A2D (.cons X9 (.cons A2N (.cons A2J (.cons A2C (.cons A2I (.cons A6a (.cons A7i (.cons A1x (.cons B1d (.cons A2d (.cons A2l (.cons A2Y (.cons A2k (.cons A2M (.cons A3v (.cons A7j (.cons A4x (.cons A7d (.cons A6b (.cons A4y (.cons B2t (.cons A5k (.cons A3i (.cons A6c (.cons A0p (.cons A7k (.cons A5g (.cons B0Y (.cons A3S (.cons A3f (.cons Q3 (.cons Y3 (.cons Q5 (.cons Z0 (.cons W4 (.cons F4 (.cons T7 (.cons A1p (.cons A2p (.cons A2V (.cons A2o (.cons A3Z (.cons A3a (.cons A0l (.cons A1o (.cons A2b (.cons A1a (.cons A2m (.cons A5l (.cons B0l (.cons B2v (.cons B2w (.cons B2u (.cons A9i (.cons A2q (.cons N1 (.cons A5h (.cons J7 (.cons A5i (.cons O2 (.cons A5j (.cons A7W (.cons A1X (.cons A2h (.cons A2Z (.cons p9 (.cons A2X (.cons A2W (.cons A0H (.cons B0m (.cons B1c (.cons A9v (.cons A4l (.cons A3g (.cons A9o (.cons A8W (.cons A5O (.cons A7e (.cons Q6 (.cons M4 (.cons S8 (.cons A9D (.cons Y0 (.cons A1Y (.cons A1h (.cons A1n (.cons A0h (.cons A1U (.cons A2c (.cons A1T (.cons A3w (.cons A1b (.cons A9p (.cons B1f (.cons A9q (.cons A9t (.cons B1e (.cons A3W (.cons A9n (.cons A7g (.cons A5e (.cons A7X (.cons A9B (.cons A1H (.cons A1f (.cons A2O (.cons A2a (.cons A2g (.cons A1l (.cons A2j (.cons A2e (.cons A1S (.cons A3p (.cons d5 (.cons d6 (.cons Q0 (.cons Q1 (.cons Y8 (.cons W1 (.cons A6f (.cons A6g (.cons A6h (.cons Y1 (.cons A9r (.cons A9s (.cons B0y (.cons A9w (.cons A9u (.cons B2M (.cons A7f (.cons B2L (.cons B0i (.cons A9C (.cons A7V (.cons B0z (.cons A4t (.cons A4d (.cons E7 (.cons A1Z (.cons A1g (.cons A1k (.cons A2K (.cons A1c (.cons A1W (.cons A3o (.cons P7 (.cons A6j (.cons A6i (.cons A6d (.cons B3o (.cons B5b (.cons A7U (.cons A6o (.cons A1R (.cons A2U (.cons A1j (.cons A2f (.cons B0t (.cons A9K (.cons A1V (.cons A9x (.cons A0M (.cons A9E (.cons i7 (.cons A5E (.cons A3n (.cons A3m (.cons B0W (.cons A2L .nil)))))))))))))))))))))))))))))))))))))))))))))))))))))))))))))))))))))))))))))))))))))))))))))))))))))))))))))))))))))))))))))))))))))))))))))))))))))))))))))))))))))))))))))⟩
noncomputable def exT:List (FuncId×Nat×AC×List RV):=D6x.1
theorem A2x:A6S Tryz.prog exT:=D6x.2
end Go.Proofs.YtcaaenddpjepiaaGreatDoor
