/-
 The code of the functions that this seat reaches, translated into abstract code (brought out by Lean itself from the translation). No condition.
-/
import Derived.Test.YtcaaenddpjepiaaGreatDoorExe
import Derived.Test.YtcaaenddpjepiaaGreatDoorChecked
set_option maxRecDepth 1000000
set_option maxHeartbeats 0
set_option linter.defProp false
namespace Go.Proofs.YtcaaenddpjepiaaGreatDoor
open Go.Abs
def W0:=(by conv=>lhs;reduce;simp only [Int.reduceOfNat,Int.reduceNegSucc]:B8 Tryz.prog 3=_)
noncomputable def A7o:AC:=lpO Tryz.prog 4 0
def w4:=(by conv=>lhs;reduce;simp only [Int.reduceOfNat,Int.reduceNegSucc]:A7o=_)
def A1Q:=(by conv=>lhs;reduce;simp only [Int.reduceOfNat,Int.reduceNegSucc,←w4]:B8 Tryz.prog 4=_)
noncomputable def B2P:AC:=lpO Tryz.prog 6 0
def A3T:=(by conv=>lhs;reduce;simp only [Int.reduceOfNat,Int.reduceNegSucc]:B2P=_)
def A2D:=(by conv=>lhs;reduce;simp only [Int.reduceOfNat,Int.reduceNegSucc,←A3T]:B8 Tryz.prog 6=_)
noncomputable def A7J:AC:=lpO Tryz.prog 7 0
def A0k:=(by conv=>lhs;reduce;simp only [Int.reduceOfNat,Int.reduceNegSucc]:A7J=_)
def X9:=(by conv=>lhs;reduce;simp only [Int.reduceOfNat,Int.reduceNegSucc,←A0k]:B8 Tryz.prog 7=_)
noncomputable def A8D:AC:=lpO Tryz.prog 8 0
def A0E:=(by conv=>lhs;reduce;simp only [Int.reduceOfNat,Int.reduceNegSucc]:A8D=_)
def A2N:=(by conv=>lhs;reduce;simp only [Int.reduceOfNat,Int.reduceNegSucc,←A0E]:B8 Tryz.prog 8=_)
noncomputable def A8y:AC:=lpO Tryz.prog 9 0
def A0C:=(by conv=>lhs;reduce;simp only [Int.reduceOfNat,Int.reduceNegSucc]:A8y=_)
def A2J:=(by conv=>lhs;reduce;simp only [Int.reduceOfNat,Int.reduceNegSucc,←A0C]:B8 Tryz.prog 9=_)
def A2C:=(by conv=>lhs;reduce;simp only [Int.reduceOfNat,Int.reduceNegSucc]:B8 Tryz.prog 10=_)
def A2I:=(by conv=>lhs;reduce;simp only [Int.reduceOfNat,Int.reduceNegSucc]:B8 Tryz.prog 11=_)
def A6a:=(by conv=>lhs;reduce;simp only [Int.reduceOfNat,Int.reduceNegSucc]:B8 Tryz.prog 12=_)
def A7i:=(by conv=>lhs;reduce;simp only [Int.reduceOfNat,Int.reduceNegSucc]:B8 Tryz.prog 13=_)
def A1x:=(by conv=>lhs;reduce;simp only [Int.reduceOfNat,Int.reduceNegSucc]:B8 Tryz.prog 14=_)
def B1d:=(by conv=>lhs;reduce;simp only [Int.reduceOfNat,Int.reduceNegSucc]:B8 Tryz.prog 15=_)
def A2d:=(by conv=>lhs;reduce;simp only [Int.reduceOfNat,Int.reduceNegSucc]:B8 Tryz.prog 16=_)
noncomputable def A7H:AC:=lpO Tryz.prog 17 0
noncomputable def A7I:AC:=lpO Tryz.prog 17 1
def S3:=(by conv=>lhs;reduce;simp only [Int.reduceOfNat,Int.reduceNegSucc]:A7I=_)
def A0j:=(by conv=>lhs;reduce;simp only [Int.reduceOfNat,Int.reduceNegSucc,←S3]:A7H=_)
def A2l:=(by conv=>lhs;reduce;simp only [Int.reduceOfNat,Int.reduceNegSucc,←A0j,←S3]:B8 Tryz.prog 17=_)
noncomputable def A8R:AC:=lpO Tryz.prog 18 0
noncomputable def A8S:AC:=lpO Tryz.prog 18 1
def T8:=(by conv=>lhs;reduce;simp only [Int.reduceOfNat,Int.reduceNegSucc]:A8S=_)
def A0J:=(by conv=>lhs;reduce;simp only [Int.reduceOfNat,Int.reduceNegSucc,←T8]:A8R=_)
def A2Y:=(by conv=>lhs;reduce;simp only [Int.reduceOfNat,Int.reduceNegSucc,←A0J,←T8]:B8 Tryz.prog 18=_)
noncomputable def A7F:AC:=lpO Tryz.prog 19 0
noncomputable def A7G:AC:=lpO Tryz.prog 19 1
def S0:=(by conv=>lhs;reduce;simp only [Int.reduceOfNat,Int.reduceNegSucc]:A7G=_)
def A0i:=(by conv=>lhs;reduce;simp only [Int.reduceOfNat,Int.reduceNegSucc,←S0]:A7F=_)
def A2k:=(by conv=>lhs;reduce;simp only [Int.reduceOfNat,Int.reduceNegSucc,←A0i,←S0]:B8 Tryz.prog 19=_)
noncomputable def A8B:AC:=lpO Tryz.prog 20 0
noncomputable def A8C:AC:=lpO Tryz.prog 20 1
def T4:=(by conv=>lhs;reduce;simp only [Int.reduceOfNat,Int.reduceNegSucc]:A8C=_)
def A0D:=(by conv=>lhs;reduce;simp only [Int.reduceOfNat,Int.reduceNegSucc,←T4]:A8B=_)
def A2M:=(by conv=>lhs;reduce;simp only [Int.reduceOfNat,Int.reduceNegSucc,←A0D,←T4]:B8 Tryz.prog 20=_)
noncomputable def B3Q:AC:=lpO Tryz.prog 22 0
def A4z:=(by conv=>lhs;reduce;simp only [Int.reduceOfNat,Int.reduceNegSucc]:B3Q=_)
def A7j:=(by conv=>lhs;reduce;simp only [Int.reduceOfNat,Int.reduceNegSucc,←A4z]:B8 Tryz.prog 22=_)
noncomputable def B0V:AC:=lpO Tryz.prog 23 0
def A2B:=(by conv=>lhs;reduce;simp only [Int.reduceOfNat,Int.reduceNegSucc]:B0V=_)
def A4x:=(by conv=>lhs;reduce;simp only [Int.reduceOfNat,Int.reduceNegSucc,←A2B]:B8 Tryz.prog 23=_)
def A7d:=(by conv=>lhs;reduce;simp only [Int.reduceOfNat,Int.reduceNegSucc]:B8 Tryz.prog 24=_)
noncomputable def B2Q:AC:=lpO Tryz.prog 25 0
def A3U:=(by conv=>lhs;reduce;simp only [Int.reduceOfNat,Int.reduceNegSucc]:B2Q=_)
def A6b:=(by conv=>lhs;reduce;simp only [Int.reduceOfNat,Int.reduceNegSucc,←A3U]:B8 Tryz.prog 25=_)
def A4y:=(by conv=>lhs;reduce;simp only [Int.reduceOfNat,Int.reduceNegSucc]:B8 Tryz.prog 26=_)
noncomputable def B9z:AC:=lpO Tryz.prog 27 0
noncomputable def B9A:AC:=lpO Tryz.prog 27 1
noncomputable def B9B:AC:=lpO Tryz.prog 27 2
noncomputable def B9C:AC:=lpO Tryz.prog 27 3
noncomputable def B9D:AC:=lpO Tryz.prog 27 4
noncomputable def B9E:AC:=lpO Tryz.prog 27 5
noncomputable def B9F:AC:=lpO Tryz.prog 27 6
noncomputable def B9G:AC:=lpO Tryz.prog 27 7
def I8:=(by conv=>lhs;reduce;simp only [Int.reduceOfNat,Int.reduceNegSucc]:B9G=_)
def K3:=(by conv=>lhs;reduce;simp only [Int.reduceOfNat,Int.reduceNegSucc,←I8]:B9F=_)
def N7:=(by conv=>lhs;reduce;simp only [Int.reduceOfNat,Int.reduceNegSucc,←K3,←I8]:B9E=_)
def U3:=(by conv=>lhs;reduce;simp only [Int.reduceOfNat,Int.reduceNegSucc,←N7,←K3,←I8]:B9D=_)
def f7:=(by conv=>lhs;reduce;simp only [Int.reduceOfNat,Int.reduceNegSucc,←U3,←N7,←K3,←I8]:B9C=_)
def A1s:=(by conv=>lhs;reduce;simp only [Int.reduceOfNat,Int.reduceNegSucc,←f7,←U3,←N7,←K3,←I8]:B9B=_)
def A4k:=(by conv=>lhs;reduce;simp only [Int.reduceOfNat,Int.reduceNegSucc,←A1s,←f7,←U3,←N7,←K3,←I8]:B9A=_)
def A9h:=(by conv=>lhs;reduce;simp only [Int.reduceOfNat,Int.reduceNegSucc,←A4k,←A1s,←f7,←U3,←N7,←K3,←I8]:B9z=_)
def B2t:=(by conv=>lhs;reduce;simp only [Int.reduceOfNat,Int.reduceNegSucc,←A9h,←A4k,←A1s,←f7,←U3,←N7,←K3,←I8]:B8 Tryz.prog 27=_)
noncomputable def B1J:AC:=lpO Tryz.prog 28 0
noncomputable def B1K:AC:=lpO Tryz.prog 28 1
noncomputable def B1L:AC:=lpO Tryz.prog 28 2
def S6:=(by conv=>lhs;reduce;simp only [Int.reduceOfNat,Int.reduceNegSucc]:B1L=_)
def j5:=(by conv=>lhs;reduce;simp only [Int.reduceOfNat,Int.reduceNegSucc,←S6]:B1K=_)
def A3j:=(by conv=>lhs;reduce;simp only [Int.reduceOfNat,Int.reduceNegSucc,←j5,←S6]:B1J=_)
def A5k:=(by conv=>lhs;reduce;simp only [Int.reduceOfNat,Int.reduceNegSucc,←A3j,←j5,←S6]:B8 Tryz.prog 28=_)
def A3i:=(by conv=>lhs;reduce;simp only [Int.reduceOfNat,Int.reduceNegSucc]:B8 Tryz.prog 29=_)
noncomputable def B2R:AC:=lpO Tryz.prog 30 0
def A3V:=(by conv=>lhs;reduce;simp only [Int.reduceOfNat,Int.reduceNegSucc]:B2R=_)
def A6c:=(by conv=>lhs;reduce;simp only [Int.reduceOfNat,Int.reduceNegSucc,←A3V]:B8 Tryz.prog 30=_)
def A0p:=(by conv=>lhs;reduce;simp only [Int.reduceOfNat,Int.reduceNegSucc]:B8 Tryz.prog 31=_)
noncomputable def B3R:AC:=lpO Tryz.prog 32 0
def A4A:=(by conv=>lhs;reduce;simp only [Int.reduceOfNat,Int.reduceNegSucc]:B3R=_)
def A7k:=(by conv=>lhs;reduce;simp only [Int.reduceOfNat,Int.reduceNegSucc,←A4A]:B8 Tryz.prog 32=_)
def A5g:=(by conv=>lhs;reduce;simp only [Int.reduceOfNat,Int.reduceNegSucc]:B8 Tryz.prog 33=_)
noncomputable def B7z:AC:=lpO Tryz.prog 34 0
noncomputable def B7A:AC:=lpO Tryz.prog 34 1
def A3B:=(by conv=>lhs;reduce;simp only [Int.reduceOfNat,Int.reduceNegSucc]:B7A=_)
def A3A:=(by conv=>lhs;reduce;simp only [Int.reduceOfNat,Int.reduceNegSucc,←A3B]:B7z=_)
def B0Y:=(by conv=>lhs;reduce;simp only [Int.reduceOfNat,Int.reduceNegSucc,←A3A,←A3B]:B8 Tryz.prog 34=_)
def A3S:=(by conv=>lhs;reduce;simp only [Int.reduceOfNat,Int.reduceNegSucc]:B8 Tryz.prog 35=_)
def A3f:=(by conv=>lhs;reduce;simp only [Int.reduceOfNat,Int.reduceNegSucc]:B8 Tryz.prog 36=_)
noncomputable def A7N:AC:=lpO Tryz.prog 38 0
def S4:=(by conv=>lhs;reduce;simp only [Int.reduceOfNat,Int.reduceNegSucc]:A7N=_)
def Y3:=(by conv=>lhs;reduce;simp only [Int.reduceOfNat,Int.reduceNegSucc,←S4]:B8 Tryz.prog 38=_)
noncomputable def L4:AC:=lpO Tryz.prog 42 0
def F1:=(by conv=>lhs;reduce;simp only [Int.reduceOfNat,Int.reduceNegSucc]:L4=_)
def F4:=(by conv=>lhs;reduce;simp only [Int.reduceOfNat,Int.reduceNegSucc,←F1]:B8 Tryz.prog 42=_)
noncomputable def A5K:AC:=lpO Tryz.prog 43 0
noncomputable def A5L:AC:=lpO Tryz.prog 43 1
def N8:=(by conv=>lhs;reduce;simp only [Int.reduceOfNat,Int.reduceNegSucc]:A5L=_)
def i4:=(by conv=>lhs;reduce;simp only [Int.reduceOfNat,Int.reduceNegSucc,←N8]:A5K=_)
def T7:=(by conv=>lhs;reduce;simp only [Int.reduceOfNat,Int.reduceNegSucc,←i4,←N8]:B8 Tryz.prog 43=_)
def A1p:=(by conv=>lhs;reduce;simp only [Int.reduceOfNat,Int.reduceNegSucc]:B8 Tryz.prog 44=_)
def A2p:=(by conv=>lhs;reduce;simp only [Int.reduceOfNat,Int.reduceNegSucc]:B8 Tryz.prog 45=_)
noncomputable def A8I:AC:=lpO Tryz.prog 46 0
noncomputable def A8J:AC:=lpO Tryz.prog 46 1
noncomputable def A8K:AC:=lpO Tryz.prog 46 2
noncomputable def A8L:AC:=lpO Tryz.prog 46 3
noncomputable def A8M:AC:=lpO Tryz.prog 46 4
noncomputable def A8N:AC:=lpO Tryz.prog 46 5
noncomputable def A8O:AC:=lpO Tryz.prog 46 6
noncomputable def A8P:AC:=lpO Tryz.prog 46 7
def D4:=(by conv=>lhs;reduce;simp only [Int.reduceOfNat,Int.reduceNegSucc]:A8P=_)
def E2:=(by conv=>lhs;reduce;simp only [Int.reduceOfNat,Int.reduceNegSucc,←D4]:A8O=_)
def E9:=(by conv=>lhs;reduce;simp only [Int.reduceOfNat,Int.reduceNegSucc,←E2,←D4]:A8N=_)
def G0:=(by conv=>lhs;reduce;simp only [Int.reduceOfNat,Int.reduceNegSucc,←E9,←E2,←D4]:A8M=_)
def I0:=(by conv=>lhs;reduce;simp only [Int.reduceOfNat,Int.reduceNegSucc,←G0,←E9,←E2,←D4]:A8L=_)
def L0:=(by conv=>lhs;reduce;simp only [Int.reduceOfNat,Int.reduceNegSucc,←I0,←G0,←E9,←E2,←D4]:A8K=_)
def T6:=(by conv=>lhs;reduce;simp only [Int.reduceOfNat,Int.reduceNegSucc,←L0,←I0,←G0,←E9,←E2,←D4]:A8J=_)
def A0G:=(by conv=>lhs;reduce;simp only [Int.reduceOfNat,Int.reduceNegSucc,←T6,←L0,←I0,←G0,←E9,←E2,←D4]:A8I=_)
def A2V:=(by conv=>lhs;reduce;simp only [Int.reduceOfNat,Int.reduceNegSucc,←A0G,←T6,←L0,←I0,←G0,←E9,←E2,←D4]:B8 Tryz.prog 46=_)
noncomputable def A7L:AC:=lpO Tryz.prog 47 0
def A0n:=(by conv=>lhs;reduce;simp only [Int.reduceOfNat,Int.reduceNegSucc]:A7L=_)
def A2o:=(by conv=>lhs;reduce;simp only [Int.reduceOfNat,Int.reduceNegSucc,←A0n]:B8 Tryz.prog 47=_)
noncomputable def B0v:AC:=lpO Tryz.prog 48 0
def A2n:=(by conv=>lhs;reduce;simp only [Int.reduceOfNat,Int.reduceNegSucc]:B0v=_)
def A3Z:=(by conv=>lhs;reduce;simp only [Int.reduceOfNat,Int.reduceNegSucc,←A2n]:B8 Tryz.prog 48=_)
noncomputable def A8U:AC:=lpO Tryz.prog 49 0
noncomputable def A8V:AC:=lpO Tryz.prog 49 1
def T9:=(by conv=>lhs;reduce;simp only [Int.reduceOfNat,Int.reduceNegSucc]:A8V=_)
def A0L:=(by conv=>lhs;reduce;simp only [Int.reduceOfNat,Int.reduceNegSucc,←T9]:A8U=_)
def A3a:=(by conv=>lhs;reduce;simp only [Int.reduceOfNat,Int.reduceNegSucc,←A0L,←T9]:B8 Tryz.prog 49=_)
noncomputable def A5x:AC:=lpO Tryz.prog 50 0
noncomputable def A5y:AC:=lpO Tryz.prog 50 1
def N0:=(by conv=>lhs;reduce;simp only [Int.reduceOfNat,Int.reduceNegSucc]:A5y=_)
def Y7:=(by conv=>lhs;reduce;simp only [Int.reduceOfNat,Int.reduceNegSucc,←N0]:A5x=_)
def A0l:=(by conv=>lhs;reduce;simp only [Int.reduceOfNat,Int.reduceNegSucc,←Y7,←N0]:B8 Tryz.prog 50=_)
noncomputable def A6N:AC:=lpO Tryz.prog 51 0
noncomputable def A6O:AC:=lpO Tryz.prog 51 1
noncomputable def A6P:AC:=lpO Tryz.prog 51 2
def J3:=(by conv=>lhs;reduce;simp only [Int.reduceOfNat,Int.reduceNegSucc]:A6P=_)
def P6:=(by conv=>lhs;reduce;simp only [Int.reduceOfNat,Int.reduceNegSucc,←J3]:A6O=_)
def q8:=(by conv=>lhs;reduce;simp only [Int.reduceOfNat,Int.reduceNegSucc,←P6,←J3]:A6N=_)
def A1o:=(by conv=>lhs;reduce;simp only [Int.reduceOfNat,Int.reduceNegSucc,←q8,←P6,←J3]:B8 Tryz.prog 51=_)
noncomputable def A7v:AC:=lpO Tryz.prog 52 0
noncomputable def A7w:AC:=lpO Tryz.prog 52 1
def R8:=(by conv=>lhs;reduce;simp only [Int.reduceOfNat,Int.reduceNegSucc]:A7w=_)
def R7:=(by conv=>lhs;reduce;simp only [Int.reduceOfNat,Int.reduceNegSucc,←R8]:A7v=_)
def A2b:=(by conv=>lhs;reduce;simp only [Int.reduceOfNat,Int.reduceNegSucc,←R7,←R8]:B8 Tryz.prog 52=_)
def A1a:=(by conv=>lhs;reduce;simp only [Int.reduceOfNat,Int.reduceNegSucc]:B8 Tryz.prog 53=_)
noncomputable def A7K:AC:=lpO Tryz.prog 54 0
def A0m:=(by conv=>lhs;reduce;simp only [Int.reduceOfNat,Int.reduceNegSucc]:A7K=_)
def A2m:=(by conv=>lhs;reduce;simp only [Int.reduceOfNat,Int.reduceNegSucc,←A0m]:B8 Tryz.prog 54=_)
noncomputable def B1M:AC:=lpO Tryz.prog 55 0
noncomputable def B1N:AC:=lpO Tryz.prog 55 1
def j6:=(by conv=>lhs;reduce;simp only [Int.reduceOfNat,Int.reduceNegSucc]:B1N=_)
def A3k:=(by conv=>lhs;reduce;simp only [Int.reduceOfNat,Int.reduceNegSucc,←j6]:B1M=_)
def A5l:=(by conv=>lhs;reduce;simp only [Int.reduceOfNat,Int.reduceNegSucc,←A3k,←j6]:B8 Tryz.prog 55=_)
noncomputable def A1t:AC:=lpO Tryz.prog 56 0
noncomputable def A1u:AC:=lpO Tryz.prog 56 1
def A1A:=(by conv=>lhs;reduce;simp only [Int.reduceOfNat,Int.reduceNegSucc]:A1u=_)
def A5m:=(by conv=>lhs;reduce;simp only [Int.reduceOfNat,Int.reduceNegSucc,←A1A]:A1t=_)
def B0l:=(by conv=>lhs;reduce;simp only [Int.reduceOfNat,Int.reduceNegSucc,←A5m,←A1A]:B8 Tryz.prog 56=_)
def B2v:=(by conv=>lhs;reduce;simp only [Int.reduceOfNat,Int.reduceNegSucc]:B8 Tryz.prog 57=_)
noncomputable def B9H:AC:=lpO Tryz.prog 58 0
def A9j:=(by conv=>lhs;reduce;simp only [Int.reduceOfNat,Int.reduceNegSucc]:B9H=_)
def B2w:=(by conv=>lhs;reduce;simp only [Int.reduceOfNat,Int.reduceNegSucc,←A9j]:B8 Tryz.prog 58=_)
def B2u:=(by conv=>lhs;reduce;simp only [Int.reduceOfNat,Int.reduceNegSucc]:B8 Tryz.prog 59=_)
def A9i:=(by conv=>lhs;reduce;simp only [Int.reduceOfNat,Int.reduceNegSucc]:B8 Tryz.prog 60=_)
noncomputable def A7O:AC:=lpO Tryz.prog 61 0
def A0s:=(by conv=>lhs;reduce;simp only [Int.reduceOfNat,Int.reduceNegSucc]:A7O=_)
def A2q:=(by conv=>lhs;reduce;simp only [Int.reduceOfNat,Int.reduceNegSucc,←A0s]:B8 Tryz.prog 61=_)
def N1:=(by conv=>lhs;reduce;simp only [Int.reduceOfNat,Int.reduceNegSucc]:B8 Tryz.prog 62=_)
def A5h:=(by conv=>lhs;reduce;simp only [Int.reduceOfNat,Int.reduceNegSucc]:B8 Tryz.prog 63=_)
end Go.Proofs.YtcaaenddpjepiaaGreatDoor
