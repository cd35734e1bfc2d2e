/-
 The law's own example: its listing, and what is read of it. No condition.
-/
import Derived.Test.YtflobbpcabopjaaGreatDoorLsX
import Derived.Test.YtflobbpcabopjaaGreatDoorLs0
set_option linter.unusedVariables false set_option maxRecDepth 1000000
set_option maxHeartbeats 0
namespace Go.Proofs.YtflobbpcabopjaaGreatDoor
open Go Go.Abs
attribute [local irreducible] A0 Run J4
def exK:Kst:=⟨2,7,1,[],0⟩
def exF:Fn:=⟨[109,97,105,110],0,0,true,1,[⟨29,0,0,0,0⟩,⟨2,0,0,0,0⟩,⟨18,0,1,0,0⟩],[1,1,1],[exK],[],[],[]⟩
def exR:List V:= [.str [109,97,105,110],.int .i64 0,.int .i64 0,.bool true,.int .i64 1,.isl [[.int .i64 29,.int .i64 0,.int .i64 0,.int .i64 0,.int .i64 0],[.int .i64 2,.int .i64 0,.int .i64 0,.int .i64 0,.int .i64 0],[.int .i64 18,.int .i64 0,.int .i64 1,.int .i64 0,.int .i64 0]],.isl [[.int .i64 1],[.int .i64 1],[.int .i64 1]],.isl [[.int .i64 2,.int .i64 7,.int .i64 1,.str [],.int .i64 0]],.isl [],.isl [],.isl []]
theorem C1y:exF.row=exR:=by rw [Fn.row_eq];rfl
def C6F:List UInt8:= [102,117,110,99,32,109,97,105,110,32,34,109,97,105,110,34,32,108,105,110,101,32,48,32,112,97,114,97,109,115,32,48,32,114,101,103,115,32,49,32,118,97,114,97,114,103,10]
def C7W:List UInt8:= [32,32,99,111,110,115,116,32,48,32,55,10,32,32,48,32,49,32,115,116,97,116,32,48,10,32,32,49,32,49,32,99,111,110,115,116,32,48,32,48,10,32,32,50,32,49,32,114,101,116,117,114,110,32,48,32,49,10]
theorem D0v:exF.bd:=by
 intro q hq
 rw [Fn.each_eq]at hq
 simp only [exF,Fn.eachs,List.mem_cons,List.not_mem_nil,or_false]at hq
 subst hq
 exact⟨by decide,by decide,by decide,by decide,by decide,by decide⟩
theorem C6r:A1f exF=0:=by
 decide+kernel
theorem C6q:Pure Tryz.prog 14 [.agg exR] (.int .i64 0):=by
 have:=A1W exF D0v (by decide+kernel)
 rwa [C6r,C1y]at this
theorem C8M:N4 exF=C6F++C7W:=by decide+kernel
def D6f:G9:=C9f 14 [.agg exR] (.int .i64 0) D6g
theorem C9d:G2 Tryz.prog D6f:=C3f C6q rfl C9e
theorem C8N:Pure Tryz.prog 11 [.agg exR] (.tup [.str (C6F++C7W),.int .i64 0]):=by
 have:=A4L exF D0v (by decide+kernel) (by rw [C1y];simp [exR,n64L,n64,n64LL,inB]) (by decide+kernel)
 unfold B6e at this
 rwa [C6r,if_pos rfl,C1y,C8M]at this
def D7t:G9:=C9f 11 [.agg exR] (.tup [.str (C6F++C7W),.int .i64 0]) D6f
theorem C9g:G2 Tryz.prog D7t:=C3f C8N rfl C9d
theorem B0C:Pure Tryz.prog 10 [] (.bool true):=Pure.execB (m:=100000) (d:=22) (fr:=1) B4X C9g zh
end Go.Proofs.YtflobbpcabopjaaGreatDoor
