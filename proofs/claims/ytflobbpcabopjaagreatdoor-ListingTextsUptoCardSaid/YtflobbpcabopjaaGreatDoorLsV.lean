/-
 The law's own example: its listing, and what is read of it. No condition.
-/
import Derived.Test.YtflobbpcabopjaaGreatDoorLsX
import Derived.Test.YtflobbpcabopjaaGreatDoorLs3
set_option linter.unusedVariables false
set_option linter.unusedSimpArgs false
set_option maxRecDepth 1000000
set_option maxHeartbeats 0
namespace Go.Proofs.YtflobbpcabopjaaGreatDoor
open Go Go.Abs
attribute [local irreducible] A0 Run G9
def exK:Kst:=⟨2,7,1,[],0⟩
def exF:Fn:=⟨[109,97,105,110],0,0,true,1,[⟨29,0,0,0,0⟩,⟨2,0,0,0,0⟩,⟨18,0,1,0,0⟩],[1,1,1],[exK],[],[],[]⟩
def exR:List V:= [.str [109,97,105,110],.int .i64 0,.int .i64 0,.bool true,.int .i64 1,.isl [[.int .i64 29,.int .i64 0,.int .i64 0,.int .i64 0,.int .i64 0],[.int .i64 2,.int .i64 0,.int .i64 0,.int .i64 0,.int .i64 0],[.int .i64 18,.int .i64 0,.int .i64 1,.int .i64 0,.int .i64 0]],.isl [[.int .i64 1],[.int .i64 1],[.int .i64 1]],.isl [[.int .i64 2,.int .i64 7,.int .i64 1,.str [],.int .i64 0]],.isl [],.isl [],.isl []]
theorem C0y:exF.row=exR:=by rw [Fn.row_eq];rfl
def C4Y:List UInt8:= [102,117,110,99,32,109,97,105,110,32,34,109,97,105,110,34,32,108,105,110,101,32,48,32,112,97,114,97,109,115,32,48,32,114,101,103,115,32,49,32,118,97,114,97,114,103,10]
def C6g:List UInt8:= [32,32,99,111,110,115,116,32,48,32,55,10,32,32,48,32,49,32,115,116,97,116,32,48,10,32,32,49,32,49,32,99,111,110,115,116,32,48,32,48,10,32,32,50,32,49,32,114,101,116,117,114,110,32,48,32,49,10]
theorem C8k:exF.bd:=by
 intro q hq
 rw [Fn.each_eq]at hq
 simp only [exF,Fn.eachs,List.mem_cons,List.not_mem_nil,or_false]at hq
 subst hq
 exact⟨by decide,by decide,by decide,by decide,by decide,by decide⟩
theorem C4R:A6d exF=0:=by
 decide+kernel
theorem C4Q:Pure Tryz.prog 14 [.agg exR] (.int .i64 0):=by
 have:=B4b exF C8k (by decide+kernel)
 rwa [C4R,C0y]at this
theorem C6N:Q8 exF=C4Y++C6g:=by decide+kernel
def D3u:G8:=C7e 14 [.agg exR] (.int .i64 0) libS
theorem C7d:G6 Tryz.prog D3u:=C1W C4Q rfl libS_ok
theorem C6O:Pure Tryz.prog 11 [.agg exR] (.tup [.str (C4Y++C6g),.int .i64 0]):=by
 have:=V6 exF C8k (by decide+kernel) (by rw [C0y];simp [exR,n64L,n64,n64LL,inB]) (by decide+kernel)
 unfold B4h at this
 rwa [C4R,if_pos rfl,C0y,C6N]at this
def D4F:G8:=C7e 11 [.agg exR] (.tup [.str (C4Y++C6g),.int .i64 0]) D3u
theorem C7f:G6 Tryz.prog D4F:=C1W C6O rfl C7d
theorem B0Q:Pure Tryz.prog 10 [] (.bool true):=Pure.execB (m:=100000) (d:=22) (fr:=1) B7M C7f (by kernel_rfl)
end Go.Proofs.YtflobbpcabopjaaGreatDoor
