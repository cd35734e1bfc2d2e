/-
 The text of an instruction and what it is parsed to, as lists: numerals, words. No program, no condition.
-/
import Derived.Test.YtcjgeliglgcflaaGreatDoorOpT
import Derived.Lib.AtoiAll
import Derived.Lib.ItoaNum
import Derived.Lib.ItoaLen
import Derived.Lib.Split
set_option linter.unusedVariables false
set_option linter.unusedSimpArgs false
set_option maxRecDepth 100000
set_option maxHeartbeats 0
namespace Go.Proofs.YtcjgeliglgcflaaGreatDoor
open Go Go.Abs
theorem B3n{u:Nat}(h:u<10):(UInt8.ofNat (48+u)).toNat=48+u:=by
 rw [UInt8.toNat_ofNat'];omega
theorem B3o: ∀(u:Nat),∀c∈Lib.decDigits u,48≤c.toNat∧c.toNat≤57:=by
 intro u
 induction u using Nat.strongRecOn with
 | ind u ih=>
  intro c hc
  rw [Lib.decDigits]at hc
  by_cases h:u<10
  ·rw [dif_pos h,List.mem_singleton]at hc
   rw [hc,B3n h];omega
  ·rw [dif_neg h]at hc
   rcases List.mem_append.1 hc with hc|hc
   ·exact ih (u/10) (by omega) c hc
   ·rw [List.mem_singleton]at hc
    rw [hc,B3n (by omega)];omega
def A7c:List Int→List Int→List UInt8
 |k::ks,x::xs=>(if k=0 then []else 32::Lib.itoa x)++A7c ks xs
 |_,_=> []
theorem A2a{n:Int}(h0: -9223372036854775808≤n)(h1:n≤9223372036854775807):(Lib.itoa n).length≤21:=Lib.itoa_length_le n h0 h1
def A9z(i:Ins):List UInt8:=if A1Z i.op=true then(frm i.op).word++A7c (frm i.op).ks i.fs else []
end Go.Proofs.YtcjgeliglgcflaaGreatDoor
