/-
 What the writer of numbers, truths, texts and values puts behind its bytes. No condition.
-/
import Derived.Test.YtilggmmkmegefaaGreatDoorFn
import Derived.Test.YtilggmmkmegefaaGreatDoorCode
set_option linter.unusedVariables false
set_option linter.unusedSimpArgs false
set_option maxRecDepth 100000
set_option maxHeartbeats 0
namespace Go.Proofs.YtilggmmkmegefaaGreatDoor
open Go.Abs
attribute [local irreducible] A4 Run
abbrev dW : Nat := (10 * 10000 + 15)
abbrev dB : Nat := (10 * 10000 + 12)
-- EV: dW, dB
def byR (l : List Int) : List (List V) := l.map fun z => [.int .u8 z]
theorem T8 (l : List Int) : (byR l).length = l.length := List.length_map ..
theorem B0O (l : List Int) : C6 (byR l) 1 = True := eq_true (fun r hr => by obtain ⟨y, _, rfl⟩ := List.mem_map.1 hr; rfl)
theorem C1Y (l : List Int) : (byR l).take l.length = byR l := List.take_of_length_le (by rw [T8]; exact Nat.le_refl _)
def uN (z : Int) : Nat → Int
 | 0 => IntKind.u64.wrap z
 | k + 1 => shZ false .u64 (uN z k) 8
def B9t (z : Int) : Nat → List Int
 | 0 => []
 | k + 1 => B9t z k ++ [IntKind.u8.wrap (uN z k)]
def U0 (z : Int) : List Int := B9t z 8
theorem B6B (z : Int) : ∀ k, (B9t z k).length = k
 | 0 => rfl
 | k + 1 => by rw [B9t, List.length_append, B6B z k]; rfl
def B4k (s : List UInt8) : List Int := U0 s.length ++ s.map fun u => (u.toNat : Int)
theorem C2Q (a b : List Int) : byR (a ++ b) = byR a ++ byR b := by simp [byR]
theorem A5E (z : Int) : (U0 z).length = 8 := B6B z 8
def B7g (v : Kst) : List Int := [IntKind.u8.wrap v.kind] ++ (if v.kind = 1 then [if v.ref = 1 then 1 else 0] else if v.kind = 2 then U0 v.p ++ U0 v.q else if v.kind = 3 then B4k v.str else [])
end Go.Proofs.YtilggmmkmegefaaGreatDoor
