/-
  Slots that are read no more are dropped. No condition.
-/
import Derived.Test.YtlckjdhammcpaaaDoorWk
set_option linter.unusedVariables false
namespace Go.Abs

def keepS (sl : List (Nat × V)) : List Nat → List (Nat × V)
  | [] => []
  | i :: l => (i, sget sl i) :: keepS sl l
attribute [go_sem] keepS
theorem keepS_mem {sl : List (Nat × V)} : ∀ {l : List Nat} {p : Nat × V}, p ∈ keepS sl l → p.2 = sget sl p.1
  | [], p, h => by cases h
  | i :: l, p, h => by
    rcases List.mem_cons.1 h with rfl | h
    · rfl
    · exact keepS_mem h
theorem Run.keep (l : List Nat) {c : Cf} {k : List AItem} {sl : List (Nat × V)} {h : Heap} {n : Nat} (hr : Run c k ⟨keepS sl l, h, n⟩) : Run c k ⟨sl, h, n⟩ :=
  Run.weak (s' := ⟨keepS sl l, h, n⟩) ⟨fun p hp => keepS_mem hp, fun _ h => h, Nat.le_refl _⟩ hr
end Go.Abs
