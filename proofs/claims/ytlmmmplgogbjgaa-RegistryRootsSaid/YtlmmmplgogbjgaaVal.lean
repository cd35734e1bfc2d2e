/-
  What valid values are, and that the program's answer is so. No condition.
-/
import Derived.Test.YtlmmmplgogbjgaaNum
set_option linter.unusedVariables false
set_option linter.unusedSimpArgs false
set_option maxRecDepth 100000
namespace Go.Proofs.Ytlmmmplgogbjgaa
open Go.Abs
attribute [local irreducible] CallS Run

def vValid (k p q : Int) (s : List UInt8) (r : Int) : Bool :=
  if k = 0 then decide (p = 0 ∧ q = 0 ∧ s = [] ∧ r = 0)
  else if k = 1 then decide (p = 0 ∧ q = 0 ∧ s = [] ∧ (r = 0 ∨ r = 1))
  else if k = 2 then numValid p q && decide (s = [] ∧ r = 0)
  else if k = 3 then decide (p = 0 ∧ q = 0 ∧ r = 0 ∧ s.length ≤ 4096)
  else if k = 6 then decide (p = 0 ∧ q = 0 ∧ r = 0 ∧ 1 ≤ s.length ∧ s.length ≤ 4096)
  else if k = 4 ∨ k = 5 ∨ k = 7 ∨ k = 8 then decide (p = 0 ∧ q = 0 ∧ s = [] ∧ 1 ≤ r)
  else false

abbrev vV (k p q : Int) (s : List UInt8) (r : Int) : V := .agg [.int .i64 k, .int .i64 p, .int .i64 q, .str s, .int .i64 r]

theorem vValid_pure (k p q : Int) (s : List UInt8) (r : Int) : Pure Try.prog 31 [vV k p q s r] (.bool (vValid k p q s r)) := by
  refine Pure.of 0 (CallS.enter value_Valid_ok (Nat.le_of_ble_eq_true rfl) ?_)
  refine Run.go 100 ?_
  simp -implicitDefEqProofs only [go_sem, initSl]
  repeat' (first | refine And.intro ?_ ?_ | refine fun h => ?_)
  case refine_2.refine_2.refine_1 h =>
    refine CallS.pureF (numValid_pure p q) (by simp -implicitDefEqProofs only [go_sem]) ?_
    simp -implicitDefEqProofs only [go_sem]
    exact ⟨fun hv => by simp [vValid, h, hv], fun hv => by simp [vValid, h, hv]⟩
  all_goals unfold vValid
  all_goals first
    | assumption
    | (simp [*]; done)
    | (by_cases hp : p = 0 <;> by_cases hq : q = 0 <;> by_cases hs : s = [] <;> by_cases hr : r = 0 <;> simp_all <;> omega)
end Go.Proofs.Ytlmmmplgogbjgaa
