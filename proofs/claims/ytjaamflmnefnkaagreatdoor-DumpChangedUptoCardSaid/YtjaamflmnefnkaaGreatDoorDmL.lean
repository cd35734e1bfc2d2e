/-
  Whether a function has many parts. No condition.
-/
import Derived.Test.YtjaamflmnefnkaaGreatDoorFnR
set_option linter.unusedVariables false
set_option linter.unusedSimpArgs false
set_option maxRecDepth 100000
set_option maxHeartbeats 0
namespace Go.Proofs.YtjaamflmnefnkaaGreatDoor
open Go Go.Abs
attribute [local irreducible] CallS Run

theorem rcount_pure (p : Fn) (hp : p.bd) (hc : p.each.length ≤ 1000000) : Pure Tryz.prog 9 [.agg p.row] (.int .i64 p.each.length) := by
  have he := reach_call p hp hc
  have hps := Fn.row_sub lost p
  obtain ⟨g1, g2⟩ := fn_row11 p
  have hlE : (p.each.map Fn.row).length = p.each.length := List.length_map ..
  generalize p.each.map Fn.row = ER at *
  generalize p.row = pr at *
  refine Pure.of 0 (CallS.enter scriptingref33_Count_ok (Nat.le_of_ble_eq_true rfl) (Run.go 100 ?_))
  simp -implicitDefEqProofs only [go_sem, initSl, g1, g2]
  refine CallS.pureF he (by simp -implicitDefEqProofs only [go_sem, hps]) ?_
  simp -implicitDefEqProofs only [go_sem, hlE]
theorem large_pure (p : Fn) (hp : p.bd) (hc : p.each.length ≤ 1000000) : ∃ b, Pure Tryz.prog 4 [.agg p.row] (.bool b) := by
  have h1 := rcount_pure p hp hc
  have h2 := rsize_pure p hp hc
  have hps := Fn.row_sub lost p
  obtain ⟨g1, g2⟩ := fn_row11 p
  generalize hn : (p.each.length : Int) = n at *
  generalize sizeL p.each = z at *
  generalize p.row = pr at *
  refine ⟨decide (n > 60 ∨ z > 2000), Pure.of 0 (CallS.enter scriptinglaw40_large_ok (Nat.le_of_ble_eq_true rfl) (Run.go 100 ?_))⟩
  simp -implicitDefEqProofs only [go_sem, initSl, g1, g2]
  refine CallS.pureF h1 (by simp -implicitDefEqProofs only [go_sem, hps]) ?_
  by_cases c1 : n > 60
  · simp -implicitDefEqProofs only [go_sem, c1]
  · simp -implicitDefEqProofs only [go_sem, c1, g1, g2]
    refine CallS.pureF h2 (by simp -implicitDefEqProofs only [go_sem, hps]) ?_
    simp -implicitDefEqProofs only [go_sem, c1]
    exact decide_eq_decide.2 (by omega)
end Go.Proofs.YtjaamflmnefnkaaGreatDoor
